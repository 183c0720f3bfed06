/- The functions of this part of the program, each by its functional form. -/
import Derived.Test.YteliolfafmmhlaaGreatDoorEv6
import Derived.Test.YteliolfafmmhlaaGreatDoorProg
import Derived.Test.YteliolfafmmhlaaGreatDoorEvLb
import Derived.Test.YteliolfafmmhlaaGreatDoorEvLc
import Derived.Test.YteliolfafmmhlaaGreatDoorEvCl
import Derived.Test.YteliolfafmmhlaaGreatDoorShelf
import Derived.Test.YteliolfafmmhlaaGreatDoorTok
namespace Go.Proofs.YteliolfafmmhlaaGreatDoor.Fns
open Go Go.RowKit Go.Proofs Go.Proofs.YteliolfafmmhlaaGreatDoor.Ev
set_option maxRecDepth 1000000
set_option linter.unusedVariables false
abbrev U0 : Ty := .struct (.pair .str .str)
abbrev D0 := ByteArray × ByteArray
def Z0 : D0 := Ty.zero U0
abbrev U1 : Ty := .struct (.pair (.int .i64) (.pair (.slice U0) .str))
abbrev D1 := Int × (List D0) × ByteArray
def Z1 : D1 := Ty.zero U1
abbrev U2 : Ty := .struct (.pair .str (.pair (.slice U0) (.pair U1 (.pair (.int .i64) (.int .i64)))))
abbrev D2 := ByteArray × (List D0) × D1 × Int × Int
def Z2 : D2 := Ty.zero U2
abbrev U3 : Ty := .struct (.pair U2 .bool)
abbrev D3 := D2 × Bool
def Z3 : D3 := Ty.zero U3
abbrev U4 : Ty := .struct (.pair (.int .i64) (.pair (.int .i64) (.pair (.slice U3) (.int .i64))))
abbrev D4 := Int × Int × (List D3) × Int
def Z4 : D4 := Ty.zero U4
abbrev U5 : Ty := .struct (.pair .str (.int .i64))
abbrev D5 := ByteArray × Int
def Z5 : D5 := Ty.zero U5
abbrev U6 : Ty := .struct (.pair (.slice U4) (.slice U5))
abbrev D6 := (List D4) × (List D5)
def Z6 : D6 := Ty.zero U6
abbrev U7 : Ty := .struct (.pair .str (.pair .str (.pair (.int .i64) (.pair (.int .i64) (.pair .bool (.pair .bool (.slice U0)))))))
abbrev D7 := ByteArray × ByteArray × Int × Int × Bool × Bool × (List D0)
def Z7 : D7 := Ty.zero U7
abbrev U8 : Ty := .struct (.slice U7)
abbrev D8 := (List D7)
def Z8 : D8 := Ty.zero U8
abbrev U9 : Ty := .struct (.pair .str (.pair .str (.pair (.slice U0) .str)))
abbrev D9 := ByteArray × ByteArray × (List D0) × ByteArray
def Z9 : D9 := Ty.zero U9
abbrev U10 : Ty := .struct (.pair (.int .i64) U1)
abbrev D10 := Int × D1
def Z10 : D10 := Ty.zero U10
abbrev U11 : Ty := .struct (.pair (.int .i64) (.pair .str (.pair (.int .i64) (.pair U9 (.pair U9 (.pair U2 (.pair .bool (.pair (.int .i64) (.pair (.int .i64) (.pair (.int .i64) (.pair (.int .i64) (.pair .bool (.pair U1 (.slice U10))))))))))))))
abbrev D11 := Int × ByteArray × Int × D9 × D9 × D2 × Bool × Int × Int × Int × Int × Bool × D1 × (List D10)
def Z11 : D11 := Ty.zero U11
abbrev U12 : Ty := .struct (.pair .str (.pair .bool (.pair (.int .i64) (.pair .bool (.pair .bool (.pair U9 (.pair U1 (.pair (.int .i64) (.int .i64)))))))))
abbrev D12 := ByteArray × Bool × Int × Bool × Bool × D9 × D1 × Int × Int
def Z12 : D12 := Ty.zero U12
abbrev U13 : Ty := .struct (.pair (.int .i64) (.pair (.int .i64) (.pair (.int .i64) (.pair .str (.pair (.int .i64) (.int .i64))))))
abbrev D13 := Int × Int × Int × ByteArray × Int × Int
def Z13 : D13 := Ty.zero U13
abbrev U14 : Ty := .struct (.pair (.int .i64) (.pair (.int .i64) (.pair (.slice U11) (.pair U6 (.pair (.slice U12) (.pair U8 (.slice U13)))))))
abbrev D14 := Int × Int × (List D11) × D6 × (List D12) × D8 × (List D13)
def Z14 : D14 := Ty.zero U14
def kp (l : List ((List Nat × Nat) × Keep)) : List Nat → Nat → Keep := fun p r => match l with | [] => ⟨[], [], [], false⟩ | e :: l => bif p == e.1.1 && Nat.beq r e.1.2 then e.2 else kp l p r
noncomputable def T (keep : List Nat → Nat → Keep) (k : Nat) : Tabs where
  ty := [(3, (.int .i64)), (4, .bool), (5, (.int .u8)), (9, .str), (22, (.slice .str)), (23, (.slice U4)), (24, (.slice U5)), (26, U6), (27, (.slice U7)), (29, U8), (33, (.slice U11)), (34, (.slice U4)), (35, (.slice U5)), (37, U6), (38, (.slice U12)), (39, (.slice U7)), (41, U8), (42, (.slice U13)), (44, U14), (69, (.slice U11)), (70, (.slice U12)), (71, (.slice U13)), (73, U14), (87, (.slice U0)), (89, U9), (91, U1), (93, U2), (94, (.slice U10)), (96, U11), (129, (.slice U3)), (131, U4), (134, U5), (136, (.slice U0)), (138, U7), (140, (.slice U3)), (142, U4), (145, U3), (147, U5), (149, U7), (160, U0), (164, U12), (167, U13), (171, (.slice (.int .u8))), (186, U9), (188, U1), (190, U2), (191, (.slice U10)), (193, U11), (196, U12), (198, U13), (230, U10), (246, U3), (248, U0), (266, U10)]
  cmp := [160]
  body := [(7, Tryz.f7), (8, Tryz.f8), (9, Tryz.f9), (10, Tryz.f10), (11, Tryz.f11), (12, Tryz.f12), (13, Tryz.f13), (14, Tryz.f14), (15, Tryz.f15), (16, Tryz.f16), (17, Tryz.f17), (18, Tryz.f18), (23, Tryz.f23), (30, Tryz.f30), (31, Tryz.f31), (32, Tryz.f32), (33, Tryz.f33), (34, Tryz.f34), (35, Tryz.f35), (36, Tryz.f36), (37, Tryz.f37), (38, Tryz.f38), (39, Tryz.f39), (40, Tryz.f40), (41, Tryz.f41), (42, Tryz.f42), (43, Tryz.f43), (44, Tryz.f44), (45, Tryz.f45), (46, Tryz.f46), (47, Tryz.f47), (48, Tryz.f48), (49, Tryz.f49), (50, Tryz.f50), (51, Tryz.f51), (52, Tryz.f52), (53, Tryz.f53), (54, Tryz.f54), (55, Tryz.f55), (56, Tryz.f56), (57, Tryz.f57), (58, Tryz.f58), (65, Tryz.f65), (66, Tryz.f66), (67, Tryz.f67), (68, Tryz.f68), (69, Tryz.f69), (76, Tryz.f76), (77, Tryz.f77), (78, Tryz.f78), (79, Tryz.f79), (80, Tryz.f80), (81, Tryz.f81), (82, Tryz.f82), (83, Tryz.f83), (84, Tryz.f84), (85, Tryz.f85), (86, Tryz.f86), (87, Tryz.f87), (88, Tryz.f88), (89, Tryz.f89), (90, Tryz.f90), (91, Tryz.f91), (92, Tryz.f92), (93, Tryz.f93), (94, Tryz.f94), (95, Tryz.f95), (96, Tryz.f96), (97, Tryz.f97), (98, Tryz.f98), (99, Tryz.f99), (100, Tryz.f100), (101, Tryz.f101), (102, Tryz.f102), (103, Tryz.f103), (104, Tryz.f104), (106, Tryz.f106), (108, Tryz.f108), (109, Tryz.f109), (110, Tryz.f110), (111, Tryz.f111), (112, Tryz.f112), (113, Tryz.f113), (117, Tryz.f117), (118, Tryz.f118), (119, Tryz.f119), (120, Tryz.f120), (121, Tryz.f121), (125, Tryz.f125), (129, Tryz.f129), (130, Tryz.f130), (131, Tryz.f131), (132, Tryz.f132), (133, Tryz.f133), (134, Tryz.f134), (135, Tryz.f135), (136, Tryz.f136), (137, Tryz.f137), (138, Tryz.f138), (139, Tryz.f139), (141, Tryz.f141), (142, Tryz.f142), (143, Tryz.f143), (144, Tryz.f144), (145, Tryz.f145), (146, Tryz.f146), (147, Tryz.f147), (148, Tryz.f148), (149, Tryz.f149), (150, Tryz.f150), (151, Tryz.f151), (152, Tryz.f152), (153, Tryz.f153), (154, Tryz.f154), (155, Tryz.f155), (156, Tryz.f156), (157, Tryz.f157), (158, Tryz.f158), (159, Tryz.f159), (160, Tryz.f160), (161, Tryz.f161), (162, Tryz.f162), (163, Tryz.f163), (164, Tryz.f164), (165, Tryz.f165), (166, Tryz.f166), (167, Tryz.f167), (168, Tryz.f168), (169, Tryz.f169), (170, Tryz.f170), (171, Tryz.f171), (172, Tryz.f172), (174, Tryz.f174), (175, Tryz.f175), (176, Tryz.f176), (177, Tryz.f177), (178, Tryz.f178), (179, Tryz.f179), (180, Tryz.f180), (181, Tryz.f181), (182, Tryz.f182), (183, Tryz.f183), (185, Tryz.f185), (186, Tryz.f186), (187, Tryz.f187), (188, Tryz.f188), (189, Tryz.f189), (190, Tryz.f190), (191, Tryz.f191), (192, Tryz.f192), (193, Tryz.f193), (194, Tryz.f194), (195, Tryz.f195), (196, Tryz.f196), (197, Tryz.f197), (198, Tryz.f198), (199, Tryz.f199), (200, Tryz.f200), (201, Tryz.f201), (202, Tryz.f202), (203, Tryz.f203), (206, Tryz.f206), (208, Tryz.f208), (209, Tryz.f209), (210, Tryz.f210), (211, Tryz.f211), (212, Tryz.f212), (213, Tryz.f213), (214, Tryz.f214), (215, Tryz.f215), (216, Tryz.f216), (217, Tryz.f217), (218, Tryz.f218), (219, Tryz.f219), (221, Tryz.f221), (222, Tryz.f222), (225, Tryz.f225)]
  keep := keep
  k := k
theorem T_ok (keep : List Nat → Nat → Keep) (k : Nat) : (T keep k).ok Tryz.prog where
  ty := by kernel_rfl
  cmp := by kernel_rfl
  body := ⟨⟨Tryz.func7, by kernel_rfl, by kernel_rfl⟩, ⟨Tryz.func8, by kernel_rfl, by kernel_rfl⟩, ⟨Tryz.func9, by kernel_rfl, by kernel_rfl⟩, ⟨Tryz.func10, by kernel_rfl, by kernel_rfl⟩, ⟨Tryz.func11, by kernel_rfl, by kernel_rfl⟩, ⟨Tryz.func12, by kernel_rfl, by kernel_rfl⟩, ⟨Tryz.func13, by kernel_rfl, by kernel_rfl⟩, ⟨Tryz.func14, by kernel_rfl, by kernel_rfl⟩, ⟨Tryz.func15, by kernel_rfl, by kernel_rfl⟩, ⟨Tryz.func16, by kernel_rfl, by kernel_rfl⟩, ⟨Tryz.func17, by kernel_rfl, by kernel_rfl⟩, ⟨Tryz.func18, by kernel_rfl, by kernel_rfl⟩, ⟨Tryz.func23, by kernel_rfl, by kernel_rfl⟩, ⟨Tryz.func30, by kernel_rfl, by kernel_rfl⟩, ⟨Tryz.func31, by kernel_rfl, by kernel_rfl⟩, ⟨Tryz.func32, by kernel_rfl, by kernel_rfl⟩, ⟨Tryz.func33, by kernel_rfl, by kernel_rfl⟩, ⟨Tryz.func34, by kernel_rfl, by kernel_rfl⟩, ⟨Tryz.func35, by kernel_rfl, by kernel_rfl⟩, ⟨Tryz.func36, by kernel_rfl, by kernel_rfl⟩, ⟨Tryz.func37, by kernel_rfl, by kernel_rfl⟩, ⟨Tryz.func38, by kernel_rfl, by kernel_rfl⟩, ⟨Tryz.func39, by kernel_rfl, by kernel_rfl⟩, ⟨Tryz.func40, by kernel_rfl, by kernel_rfl⟩, ⟨Tryz.func41, by kernel_rfl, by kernel_rfl⟩, ⟨Tryz.func42, by kernel_rfl, by kernel_rfl⟩, ⟨Tryz.func43, by kernel_rfl, by kernel_rfl⟩, ⟨Tryz.func44, by kernel_rfl, by kernel_rfl⟩, ⟨Tryz.func45, by kernel_rfl, by kernel_rfl⟩, ⟨Tryz.func46, by kernel_rfl, by kernel_rfl⟩, ⟨Tryz.func47, by kernel_rfl, by kernel_rfl⟩, ⟨Tryz.func48, by kernel_rfl, by kernel_rfl⟩, ⟨Tryz.func49, by kernel_rfl, by kernel_rfl⟩, ⟨Tryz.func50, by kernel_rfl, by kernel_rfl⟩, ⟨Tryz.func51, by kernel_rfl, by kernel_rfl⟩, ⟨Tryz.func52, by kernel_rfl, by kernel_rfl⟩, ⟨Tryz.func53, by kernel_rfl, by kernel_rfl⟩, ⟨Tryz.func54, by kernel_rfl, by kernel_rfl⟩, ⟨Tryz.func55, by kernel_rfl, by kernel_rfl⟩, ⟨Tryz.func56, by kernel_rfl, by kernel_rfl⟩, ⟨Tryz.func57, by kernel_rfl, by kernel_rfl⟩, ⟨Tryz.func58, by kernel_rfl, by kernel_rfl⟩, ⟨Tryz.func65, by kernel_rfl, by kernel_rfl⟩, ⟨Tryz.func66, by kernel_rfl, by kernel_rfl⟩, ⟨Tryz.func67, by kernel_rfl, by kernel_rfl⟩, ⟨Tryz.func68, by kernel_rfl, by kernel_rfl⟩, ⟨Tryz.func69, by kernel_rfl, by kernel_rfl⟩, ⟨Tryz.func76, by kernel_rfl, by kernel_rfl⟩, ⟨Tryz.func77, by kernel_rfl, by kernel_rfl⟩, ⟨Tryz.func78, by kernel_rfl, by kernel_rfl⟩, ⟨Tryz.func79, by kernel_rfl, by kernel_rfl⟩, ⟨Tryz.func80, by kernel_rfl, by kernel_rfl⟩, ⟨Tryz.func81, by kernel_rfl, by kernel_rfl⟩, ⟨Tryz.func82, by kernel_rfl, by kernel_rfl⟩, ⟨Tryz.func83, by kernel_rfl, by kernel_rfl⟩, ⟨Tryz.func84, by kernel_rfl, by kernel_rfl⟩, ⟨Tryz.func85, by kernel_rfl, by kernel_rfl⟩, ⟨Tryz.func86, by kernel_rfl, by kernel_rfl⟩, ⟨Tryz.func87, by kernel_rfl, by kernel_rfl⟩, ⟨Tryz.func88, by kernel_rfl, by kernel_rfl⟩, ⟨Tryz.func89, by kernel_rfl, by kernel_rfl⟩, ⟨Tryz.func90, by kernel_rfl, by kernel_rfl⟩, ⟨Tryz.func91, by kernel_rfl, by kernel_rfl⟩, ⟨Tryz.func92, by kernel_rfl, by kernel_rfl⟩, ⟨Tryz.func93, by kernel_rfl, by kernel_rfl⟩, ⟨Tryz.func94, by kernel_rfl, by kernel_rfl⟩, ⟨Tryz.func95, by kernel_rfl, by kernel_rfl⟩, ⟨Tryz.func96, by kernel_rfl, by kernel_rfl⟩, ⟨Tryz.func97, by kernel_rfl, by kernel_rfl⟩, ⟨Tryz.func98, by kernel_rfl, by kernel_rfl⟩, ⟨Tryz.func99, by kernel_rfl, by kernel_rfl⟩, ⟨Tryz.func100, by kernel_rfl, by kernel_rfl⟩, ⟨Tryz.func101, by kernel_rfl, by kernel_rfl⟩, ⟨Tryz.func102, by kernel_rfl, by kernel_rfl⟩, ⟨Tryz.func103, by kernel_rfl, by kernel_rfl⟩, ⟨Tryz.func104, by kernel_rfl, by kernel_rfl⟩, ⟨Tryz.func106, by kernel_rfl, by kernel_rfl⟩, ⟨Tryz.func108, by kernel_rfl, by kernel_rfl⟩, ⟨Tryz.func109, by kernel_rfl, by kernel_rfl⟩, ⟨Tryz.func110, by kernel_rfl, by kernel_rfl⟩, ⟨Tryz.func111, by kernel_rfl, by kernel_rfl⟩, ⟨Tryz.func112, by kernel_rfl, by kernel_rfl⟩, ⟨Tryz.func113, by kernel_rfl, by kernel_rfl⟩, ⟨Tryz.func117, by kernel_rfl, by kernel_rfl⟩, ⟨Tryz.func118, by kernel_rfl, by kernel_rfl⟩, ⟨Tryz.func119, by kernel_rfl, by kernel_rfl⟩, ⟨Tryz.func120, by kernel_rfl, by kernel_rfl⟩, ⟨Tryz.func121, by kernel_rfl, by kernel_rfl⟩, ⟨Tryz.func125, by kernel_rfl, by kernel_rfl⟩, ⟨Tryz.func129, by kernel_rfl, by kernel_rfl⟩, ⟨Tryz.func130, by kernel_rfl, by kernel_rfl⟩, ⟨Tryz.func131, by kernel_rfl, by kernel_rfl⟩, ⟨Tryz.func132, by kernel_rfl, by kernel_rfl⟩, ⟨Tryz.func133, by kernel_rfl, by kernel_rfl⟩, ⟨Tryz.func134, by kernel_rfl, by kernel_rfl⟩, ⟨Tryz.func135, by kernel_rfl, by kernel_rfl⟩, ⟨Tryz.func136, by kernel_rfl, by kernel_rfl⟩, ⟨Tryz.func137, by kernel_rfl, by kernel_rfl⟩, ⟨Tryz.func138, by kernel_rfl, by kernel_rfl⟩, ⟨Tryz.func139, by kernel_rfl, by kernel_rfl⟩, ⟨Tryz.func141, by kernel_rfl, by kernel_rfl⟩, ⟨Tryz.func142, by kernel_rfl, by kernel_rfl⟩, ⟨Tryz.func143, by kernel_rfl, by kernel_rfl⟩, ⟨Tryz.func144, by kernel_rfl, by kernel_rfl⟩, ⟨Tryz.func145, by kernel_rfl, by kernel_rfl⟩, ⟨Tryz.func146, by kernel_rfl, by kernel_rfl⟩, ⟨Tryz.func147, by kernel_rfl, by kernel_rfl⟩, ⟨Tryz.func148, by kernel_rfl, by kernel_rfl⟩, ⟨Tryz.func149, by kernel_rfl, by kernel_rfl⟩, ⟨Tryz.func150, by kernel_rfl, by kernel_rfl⟩, ⟨Tryz.func151, by kernel_rfl, by kernel_rfl⟩, ⟨Tryz.func152, by kernel_rfl, by kernel_rfl⟩, ⟨Tryz.func153, by kernel_rfl, by kernel_rfl⟩, ⟨Tryz.func154, by kernel_rfl, by kernel_rfl⟩, ⟨Tryz.func155, by kernel_rfl, by kernel_rfl⟩, ⟨Tryz.func156, by kernel_rfl, by kernel_rfl⟩, ⟨Tryz.func157, by kernel_rfl, by kernel_rfl⟩, ⟨Tryz.func158, by kernel_rfl, by kernel_rfl⟩, ⟨Tryz.func159, by kernel_rfl, by kernel_rfl⟩, ⟨Tryz.func160, by kernel_rfl, by kernel_rfl⟩, ⟨Tryz.func161, by kernel_rfl, by kernel_rfl⟩, ⟨Tryz.func162, by kernel_rfl, by kernel_rfl⟩, ⟨Tryz.func163, by kernel_rfl, by kernel_rfl⟩, ⟨Tryz.func164, by kernel_rfl, by kernel_rfl⟩, ⟨Tryz.func165, by kernel_rfl, by kernel_rfl⟩, ⟨Tryz.func166, by kernel_rfl, by kernel_rfl⟩, ⟨Tryz.func167, by kernel_rfl, by kernel_rfl⟩, ⟨Tryz.func168, by kernel_rfl, by kernel_rfl⟩, ⟨Tryz.func169, by kernel_rfl, by kernel_rfl⟩, ⟨Tryz.func170, by kernel_rfl, by kernel_rfl⟩, ⟨Tryz.func171, by kernel_rfl, by kernel_rfl⟩, ⟨Tryz.func172, by kernel_rfl, by kernel_rfl⟩, ⟨Tryz.func174, by kernel_rfl, by kernel_rfl⟩, ⟨Tryz.func175, by kernel_rfl, by kernel_rfl⟩, ⟨Tryz.func176, by kernel_rfl, by kernel_rfl⟩, ⟨Tryz.func177, by kernel_rfl, by kernel_rfl⟩, ⟨Tryz.func178, by kernel_rfl, by kernel_rfl⟩, ⟨Tryz.func179, by kernel_rfl, by kernel_rfl⟩, ⟨Tryz.func180, by kernel_rfl, by kernel_rfl⟩, ⟨Tryz.func181, by kernel_rfl, by kernel_rfl⟩, ⟨Tryz.func182, by kernel_rfl, by kernel_rfl⟩, ⟨Tryz.func183, by kernel_rfl, by kernel_rfl⟩, ⟨Tryz.func185, by kernel_rfl, by kernel_rfl⟩, ⟨Tryz.func186, by kernel_rfl, by kernel_rfl⟩, ⟨Tryz.func187, by kernel_rfl, by kernel_rfl⟩, ⟨Tryz.func188, by kernel_rfl, by kernel_rfl⟩, ⟨Tryz.func189, by kernel_rfl, by kernel_rfl⟩, ⟨Tryz.func190, by kernel_rfl, by kernel_rfl⟩, ⟨Tryz.func191, by kernel_rfl, by kernel_rfl⟩, ⟨Tryz.func192, by kernel_rfl, by kernel_rfl⟩, ⟨Tryz.func193, by kernel_rfl, by kernel_rfl⟩, ⟨Tryz.func194, by kernel_rfl, by kernel_rfl⟩, ⟨Tryz.func195, by kernel_rfl, by kernel_rfl⟩, ⟨Tryz.func196, by kernel_rfl, by kernel_rfl⟩, ⟨Tryz.func197, by kernel_rfl, by kernel_rfl⟩, ⟨Tryz.func198, by kernel_rfl, by kernel_rfl⟩, ⟨Tryz.func199, by kernel_rfl, by kernel_rfl⟩, ⟨Tryz.func200, by kernel_rfl, by kernel_rfl⟩, ⟨Tryz.func201, by kernel_rfl, by kernel_rfl⟩, ⟨Tryz.func202, by kernel_rfl, by kernel_rfl⟩, ⟨Tryz.func203, by kernel_rfl, by kernel_rfl⟩, ⟨Tryz.func206, by kernel_rfl, by kernel_rfl⟩, ⟨Tryz.func208, by kernel_rfl, by kernel_rfl⟩, ⟨Tryz.func209, by kernel_rfl, by kernel_rfl⟩, ⟨Tryz.func210, by kernel_rfl, by kernel_rfl⟩, ⟨Tryz.func211, by kernel_rfl, by kernel_rfl⟩, ⟨Tryz.func212, by kernel_rfl, by kernel_rfl⟩, ⟨Tryz.func213, by kernel_rfl, by kernel_rfl⟩, ⟨Tryz.func214, by kernel_rfl, by kernel_rfl⟩, ⟨Tryz.func215, by kernel_rfl, by kernel_rfl⟩, ⟨Tryz.func216, by kernel_rfl, by kernel_rfl⟩, ⟨Tryz.func217, by kernel_rfl, by kernel_rfl⟩, ⟨Tryz.func218, by kernel_rfl, by kernel_rfl⟩, ⟨Tryz.func219, by kernel_rfl, by kernel_rfl⟩, ⟨Tryz.func221, by kernel_rfl, by kernel_rfl⟩, ⟨Tryz.func222, by kernel_rfl, by kernel_rfl⟩, ⟨Tryz.func225, by kernel_rfl, by kernel_rfl⟩, trivial⟩
  mixed := by kernel_rfl

/-- loop.example/g01402/laws.szStringS -/
def F7 (k : Nat) (a0 : List ByteArray) (a1 : Int) : Option (Int) :=
  (bif (decide ((wrap64 (a1 - (a0.length : Int))) < (0 : Int))) then some (-1 : Int) else (iter (σ := Int × Int × Unit) (fun rec4 x3 => (bif (decide (x3.2.1 < (a0.length : Int))) then (bif (decide (0 ≤ x3.2.1 ∧ x3.2.1 < (a0.length : Int))) then (bif (decide ((wrap64 (x3.1 - ((a0.getD x3.2.1.toNat (ByteArray.mk #[])).size : Int))) < (0 : Int))) then some (-1 : Int) else (rec4 ((wrap64 (x3.1 - ((a0.getD x3.2.1.toNat (ByteArray.mk #[])).size : Int))), (wrap64 (x3.2.1 + (1 : Int))), ()))) else none) else some x3.1)) k ((wrap64 (a1 - (a0.length : Int))), (0 : Int), ())))
def S7 (k : Nat) : CSpec := { params := [(.slice .str), (.int .i64)], res := [((.int .i64), false)], fresh := true, sem := fun x => F7 k x.1 x.2.1 }
theorem e7 : (fun k => evFn ((T (fun _ _ => ⟨[1, 5], [], [], false⟩) k).cx []) 5 Tryz.f7 (S7 0).params (S7 0).res true) = fun k => (S7 k).sem := by kernel_rfl
theorem ok7 {G : World → Prop} (hG : Lasts G) (k : Nat) : (S7 k).ok Tryz.prog G 7 := fn_ok (T_ok (fun _ _ => ⟨[1, 5], [], [], false⟩) k) hG (calls := []) trivial 5 rfl (S7 k) (congrFun e7 k)

/-- loop.example/g01402/laws.szField -/
def F189 (k : Nat) (a0 : D0) (a1 : Int) : Option (Int) :=
  (bif (decide ((wrap64 (a1 - (a0.1.size : Int))) < (0 : Int))) then some (-1 : Int) else (bif (decide ((wrap64 ((wrap64 (a1 - (a0.1.size : Int))) - (a0.2.size : Int))) < (0 : Int))) then some (-1 : Int) else some (wrap64 ((wrap64 (a1 - (a0.1.size : Int))) - (a0.2.size : Int)))))
def S189 (k : Nat) : CSpec := { params := [U0, (.int .i64)], res := [((.int .i64), false)], fresh := true, sem := fun x => F189 k x.1 x.2.1 }
theorem e189 : (fun k => evFn ((T (fun _ _ => ⟨[], [], [], false⟩) k).cx []) 5 Tryz.f189 (S189 0).params (S189 0).res true) = fun k => (S189 k).sem := by kernel_rfl
theorem ok189 {G : World → Prop} (hG : Lasts G) (k : Nat) : (S189 k).ok Tryz.prog G 189 := fn_ok (T_ok (fun _ _ => ⟨[], [], [], false⟩) k) hG (calls := []) trivial 5 rfl (S189 k) (congrFun e189 k)

/-- loop.example/g01402/laws.szFieldS -/
def F147 (k : Nat) (a0 : List D0) (a1 : Int) : Option (Int) :=
  (bif (decide ((wrap64 (a1 - (a0.length : Int))) < (0 : Int))) then some (-1 : Int) else (iter (σ := Int × Int × Unit) (fun rec5 x4 => (bif (decide (x4.2.1 < (a0.length : Int))) then (bif (decide (0 ≤ x4.2.1 ∧ x4.2.1 < (a0.length : Int))) then ((F189 k (a0.getD x4.2.1.toNat Z0) x4.1).bind fun r6 => (bif (decide (r6 < (0 : Int))) then some (-1 : Int) else (rec5 (r6, (wrap64 (x4.2.1 + (1 : Int))), ())))) else none) else some x4.1)) k ((wrap64 (a1 - (a0.length : Int))), (0 : Int), ())))
def S147 (k : Nat) : CSpec := { params := [(.slice U0), (.int .i64)], res := [((.int .i64), false)], fresh := true, sem := fun x => F147 k x.1 x.2.1 }
theorem e147 : (fun k => evFn ((T (fun _ _ => ⟨[1, 5], [], [], false⟩) k).cx [(189, S189 k)]) 5 Tryz.f147 (S147 0).params (S147 0).res true) = fun k => (S147 k).sem := by kernel_rfl
theorem ok147 {G : World → Prop} (hG : Lasts G) (k : Nat) : (S147 k).ok Tryz.prog G 147 := fn_ok (T_ok (fun _ _ => ⟨[1, 5], [], [], false⟩) k) hG (calls := [(189, S189 k)]) ⟨ok189 hG k, trivial⟩ 5 rfl (S147 k) (congrFun e147 k)

/-- loop.example/g01402/laws.szResponse -/
def F176 (k : Nat) (a0 : D1) (a1 : Int) : Option (Int) :=
  ((F147 k a0.2.1 a1).bind fun r1 => (bif (decide (r1 < (0 : Int))) then some (-1 : Int) else (bif (decide ((wrap64 (r1 - (a0.2.2.size : Int))) < (0 : Int))) then some (-1 : Int) else some (wrap64 (r1 - (a0.2.2.size : Int))))))
def S176 (k : Nat) : CSpec := { params := [U1, (.int .i64)], res := [((.int .i64), false)], fresh := true, sem := fun x => F176 k x.1 x.2.1 }
theorem e176 : (fun k => evFn ((T (fun _ _ => ⟨[], [], [], false⟩) k).cx [(147, S147 k)]) 5 Tryz.f176 (S176 0).params (S176 0).res true) = fun k => (S176 k).sem := by kernel_rfl
theorem ok176 {G : World → Prop} (hG : Lasts G) (k : Nat) : (S176 k).ok Tryz.prog G 176 := fn_ok (T_ok (fun _ _ => ⟨[], [], [], false⟩) k) hG (calls := [(147, S147 k)]) ⟨ok147 hG k, trivial⟩ 5 rfl (S176 k) (congrFun e176 k)

/-- loop.example/g01402/laws.szStored -/
def F175 (k : Nat) (a0 : D2) (a1 : Int) : Option (Int) :=
  (bif (decide ((wrap64 (a1 - (a0.1.size : Int))) < (0 : Int))) then some (-1 : Int) else ((F147 k a0.2.1 (wrap64 (a1 - (a0.1.size : Int)))).bind fun r1 => (bif (decide (r1 < (0 : Int))) then some (-1 : Int) else ((F176 k a0.2.2.1 r1).bind fun r2 => (bif (decide (r2 < (0 : Int))) then some (-1 : Int) else some r2)))))
def S175 (k : Nat) : CSpec := { params := [U2, (.int .i64)], res := [((.int .i64), false)], fresh := true, sem := fun x => F175 k x.1 x.2.1 }
theorem e175 : (fun k => evFn ((T (fun _ _ => ⟨[], [], [], false⟩) k).cx [(147, S147 k), (176, S176 k)]) 5 Tryz.f175 (S175 0).params (S175 0).res true) = fun k => (S175 k).sem := by kernel_rfl
theorem ok175 {G : World → Prop} (hG : Lasts G) (k : Nat) : (S175 k).ok Tryz.prog G 175 := fn_ok (T_ok (fun _ _ => ⟨[], [], [], false⟩) k) hG (calls := [(147, S147 k), (176, S176 k)]) ⟨ok147 hG k, ok176 hG k, trivial⟩ 5 rfl (S175 k) (congrFun e175 k)

/-- loop.example/g01402/laws.szSlot -/
def F188 (k : Nat) (a0 : D3) (a1 : Int) : Option (Int) :=
  ((F175 k a0.1 a1).bind fun r1 => (bif (decide (r1 < (0 : Int))) then some (-1 : Int) else some r1))
def S188 (k : Nat) : CSpec := { params := [U3, (.int .i64)], res := [((.int .i64), false)], fresh := true, sem := fun x => F188 k x.1 x.2.1 }
theorem e188 : (fun k => evFn ((T (fun _ _ => ⟨[], [], [], false⟩) k).cx [(175, S175 k)]) 5 Tryz.f188 (S188 0).params (S188 0).res true) = fun k => (S188 k).sem := by kernel_rfl
theorem ok188 {G : World → Prop} (hG : Lasts G) (k : Nat) : (S188 k).ok Tryz.prog G 188 := fn_ok (T_ok (fun _ _ => ⟨[], [], [], false⟩) k) hG (calls := [(175, S175 k)]) ⟨ok175 hG k, trivial⟩ 5 rfl (S188 k) (congrFun e188 k)

/-- loop.example/g01402/laws.szSlotS -/
def F146 (k : Nat) (a0 : List D3) (a1 : Int) : Option (Int) :=
  (bif (decide ((wrap64 (a1 - (a0.length : Int))) < (0 : Int))) then some (-1 : Int) else (iter (σ := Int × Int × Unit) (fun rec5 x4 => (bif (decide (x4.2.1 < (a0.length : Int))) then (bif (decide (0 ≤ x4.2.1 ∧ x4.2.1 < (a0.length : Int))) then ((F188 k (a0.getD x4.2.1.toNat Z3) x4.1).bind fun r6 => (bif (decide (r6 < (0 : Int))) then some (-1 : Int) else (rec5 (r6, (wrap64 (x4.2.1 + (1 : Int))), ())))) else none) else some x4.1)) k ((wrap64 (a1 - (a0.length : Int))), (0 : Int), ())))
def S146 (k : Nat) : CSpec := { params := [(.slice U3), (.int .i64)], res := [((.int .i64), false)], fresh := true, sem := fun x => F146 k x.1 x.2.1 }
theorem e146 : (fun k => evFn ((T (fun _ _ => ⟨[1, 5], [], [], false⟩) k).cx [(188, S188 k)]) 5 Tryz.f146 (S146 0).params (S146 0).res true) = fun k => (S146 k).sem := by kernel_rfl
theorem ok146 {G : World → Prop} (hG : Lasts G) (k : Nat) : (S146 k).ok Tryz.prog G 146 := fn_ok (T_ok (fun _ _ => ⟨[1, 5], [], [], false⟩) k) hG (calls := [(188, S188 k)]) ⟨ok188 hG k, trivial⟩ 5 rfl (S146 k) (congrFun e146 k)

/-- loop.example/g01402/laws.szShard -/
def F88 (k : Nat) (a0 : D4) (a1 : Int) : Option (Int) :=
  ((F146 k a0.2.2.1 a1).bind fun r1 => (bif (decide (r1 < (0 : Int))) then some (-1 : Int) else some r1))
def S88 (k : Nat) : CSpec := { params := [U4, (.int .i64)], res := [((.int .i64), false)], fresh := true, sem := fun x => F88 k x.1 x.2.1 }
theorem e88 : (fun k => evFn ((T (fun _ _ => ⟨[], [], [], false⟩) k).cx [(146, S146 k)]) 5 Tryz.f88 (S88 0).params (S88 0).res true) = fun k => (S88 k).sem := by kernel_rfl
theorem ok88 {G : World → Prop} (hG : Lasts G) (k : Nat) : (S88 k).ok Tryz.prog G 88 := fn_ok (T_ok (fun _ _ => ⟨[], [], [], false⟩) k) hG (calls := [(146, S146 k)]) ⟨ok146 hG k, trivial⟩ 5 rfl (S88 k) (congrFun e88 k)

/-- loop.example/g01402/laws.szShardS -/
def F36 (k : Nat) (a0 : List D4) (a1 : Int) : Option (Int) :=
  (bif (decide ((wrap64 (a1 - (a0.length : Int))) < (0 : Int))) then some (-1 : Int) else (iter (σ := Int × Int × Unit) (fun rec5 x4 => (bif (decide (x4.2.1 < (a0.length : Int))) then (bif (decide (0 ≤ x4.2.1 ∧ x4.2.1 < (a0.length : Int))) then ((F88 k (a0.getD x4.2.1.toNat Z4) x4.1).bind fun r6 => (bif (decide (r6 < (0 : Int))) then some (-1 : Int) else (rec5 (r6, (wrap64 (x4.2.1 + (1 : Int))), ())))) else none) else some x4.1)) k ((wrap64 (a1 - (a0.length : Int))), (0 : Int), ())))
def S36 (k : Nat) : CSpec := { params := [(.slice U4), (.int .i64)], res := [((.int .i64), false)], fresh := true, sem := fun x => F36 k x.1 x.2.1 }
theorem e36 : (fun k => evFn ((T (fun _ _ => ⟨[1, 5], [], [], false⟩) k).cx [(88, S88 k)]) 5 Tryz.f36 (S36 0).params (S36 0).res true) = fun k => (S36 k).sem := by kernel_rfl
theorem ok36 {G : World → Prop} (hG : Lasts G) (k : Nat) : (S36 k).ok Tryz.prog G 36 := fn_ok (T_ok (fun _ _ => ⟨[1, 5], [], [], false⟩) k) hG (calls := [(88, S88 k)]) ⟨ok88 hG k, trivial⟩ 5 rfl (S36 k) (congrFun e36 k)

/-- loop.example/g01402/laws.szGenRow -/
def F89 (k : Nat) (a0 : D5) (a1 : Int) : Option (Int) :=
  (bif (decide ((wrap64 (a1 - (a0.1.size : Int))) < (0 : Int))) then some (-1 : Int) else some (wrap64 (a1 - (a0.1.size : Int))))
def S89 (k : Nat) : CSpec := { params := [U5, (.int .i64)], res := [((.int .i64), false)], fresh := true, sem := fun x => F89 k x.1 x.2.1 }
theorem e89 : (fun k => evFn ((T (fun _ _ => ⟨[], [], [], false⟩) k).cx []) 5 Tryz.f89 (S89 0).params (S89 0).res true) = fun k => (S89 k).sem := by kernel_rfl
theorem ok89 {G : World → Prop} (hG : Lasts G) (k : Nat) : (S89 k).ok Tryz.prog G 89 := fn_ok (T_ok (fun _ _ => ⟨[], [], [], false⟩) k) hG (calls := []) trivial 5 rfl (S89 k) (congrFun e89 k)

/-- loop.example/g01402/laws.szGenRowS -/
def F37 (k : Nat) (a0 : List D5) (a1 : Int) : Option (Int) :=
  (bif (decide ((wrap64 (a1 - (a0.length : Int))) < (0 : Int))) then some (-1 : Int) else (iter (σ := Int × Int × Unit) (fun rec5 x4 => (bif (decide (x4.2.1 < (a0.length : Int))) then (bif (decide (0 ≤ x4.2.1 ∧ x4.2.1 < (a0.length : Int))) then ((F89 k (a0.getD x4.2.1.toNat Z5) x4.1).bind fun r6 => (bif (decide (r6 < (0 : Int))) then some (-1 : Int) else (rec5 (r6, (wrap64 (x4.2.1 + (1 : Int))), ())))) else none) else some x4.1)) k ((wrap64 (a1 - (a0.length : Int))), (0 : Int), ())))
def S37 (k : Nat) : CSpec := { params := [(.slice U5), (.int .i64)], res := [((.int .i64), false)], fresh := true, sem := fun x => F37 k x.1 x.2.1 }
theorem e37 : (fun k => evFn ((T (fun _ _ => ⟨[1, 5], [], [], false⟩) k).cx [(89, S89 k)]) 5 Tryz.f37 (S37 0).params (S37 0).res true) = fun k => (S37 k).sem := by kernel_rfl
theorem ok37 {G : World → Prop} (hG : Lasts G) (k : Nat) : (S37 k).ok Tryz.prog G 37 := fn_ok (T_ok (fun _ _ => ⟨[1, 5], [], [], false⟩) k) hG (calls := [(89, S89 k)]) ⟨ok89 hG k, trivial⟩ 5 rfl (S37 k) (congrFun e37 k)

/-- loop.example/g01402/laws.szCache -/
def F8 (k : Nat) (a0 : D6) (a1 : Int) : Option (Int) :=
  ((F36 k a0.1 a1).bind fun r1 => (bif (decide (r1 < (0 : Int))) then some (-1 : Int) else ((F37 k a0.2 r1).bind fun r2 => (bif (decide (r2 < (0 : Int))) then some (-1 : Int) else some r2))))
def S8 (k : Nat) : CSpec := { params := [U6, (.int .i64)], res := [((.int .i64), false)], fresh := true, sem := fun x => F8 k x.1 x.2.1 }
theorem e8 : (fun k => evFn ((T (fun _ _ => ⟨[], [], [], false⟩) k).cx [(36, S36 k), (37, S37 k)]) 5 Tryz.f8 (S8 0).params (S8 0).res true) = fun k => (S8 k).sem := by kernel_rfl
theorem ok8 {G : World → Prop} (hG : Lasts G) (k : Nat) : (S8 k).ok Tryz.prog G 8 := fn_ok (T_ok (fun _ _ => ⟨[], [], [], false⟩) k) hG (calls := [(36, S36 k), (37, S37 k)]) ⟨ok36 hG k, ok37 hG k, trivial⟩ 5 rfl (S8 k) (congrFun e8 k)

/-- loop.example/g01402/laws.szRes -/
def F90 (k : Nat) (a0 : D7) (a1 : Int) : Option (Int) :=
  (bif (decide ((wrap64 (a1 - (a0.1.size : Int))) < (0 : Int))) then some (-1 : Int) else (bif (decide ((wrap64 ((wrap64 (a1 - (a0.1.size : Int))) - (a0.2.1.size : Int))) < (0 : Int))) then some (-1 : Int) else ((F147 k a0.2.2.2.2.2.2 (wrap64 ((wrap64 (a1 - (a0.1.size : Int))) - (a0.2.1.size : Int)))).bind fun r1 => (bif (decide (r1 < (0 : Int))) then some (-1 : Int) else some r1))))
def S90 (k : Nat) : CSpec := { params := [U7, (.int .i64)], res := [((.int .i64), false)], fresh := true, sem := fun x => F90 k x.1 x.2.1 }
theorem e90 : (fun k => evFn ((T (fun _ _ => ⟨[], [], [], false⟩) k).cx [(147, S147 k)]) 5 Tryz.f90 (S90 0).params (S90 0).res true) = fun k => (S90 k).sem := by kernel_rfl
theorem ok90 {G : World → Prop} (hG : Lasts G) (k : Nat) : (S90 k).ok Tryz.prog G 90 := fn_ok (T_ok (fun _ _ => ⟨[], [], [], false⟩) k) hG (calls := [(147, S147 k)]) ⟨ok147 hG k, trivial⟩ 5 rfl (S90 k) (congrFun e90 k)

/-- loop.example/g01402/laws.szResS -/
def F38 (k : Nat) (a0 : List D7) (a1 : Int) : Option (Int) :=
  (bif (decide ((wrap64 (a1 - (a0.length : Int))) < (0 : Int))) then some (-1 : Int) else (iter (σ := Int × Int × Unit) (fun rec5 x4 => (bif (decide (x4.2.1 < (a0.length : Int))) then (bif (decide (0 ≤ x4.2.1 ∧ x4.2.1 < (a0.length : Int))) then ((F90 k (a0.getD x4.2.1.toNat Z7) x4.1).bind fun r6 => (bif (decide (r6 < (0 : Int))) then some (-1 : Int) else (rec5 (r6, (wrap64 (x4.2.1 + (1 : Int))), ())))) else none) else some x4.1)) k ((wrap64 (a1 - (a0.length : Int))), (0 : Int), ())))
def S38 (k : Nat) : CSpec := { params := [(.slice U7), (.int .i64)], res := [((.int .i64), false)], fresh := true, sem := fun x => F38 k x.1 x.2.1 }
theorem e38 : (fun k => evFn ((T (fun _ _ => ⟨[1, 5], [], [], false⟩) k).cx [(90, S90 k)]) 5 Tryz.f38 (S38 0).params (S38 0).res true) = fun k => (S38 k).sem := by kernel_rfl
theorem ok38 {G : World → Prop} (hG : Lasts G) (k : Nat) : (S38 k).ok Tryz.prog G 38 := fn_ok (T_ok (fun _ _ => ⟨[1, 5], [], [], false⟩) k) hG (calls := [(90, S90 k)]) ⟨ok90 hG k, trivial⟩ 5 rfl (S38 k) (congrFun e38 k)

/-- loop.example/g01402/laws.szOrigin -/
def F9 (k : Nat) (a0 : D8) (a1 : Int) : Option (Int) :=
  ((F38 k a0 a1).bind fun r1 => (bif (decide (r1 < (0 : Int))) then some (-1 : Int) else some r1))
def S9 (k : Nat) : CSpec := { params := [U8, (.int .i64)], res := [((.int .i64), false)], fresh := true, sem := fun x => F9 k x.1 x.2.1 }
theorem e9 : (fun k => evFn ((T (fun _ _ => ⟨[], [], [], false⟩) k).cx [(38, S38 k)]) 5 Tryz.f9 (S9 0).params (S9 0).res true) = fun k => (S9 k).sem := by kernel_rfl
theorem ok9 {G : World → Prop} (hG : Lasts G) (k : Nat) : (S9 k).ok Tryz.prog G 9 := fn_ok (T_ok (fun _ _ => ⟨[], [], [], false⟩) k) hG (calls := [(38, S38 k)]) ⟨ok38 hG k, trivial⟩ 5 rfl (S9 k) (congrFun e9 k)

/-- loop.example/g01402/laws.toStringS -/
def F11 (k : Nat) (a0 : List ByteArray) : Option ((List ByteArray)) :=
  (bif (decide (0 ≤ (a0.length : Int) ∧ (a0.length : Int) = (a0.length : Int) ∧ (a0.length : Int) < (most : Int))) then (iter (σ := Int × List ByteArray × Unit) (fun rec4 x3 => (bif (decide (x3.1 < (a0.length : Int))) then (bif (decide (0 ≤ x3.1 ∧ x3.1 < (a0.length : Int))) then (bif (decide (0 ≤ x3.1 ∧ x3.1 < (x3.2.1.length : Int))) then (rec4 ((wrap64 (x3.1 + (1 : Int))), (x3.2.1.set x3.1.toNat (a0.getD x3.1.toNat (ByteArray.mk #[]))), ())) else none) else none) else some x3.2.1)) k ((0 : Int), (List.replicate (a0.length : Int).toNat (ByteArray.mk #[])), ())) else none)
def S11 (k : Nat) : CSpec := { params := [(.slice .str)], res := [((.slice .str), true)], fresh := true, sem := fun x => F11 k x.1 }
theorem e11 : (fun k => evFn ((T (fun _ _ => ⟨[4], [1], [], false⟩) k).cx []) 5 Tryz.f11 (S11 0).params (S11 0).res true) = fun k => (S11 k).sem := by kernel_rfl
theorem ok11 {G : World → Prop} (hG : Lasts G) (k : Nat) : (S11 k).ok Tryz.prog G 11 := fn_ok (T_ok (fun _ _ => ⟨[4], [1], [], false⟩) k) hG (calls := []) trivial 5 rfl (S11 k) (congrFun e11 k)

/-- loop.example/g01402/laws.toField -/
def F194 (k : Nat) (a0 : D0) : Option (D0) :=
  some a0
def S194 (k : Nat) : CSpec := { params := [U0], res := [(U0, false)], fresh := true, sem := fun x => F194 k x.1 }
theorem e194 : (fun k => evFn ((T (fun _ _ => ⟨[], [], [], false⟩) k).cx []) 5 Tryz.f194 (S194 0).params (S194 0).res true) = fun k => (S194 k).sem := by kernel_rfl
theorem ok194 {G : World → Prop} (hG : Lasts G) (k : Nat) : (S194 k).ok Tryz.prog G 194 := fn_ok (T_ok (fun _ _ => ⟨[], [], [], false⟩) k) hG (calls := []) trivial 5 rfl (S194 k) (congrFun e194 k)

/-- loop.example/g01402/laws.toFieldS -/
def F156 (k : Nat) (a0 : List D0) : Option ((List D0)) :=
  (bif (decide (0 ≤ (a0.length : Int) ∧ (a0.length : Int) = (a0.length : Int) ∧ (a0.length : Int) < (most : Int))) then (iter (σ := Int × List D0 × Unit) (fun rec5 x4 => (bif (decide (x4.1 < (a0.length : Int))) then (bif (decide (0 ≤ x4.1 ∧ x4.1 < (a0.length : Int))) then ((F194 k (a0.getD x4.1.toNat Z0)).bind fun r6 => (bif (decide (0 ≤ x4.1 ∧ x4.1 < (x4.2.1.length : Int))) then (rec5 ((wrap64 (x4.1 + (1 : Int))), (x4.2.1.set x4.1.toNat r6), ())) else none)) else none) else some x4.2.1)) k ((0 : Int), (List.replicate (a0.length : Int).toNat Z0), ())) else none)
def S156 (k : Nat) : CSpec := { params := [(.slice U0)], res := [((.slice U0), true)], fresh := true, sem := fun x => F156 k x.1 }
theorem e156 : (fun k => evFn ((T (fun _ _ => ⟨[4], [1], [], false⟩) k).cx [(194, S194 k)]) 5 Tryz.f156 (S156 0).params (S156 0).res true) = fun k => (S156 k).sem := by kernel_rfl
theorem ok156 {G : World → Prop} (hG : Lasts G) (k : Nat) : (S156 k).ok Tryz.prog G 156 := fn_ok (T_ok (fun _ _ => ⟨[4], [1], [], false⟩) k) hG (calls := [(194, S194 k)]) ⟨ok194 hG k, trivial⟩ 5 rfl (S156 k) (congrFun e156 k)

/-- loop.example/g01402/laws.toResponse -/
def F182 (k : Nat) (a0 : D1) : Option (D1) :=
  ((F156 k a0.2.1).bind fun r1 => some (a0.1, r1, a0.2.2))
def S182 (k : Nat) : CSpec := { params := [U1], res := [(U1, true)], fresh := true, sem := fun x => F182 k x.1 }
theorem e182 : (fun k => evFn ((T (fun _ _ => ⟨[], [], [], false⟩) k).cx [(156, S156 k)]) 5 Tryz.f182 (S182 0).params (S182 0).res true) = fun k => (S182 k).sem := by kernel_rfl
theorem ok182 {G : World → Prop} (hG : Lasts G) (k : Nat) : (S182 k).ok Tryz.prog G 182 := fn_ok (T_ok (fun _ _ => ⟨[], [], [], false⟩) k) hG (calls := [(156, S156 k)]) ⟨ok156 hG k, trivial⟩ 5 rfl (S182 k) (congrFun e182 k)

/-- loop.example/g01402/laws.toStored -/
def F181 (k : Nat) (a0 : D2) : Option (D2) :=
  ((F156 k a0.2.1).bind fun r1 => ((F182 k a0.2.2.1).bind fun r2 => some (a0.1, r1, r2, a0.2.2.2.1, a0.2.2.2.2)))
def S181 (k : Nat) : CSpec := { params := [U2], res := [(U2, true)], fresh := true, sem := fun x => F181 k x.1 }
theorem e181 : (fun k => evFn ((T (fun _ _ => ⟨[], [], [], false⟩) k).cx [(156, S156 k), (182, S182 k)]) 5 Tryz.f181 (S181 0).params (S181 0).res true) = fun k => (S181 k).sem := by kernel_rfl
theorem ok181 {G : World → Prop} (hG : Lasts G) (k : Nat) : (S181 k).ok Tryz.prog G 181 := fn_ok (T_ok (fun _ _ => ⟨[], [], [], false⟩) k) hG (calls := [(156, S156 k), (182, S182 k)]) ⟨ok156 hG k, ok182 hG k, trivial⟩ 5 rfl (S181 k) (congrFun e181 k)

/-- loop.example/g01402/laws.toSlot -/
def F193 (k : Nat) (a0 : D3) : Option (D3) :=
  ((F181 k a0.1).bind fun r1 => some (r1, a0.2))
def S193 (k : Nat) : CSpec := { params := [U3], res := [(U3, true)], fresh := true, sem := fun x => F193 k x.1 }
theorem e193 : (fun k => evFn ((T (fun _ _ => ⟨[], [], [], false⟩) k).cx [(181, S181 k)]) 5 Tryz.f193 (S193 0).params (S193 0).res true) = fun k => (S193 k).sem := by kernel_rfl
theorem ok193 {G : World → Prop} (hG : Lasts G) (k : Nat) : (S193 k).ok Tryz.prog G 193 := fn_ok (T_ok (fun _ _ => ⟨[], [], [], false⟩) k) hG (calls := [(181, S181 k)]) ⟨ok181 hG k, trivial⟩ 5 rfl (S193 k) (congrFun e193 k)

/-- loop.example/g01402/laws.toSlotS -/
def F155 (k : Nat) (a0 : List D3) : Option ((List D3)) :=
  (bif (decide (0 ≤ (a0.length : Int) ∧ (a0.length : Int) = (a0.length : Int) ∧ (a0.length : Int) < (most : Int))) then (iter (σ := Int × List D3 × Unit) (fun rec5 x4 => (bif (decide (x4.1 < (a0.length : Int))) then (bif (decide (0 ≤ x4.1 ∧ x4.1 < (a0.length : Int))) then ((F193 k (a0.getD x4.1.toNat Z3)).bind fun r6 => (bif (decide (0 ≤ x4.1 ∧ x4.1 < (x4.2.1.length : Int))) then (rec5 ((wrap64 (x4.1 + (1 : Int))), (x4.2.1.set x4.1.toNat r6), ())) else none)) else none) else some x4.2.1)) k ((0 : Int), (List.replicate (a0.length : Int).toNat Z3), ())) else none)
def S155 (k : Nat) : CSpec := { params := [(.slice U3)], res := [((.slice U3), true)], fresh := true, sem := fun x => F155 k x.1 }
theorem e155 : (fun k => evFn ((T (fun _ _ => ⟨[4], [1], [], false⟩) k).cx [(193, S193 k)]) 5 Tryz.f155 (S155 0).params (S155 0).res true) = fun k => (S155 k).sem := by kernel_rfl
theorem ok155 {G : World → Prop} (hG : Lasts G) (k : Nat) : (S155 k).ok Tryz.prog G 155 := fn_ok (T_ok (fun _ _ => ⟨[4], [1], [], false⟩) k) hG (calls := [(193, S193 k)]) ⟨ok193 hG k, trivial⟩ 5 rfl (S155 k) (congrFun e155 k)

/-- loop.example/g01402/laws.toShard -/
def F96 (k : Nat) (a0 : D4) : Option (D4) :=
  ((F155 k a0.2.2.1).bind fun r1 => some (a0.1, a0.2.1, r1, a0.2.2.2))
def S96 (k : Nat) : CSpec := { params := [U4], res := [(U4, true)], fresh := true, sem := fun x => F96 k x.1 }
theorem e96 : (fun k => evFn ((T (fun _ _ => ⟨[], [], [], false⟩) k).cx [(155, S155 k)]) 5 Tryz.f96 (S96 0).params (S96 0).res true) = fun k => (S96 k).sem := by kernel_rfl
theorem ok96 {G : World → Prop} (hG : Lasts G) (k : Nat) : (S96 k).ok Tryz.prog G 96 := fn_ok (T_ok (fun _ _ => ⟨[], [], [], false⟩) k) hG (calls := [(155, S155 k)]) ⟨ok155 hG k, trivial⟩ 5 rfl (S96 k) (congrFun e96 k)

/-- loop.example/g01402/laws.toShardS -/
def F44 (k : Nat) (a0 : List D4) : Option ((List D4)) :=
  (bif (decide (0 ≤ (a0.length : Int) ∧ (a0.length : Int) = (a0.length : Int) ∧ (a0.length : Int) < (most : Int))) then (iter (σ := Int × List D4 × Unit) (fun rec5 x4 => (bif (decide (x4.1 < (a0.length : Int))) then (bif (decide (0 ≤ x4.1 ∧ x4.1 < (a0.length : Int))) then ((F96 k (a0.getD x4.1.toNat Z4)).bind fun r6 => (bif (decide (0 ≤ x4.1 ∧ x4.1 < (x4.2.1.length : Int))) then (rec5 ((wrap64 (x4.1 + (1 : Int))), (x4.2.1.set x4.1.toNat r6), ())) else none)) else none) else some x4.2.1)) k ((0 : Int), (List.replicate (a0.length : Int).toNat Z4), ())) else none)
def S44 (k : Nat) : CSpec := { params := [(.slice U4)], res := [((.slice U4), true)], fresh := true, sem := fun x => F44 k x.1 }
theorem e44 : (fun k => evFn ((T (fun _ _ => ⟨[4], [1], [], false⟩) k).cx [(96, S96 k)]) 5 Tryz.f44 (S44 0).params (S44 0).res true) = fun k => (S44 k).sem := by kernel_rfl
theorem ok44 {G : World → Prop} (hG : Lasts G) (k : Nat) : (S44 k).ok Tryz.prog G 44 := fn_ok (T_ok (fun _ _ => ⟨[4], [1], [], false⟩) k) hG (calls := [(96, S96 k)]) ⟨ok96 hG k, trivial⟩ 5 rfl (S44 k) (congrFun e44 k)

/-- loop.example/g01402/laws.toGenRow -/
def F97 (k : Nat) (a0 : D5) : Option (D5) :=
  some a0
def S97 (k : Nat) : CSpec := { params := [U5], res := [(U5, false)], fresh := true, sem := fun x => F97 k x.1 }
theorem e97 : (fun k => evFn ((T (fun _ _ => ⟨[], [], [], false⟩) k).cx []) 5 Tryz.f97 (S97 0).params (S97 0).res true) = fun k => (S97 k).sem := by kernel_rfl
theorem ok97 {G : World → Prop} (hG : Lasts G) (k : Nat) : (S97 k).ok Tryz.prog G 97 := fn_ok (T_ok (fun _ _ => ⟨[], [], [], false⟩) k) hG (calls := []) trivial 5 rfl (S97 k) (congrFun e97 k)

/-- loop.example/g01402/laws.toGenRowS -/
def F45 (k : Nat) (a0 : List D5) : Option ((List D5)) :=
  (bif (decide (0 ≤ (a0.length : Int) ∧ (a0.length : Int) = (a0.length : Int) ∧ (a0.length : Int) < (most : Int))) then (iter (σ := Int × List D5 × Unit) (fun rec5 x4 => (bif (decide (x4.1 < (a0.length : Int))) then (bif (decide (0 ≤ x4.1 ∧ x4.1 < (a0.length : Int))) then ((F97 k (a0.getD x4.1.toNat Z5)).bind fun r6 => (bif (decide (0 ≤ x4.1 ∧ x4.1 < (x4.2.1.length : Int))) then (rec5 ((wrap64 (x4.1 + (1 : Int))), (x4.2.1.set x4.1.toNat r6), ())) else none)) else none) else some x4.2.1)) k ((0 : Int), (List.replicate (a0.length : Int).toNat Z5), ())) else none)
def S45 (k : Nat) : CSpec := { params := [(.slice U5)], res := [((.slice U5), true)], fresh := true, sem := fun x => F45 k x.1 }
theorem e45 : (fun k => evFn ((T (fun _ _ => ⟨[4], [1], [], false⟩) k).cx [(97, S97 k)]) 5 Tryz.f45 (S45 0).params (S45 0).res true) = fun k => (S45 k).sem := by kernel_rfl
theorem ok45 {G : World → Prop} (hG : Lasts G) (k : Nat) : (S45 k).ok Tryz.prog G 45 := fn_ok (T_ok (fun _ _ => ⟨[4], [1], [], false⟩) k) hG (calls := [(97, S97 k)]) ⟨ok97 hG k, trivial⟩ 5 rfl (S45 k) (congrFun e45 k)

/-- loop.example/g01402/laws.toCache -/
def F12 (k : Nat) (a0 : D6) : Option (D6) :=
  ((F44 k a0.1).bind fun r1 => ((F45 k a0.2).bind fun r2 => some (r1, r2)))
def S12 (k : Nat) : CSpec := { params := [U6], res := [(U6, true)], fresh := true, sem := fun x => F12 k x.1 }
theorem e12 : (fun k => evFn ((T (fun _ _ => ⟨[], [], [], false⟩) k).cx [(44, S44 k), (45, S45 k)]) 5 Tryz.f12 (S12 0).params (S12 0).res true) = fun k => (S12 k).sem := by kernel_rfl
theorem ok12 {G : World → Prop} (hG : Lasts G) (k : Nat) : (S12 k).ok Tryz.prog G 12 := fn_ok (T_ok (fun _ _ => ⟨[], [], [], false⟩) k) hG (calls := [(44, S44 k), (45, S45 k)]) ⟨ok44 hG k, ok45 hG k, trivial⟩ 5 rfl (S12 k) (congrFun e12 k)

/-- loop.example/g01402/laws.toRes -/
def F98 (k : Nat) (a0 : D7) : Option (D7) :=
  ((F156 k a0.2.2.2.2.2.2).bind fun r1 => some (a0.1, a0.2.1, a0.2.2.1, a0.2.2.2.1, a0.2.2.2.2.1, a0.2.2.2.2.2.1, r1))
def S98 (k : Nat) : CSpec := { params := [U7], res := [(U7, true)], fresh := true, sem := fun x => F98 k x.1 }
theorem e98 : (fun k => evFn ((T (fun _ _ => ⟨[], [], [], false⟩) k).cx [(156, S156 k)]) 5 Tryz.f98 (S98 0).params (S98 0).res true) = fun k => (S98 k).sem := by kernel_rfl
theorem ok98 {G : World → Prop} (hG : Lasts G) (k : Nat) : (S98 k).ok Tryz.prog G 98 := fn_ok (T_ok (fun _ _ => ⟨[], [], [], false⟩) k) hG (calls := [(156, S156 k)]) ⟨ok156 hG k, trivial⟩ 5 rfl (S98 k) (congrFun e98 k)

/-- loop.example/g01402/laws.toResS -/
def F46 (k : Nat) (a0 : List D7) : Option ((List D7)) :=
  (bif (decide (0 ≤ (a0.length : Int) ∧ (a0.length : Int) = (a0.length : Int) ∧ (a0.length : Int) < (most : Int))) then (iter (σ := Int × List D7 × Unit) (fun rec5 x4 => (bif (decide (x4.1 < (a0.length : Int))) then (bif (decide (0 ≤ x4.1 ∧ x4.1 < (a0.length : Int))) then ((F98 k (a0.getD x4.1.toNat Z7)).bind fun r6 => (bif (decide (0 ≤ x4.1 ∧ x4.1 < (x4.2.1.length : Int))) then (rec5 ((wrap64 (x4.1 + (1 : Int))), (x4.2.1.set x4.1.toNat r6), ())) else none)) else none) else some x4.2.1)) k ((0 : Int), (List.replicate (a0.length : Int).toNat Z7), ())) else none)
def S46 (k : Nat) : CSpec := { params := [(.slice U7)], res := [((.slice U7), true)], fresh := true, sem := fun x => F46 k x.1 }
theorem e46 : (fun k => evFn ((T (fun _ _ => ⟨[4], [1], [], false⟩) k).cx [(98, S98 k)]) 5 Tryz.f46 (S46 0).params (S46 0).res true) = fun k => (S46 k).sem := by kernel_rfl
theorem ok46 {G : World → Prop} (hG : Lasts G) (k : Nat) : (S46 k).ok Tryz.prog G 46 := fn_ok (T_ok (fun _ _ => ⟨[4], [1], [], false⟩) k) hG (calls := [(98, S98 k)]) ⟨ok98 hG k, trivial⟩ 5 rfl (S46 k) (congrFun e46 k)

/-- loop.example/g01402/laws.toOrigin -/
def F13 (k : Nat) (a0 : D8) : Option (D8) :=
  ((F46 k a0).bind fun r1 => some r1)
def S13 (k : Nat) : CSpec := { params := [U8], res := [(U8, true)], fresh := true, sem := fun x => F13 k x.1 }
theorem e13 : (fun k => evFn ((T (fun _ _ => ⟨[], [], [], false⟩) k).cx [(46, S46 k)]) 5 Tryz.f13 (S13 0).params (S13 0).res true) = fun k => (S13 k).sem := by kernel_rfl
theorem ok13 {G : World → Prop} (hG : Lasts G) (k : Nat) : (S13 k).ok Tryz.prog G 13 := fn_ok (T_ok (fun _ _ => ⟨[], [], [], false⟩) k) hG (calls := [(46, S46 k)]) ⟨ok46 hG k, trivial⟩ 5 rfl (S13 k) (congrFun e13 k)

/-- loop.example/g01402/spec.l1In -/
def F81 (k : Nat) (a0 : Int) (a1 : Int) (a2 : Int) : Option (Bool) :=
  (bif (decide (a1 ≤ a0)) then some (decide (a0 ≤ a2)) else some false)
def S81 (k : Nat) : CSpec := { params := [(.int .i64), (.int .i64), (.int .i64)], res := [(.bool, false)], fresh := true, sem := fun x => F81 k x.1 x.2.1 x.2.2.1 }
theorem e81 : (fun k => evFn ((T (fun _ _ => ⟨[], [], [], false⟩) k).cx []) 5 Tryz.f81 (S81 0).params (S81 0).res true) = fun k => (S81 k).sem := by kernel_rfl
theorem ok81 {G : World → Prop} (hG : Lasts G) (k : Nat) : (S81 k).ok Tryz.prog G 81 := fn_ok (T_ok (fun _ _ => ⟨[], [], [], false⟩) k) hG (calls := []) trivial 5 rfl (S81 k) (congrFun e81 k)

/-- loop.example/g01402/spec.l12Filled -/
def F148 (k : Nat) (a0 : D4) : Option (Int) :=
  (iter (σ := Int × Int × Unit) (fun rec4 x3 => (bif (decide (x3.2.1 < (a0.2.2.1.length : Int))) then (bif (decide (0 ≤ x3.2.1 ∧ x3.2.1 < (a0.2.2.1.length : Int))) then (rec4 ((wrap64 (x3.1 + ((a0.2.2.1.getD x3.2.1.toNat Z3).1.2.2.1.2.2.size : Int))), (wrap64 (x3.2.1 + (1 : Int))), ())) else none) else some x3.1)) k ((0 : Int), (0 : Int), ()))
def S148 (k : Nat) : CSpec := { params := [U4], res := [((.int .i64), false)], fresh := true, sem := fun x => F148 k x.1 }
theorem e148 : (fun k => evFn ((T (fun _ _ => ⟨[3, 4], [], [], false⟩) k).cx []) 5 Tryz.f148 (S148 0).params (S148 0).res true) = fun k => (S148 k).sem := by kernel_rfl
theorem ok148 {G : World → Prop} (hG : Lasts G) (k : Nat) : (S148 k).ok Tryz.prog G 148 := fn_ok (T_ok (fun _ _ => ⟨[3, 4], [], [], false⟩) k) hG (calls := []) trivial 5 rfl (S148 k) (congrFun e148 k)

/-- loop.example/g01402/spec.UriOk -/
def F93 (k : Nat) (a0 : ByteArray) : Option (Bool) :=
  (iter (σ := Int × Unit) (fun rec4 x3 => (bif (decide (x3.1 < (a0.size : Int))) then (bif (decide (0 ≤ x3.1 ∧ x3.1 < (a0.size : Int))) then (bif (decide ((bt a0 x3.1) ≤ (32 : Int))) then some false else (bif (decide (0 ≤ x3.1 ∧ x3.1 < (a0.size : Int))) then (bif (decide ((127 : Int) ≤ (bt a0 x3.1))) then some false else (rec4 ((wrap64 (x3.1 + (1 : Int))), ()))) else none)) else none) else ((F81 k (a0.size : Int) (1 : Int) (20 : Int)).bind fun r5 => (bif r5 then (bif (decide (0 ≤ (0 : Int) ∧ (0 : Int) < (a0.size : Int))) then some (decide ((bt a0 (0 : Int)) = (47 : Int))) else none) else some false)))) k ((0 : Int), ()))
def S93 (k : Nat) : CSpec := { params := [.str], res := [(.bool, false)], fresh := true, sem := fun x => F93 k x.1 }
theorem e93 : (fun k => evFn ((T (fun _ _ => ⟨[3], [], [], false⟩) k).cx [(81, S81 k)]) 5 Tryz.f93 (S93 0).params (S93 0).res true) = fun k => (S93 k).sem := by kernel_rfl
theorem ok93 {G : World → Prop} (hG : Lasts G) (k : Nat) : (S93 k).ok Tryz.prog G 93 := fn_ok (T_ok (fun _ _ => ⟨[3], [], [], false⟩) k) hG (calls := [(81, S81 k)]) ⟨ok81 hG k, trivial⟩ 5 rfl (S93 k) (congrFun e93 k)

/-- loop.example/g01402/spec.FieldGet -/
def F152 (k : Nat) (a0 : List D0) (a1 : ByteArray) : Option (ByteArray × Bool) :=
  (iter (σ := ByteArray × Bool × Int × Unit) (fun rec4 x3 => (bif (decide (x3.2.2.1 < (a0.length : Int))) then (bif (decide (0 ≤ x3.2.2.1 ∧ x3.2.2.1 < (a0.length : Int))) then (bif (!decide ((a0.getD x3.2.2.1.toNat Z0).1 = a1)) then (rec4 (x3.1, x3.2.1, (wrap64 (x3.2.2.1 + (1 : Int))), ())) else (bif x3.2.1 then (bif (decide (x3.1.size + (ByteArray.mk #[44, 32]).size < mostText)) then (bif (decide (0 ≤ x3.2.2.1 ∧ x3.2.2.1 < (a0.length : Int))) then (bif (decide ((x3.1 ++ (ByteArray.mk #[44, 32])).size + (a0.getD x3.2.2.1.toNat Z0).2.size < mostText)) then (rec4 (((x3.1 ++ (ByteArray.mk #[44, 32])) ++ (a0.getD x3.2.2.1.toNat Z0).2), true, (wrap64 (x3.2.2.1 + (1 : Int))), ())) else none) else none) else none) else (bif (decide (0 ≤ x3.2.2.1 ∧ x3.2.2.1 < (a0.length : Int))) then (bif (decide (x3.1.size + (a0.getD x3.2.2.1.toNat Z0).2.size < mostText)) then (rec4 ((x3.1 ++ (a0.getD x3.2.2.1.toNat Z0).2), true, (wrap64 (x3.2.2.1 + (1 : Int))), ())) else none) else none))) else none) else some (x3.1, x3.2.1))) k ((ByteArray.mk #[]), false, (0 : Int), ()))
def S152 (k : Nat) : CSpec := { params := [(.slice U0), .str], res := [(.str, false), (.bool, false)], fresh := true, sem := fun x => F152 k x.1 x.2.1 }
theorem e152 : (fun k => evFn ((T (fun _ _ => ⟨[6, 7, 8], [], [], false⟩) k).cx []) 5 Tryz.f152 (S152 0).params (S152 0).res true) = fun k => (S152 k).sem := by kernel_rfl
theorem ok152 {G : World → Prop} (hG : Lasts G) (k : Nat) : (S152 k).ok Tryz.prog G 152 := fn_ok (T_ok (fun _ _ => ⟨[6, 7, 8], [], [], false⟩) k) hG (calls := []) trivial 5 rfl (S152 k) (congrFun e152 k)

/-- loop.example/g01402/spec.l2Token -/
def F207 := Tok.G207
abbrev S207 := Tok.S207
theorem ok207 {G : World → Prop} (hG : Lasts G) (k : Nat) : (S207 k).ok Tryz.prog G 207 := Tok.ok207 hG k

/-- loop.example/g01402/spec.IsTokenText -/
def F179 (k : Nat) (a0 : ByteArray) : Option (Bool) :=
  (iter (σ := Int × Unit) (fun rec5 x4 => (bif (decide (x4.1 < (a0.size : Int))) then (bif (decide (0 ≤ x4.1 ∧ x4.1 < (a0.size : Int))) then ((Tok.G207 k (bt a0 x4.1)).bind fun r6 => (bif (!r6) then some false else (rec5 ((wrap64 (x4.1 + (1 : Int))), ())))) else none) else some (decide ((0 : Int) < (a0.size : Int))))) k ((0 : Int), ()))
def S179 (k : Nat) : CSpec := { params := [.str], res := [(.bool, false)], fresh := true, sem := fun x => F179 k x.1 }
theorem e179 : (fun k => evFn ((T (fun _ _ => ⟨[3], [], [], false⟩) k).cx [(207, S207 k)]) 5 Tryz.f179 (S179 0).params (S179 0).res true) = fun k => (S179 k).sem := by kernel_rfl
theorem ok179 {G : World → Prop} (hG : Lasts G) (k : Nat) : (S179 k).ok Tryz.prog G 179 := fn_ok (T_ok (fun _ _ => ⟨[3], [], [], false⟩) k) hG (calls := [(207, S207 k)]) ⟨ok207 hG k, trivial⟩ 5 rfl (S179 k) (congrFun e179 k)

/-- loop.example/g01402/spec.Lower -/
def F211 (k : Nat) (a0 : ByteArray) : Option (ByteArray) :=
  (iter (σ := Int × List Int × Unit) (fun rec4 x3 => (bif (decide (x3.1 < (x3.2.1.length : Int))) then (bif (decide (0 ≤ x3.1 ∧ x3.1 < (x3.2.1.length : Int))) then (bif (decide ((65 : Int) ≤ (x3.2.1.getD x3.1.toNat (0 : Int)))) then (bif (decide (0 ≤ x3.1 ∧ x3.1 < (x3.2.1.length : Int))) then (bif (decide ((x3.2.1.getD x3.1.toNat (0 : Int)) ≤ (90 : Int))) then (bif (decide (0 ≤ x3.1 ∧ x3.1 < (x3.2.1.length : Int))) then (bif (decide (0 ≤ x3.1 ∧ x3.1 < (x3.2.1.length : Int))) then (rec4 ((wrap64 (x3.1 + (1 : Int))), (x3.2.1.set x3.1.toNat (wr .u8 ((x3.2.1.getD x3.1.toNat (0 : Int)) + (32 : Int)))), ())) else none) else none) else (rec4 ((wrap64 (x3.1 + (1 : Int))), x3.2.1, ()))) else none) else (rec4 ((wrap64 (x3.1 + (1 : Int))), x3.2.1, ()))) else none) else some (strOf x3.2.1))) k ((0 : Int), (bytesOf a0), ()))
def S211 (k : Nat) : CSpec := { params := [.str], res := [(.str, false)], fresh := true, sem := fun x => F211 k x.1 }
theorem e211 : (fun k => evFn ((T (fun _ _ => ⟨[4], [0], [], false⟩) k).cx []) 5 Tryz.f211 (S211 0).params (S211 0).res true) = fun k => (S211 k).sem := by kernel_rfl
theorem ok211 {G : World → Prop} (hG : Lasts G) (k : Nat) : (S211 k).ok Tryz.prog G 211 := fn_ok (T_ok (fun _ _ => ⟨[4], [0], [], false⟩) k) hG (calls := []) trivial 5 rfl (S211 k) (congrFun e211 k)

/-- loop.example/g01402/spec.l2Blank -/
def F225 (k : Nat) (a0 : Int) : Option (Bool) :=
  (bif (decide (a0 = (32 : Int))) then some true else some (decide (a0 = (9 : Int))))
def S225 (k : Nat) : CSpec := { params := [(.int .u8)], res := [(.bool, false)], fresh := true, sem := fun x => F225 k x.1 }
theorem e225 : (fun k => evFn ((T (fun _ _ => ⟨[], [], [], false⟩) k).cx []) 5 Tryz.f225 (S225 0).params (S225 0).res true) = fun k => (S225 k).sem := by kernel_rfl
theorem ok225 {G : World → Prop} (hG : Lasts G) (k : Nat) : (S225 k).ok Tryz.prog G 225 := fn_ok (T_ok (fun _ _ => ⟨[], [], [], false⟩) k) hG (calls := []) trivial 5 rfl (S225 k) (congrFun e225 k)

/-- loop.example/g01402/spec.Trim -/
def F221 (k : Nat) (a0 : ByteArray) : Option (ByteArray) :=
  (iter (σ := ByteArray × Unit) (fun rec5 x4 => (bif (decide ((0 : Int) < (x4.1.size : Int))) then (bif (decide (0 ≤ (0 : Int) ∧ (0 : Int) < (x4.1.size : Int))) then ((F225 k (bt x4.1 (0 : Int))).bind fun r6 => (bif r6 then (bif (decide (0 ≤ (1 : Int) ∧ (1 : Int) ≤ (x4.1.size : Int) ∧ (x4.1.size : Int) ≤ (x4.1.size : Int))) then (rec5 ((x4.1.extract (1 : Int).toNat (x4.1.size : Int).toNat), ())) else none) else (iter (σ := ByteArray × Unit) (fun rec11 x10 => (bif (decide ((0 : Int) < (x10.1.size : Int))) then (bif (decide (0 ≤ (wrap64 ((x10.1.size : Int) - (1 : Int))) ∧ (wrap64 ((x10.1.size : Int) - (1 : Int))) < (x10.1.size : Int))) then ((F225 k (bt x10.1 (wrap64 ((x10.1.size : Int) - (1 : Int))))).bind fun r12 => (bif r12 then (bif (decide (0 ≤ (0 : Int) ∧ (0 : Int) ≤ (wrap64 ((x10.1.size : Int) - (1 : Int))) ∧ (wrap64 ((x10.1.size : Int) - (1 : Int))) ≤ (x10.1.size : Int))) then (rec11 ((x10.1.extract (0 : Int).toNat (wrap64 ((x10.1.size : Int) - (1 : Int))).toNat), ())) else none) else some x10.1)) else none) else some x10.1)) k (x4.1, ())))) else none) else (iter (σ := ByteArray × Unit) (fun rec17 x16 => (bif (decide ((0 : Int) < (x16.1.size : Int))) then (bif (decide (0 ≤ (wrap64 ((x16.1.size : Int) - (1 : Int))) ∧ (wrap64 ((x16.1.size : Int) - (1 : Int))) < (x16.1.size : Int))) then ((F225 k (bt x16.1 (wrap64 ((x16.1.size : Int) - (1 : Int))))).bind fun r18 => (bif r18 then (bif (decide (0 ≤ (0 : Int) ∧ (0 : Int) ≤ (wrap64 ((x16.1.size : Int) - (1 : Int))) ∧ (wrap64 ((x16.1.size : Int) - (1 : Int))) ≤ (x16.1.size : Int))) then (rec17 ((x16.1.extract (0 : Int).toNat (wrap64 ((x16.1.size : Int) - (1 : Int))).toNat), ())) else none) else some x16.1)) else none) else some x16.1)) k (x4.1, ())))) k (a0, ()))
def S221 (k : Nat) : CSpec := { params := [.str], res := [(.str, false)], fresh := true, sem := fun x => F221 k x.1 }
theorem e221 : (fun k => evFn ((T (fun _ _ => ⟨[0], [], [], false⟩) k).cx [(225, S225 k)]) 5 Tryz.f221 (S221 0).params (S221 0).res true) = fun k => (S221 k).sem := by kernel_rfl
theorem ok221 {G : World → Prop} (hG : Lasts G) (k : Nat) : (S221 k).ok Tryz.prog G 221 := fn_ok (T_ok (fun _ _ => ⟨[0], [], [], false⟩) k) hG (calls := [(225, S225 k)]) ⟨ok225 hG k, trivial⟩ 5 rfl (S221 k) (congrFun e221 k)

/-- loop.example/g01402/spec.IsValueText -/
def F212 (k : Nat) (a0 : ByteArray) : Option (Bool) :=
  (iter (σ := Int × Unit) (fun rec4 x3 => (bif (decide (x3.1 < (a0.size : Int))) then (bif (decide (0 ≤ x3.1 ∧ x3.1 < (a0.size : Int))) then (bif (!decide ((bt a0 x3.1) = (9 : Int))) then (bif (decide (0 ≤ x3.1 ∧ x3.1 < (a0.size : Int))) then (bif (decide ((bt a0 x3.1) < (32 : Int))) then some false else (bif (decide (0 ≤ x3.1 ∧ x3.1 < (a0.size : Int))) then (bif (decide ((bt a0 x3.1) = (127 : Int))) then some false else (rec4 ((wrap64 (x3.1 + (1 : Int))), ()))) else none)) else none) else (rec4 ((wrap64 (x3.1 + (1 : Int))), ()))) else none) else ((F221 k a0).bind fun r5 => some (decide (r5 = a0))))) k ((0 : Int), ()))
def S212 (k : Nat) : CSpec := { params := [.str], res := [(.bool, false)], fresh := true, sem := fun x => F212 k x.1 }
theorem e212 : (fun k => evFn ((T (fun _ _ => ⟨[3], [], [], false⟩) k).cx [(221, S221 k)]) 5 Tryz.f212 (S212 0).params (S212 0).res true) = fun k => (S212 k).sem := by kernel_rfl
theorem ok212 {G : World → Prop} (hG : Lasts G) (k : Nat) : (S212 k).ok Tryz.prog G 212 := fn_ok (T_ok (fun _ _ => ⟨[3], [], [], false⟩) k) hG (calls := [(221, S221 k)]) ⟨ok221 hG k, trivial⟩ 5 rfl (S212 k) (congrFun e212 k)

/-- loop.example/g01402/spec.l3FieldOk -/
def F192 (k : Nat) (a0 : D0) : Option (Bool) :=
  ((F179 k a0.1).bind fun r1 => (bif r1 then ((F211 k a0.1).bind fun r2 => (bif (decide (a0.1 = r2)) then (bif (decide ((a0.1.size : Int) ≤ (24 : Int))) then ((F212 k a0.2).bind fun r3 => (bif r3 then some (decide ((a0.2.size : Int) ≤ (60 : Int))) else some false)) else some false) else some false)) else some false))
def S192 (k : Nat) : CSpec := { params := [U0], res := [(.bool, false)], fresh := true, sem := fun x => F192 k x.1 }
theorem e192 : (fun k => evFn ((T (fun _ _ => ⟨[], [], [], false⟩) k).cx [(179, S179 k), (211, S211 k), (212, S212 k)]) 5 Tryz.f192 (S192 0).params (S192 0).res true) = fun k => (S192 k).sem := by kernel_rfl
theorem ok192 {G : World → Prop} (hG : Lasts G) (k : Nat) : (S192 k).ok Tryz.prog G 192 := fn_ok (T_ok (fun _ _ => ⟨[], [], [], false⟩) k) hG (calls := [(179, S179 k), (211, S211 k), (212, S212 k)]) ⟨ok179 hG k, ok211 hG k, ok212 hG k, trivial⟩ 5 rfl (S192 k) (congrFun e192 k)

/-- loop.example/g01402/spec.FieldsOk -/
def F153 (k : Nat) (a0 : List D0) : Option (Bool) :=
  (iter (σ := Int × Unit) (fun rec5 x4 => (bif (decide (x4.1 < (a0.length : Int))) then (bif (decide (0 ≤ x4.1 ∧ x4.1 < (a0.length : Int))) then ((F192 k (a0.getD x4.1.toNat Z0)).bind fun r6 => (bif (!r6) then some false else (rec5 ((wrap64 (x4.1 + (1 : Int))), ())))) else none) else some (decide ((a0.length : Int) ≤ (12 : Int))))) k ((0 : Int), ()))
def S153 (k : Nat) : CSpec := { params := [(.slice U0)], res := [(.bool, false)], fresh := true, sem := fun x => F153 k x.1 }
theorem e153 : (fun k => evFn ((T (fun _ _ => ⟨[3], [], [], false⟩) k).cx [(192, S192 k)]) 5 Tryz.f153 (S153 0).params (S153 0).res true) = fun k => (S153 k).sem := by kernel_rfl
theorem ok153 {G : World → Prop} (hG : Lasts G) (k : Nat) : (S153 k).ok Tryz.prog G 153 := fn_ok (T_ok (fun _ _ => ⟨[3], [], [], false⟩) k) hG (calls := [(192, S192 k)]) ⟨ok192 hG k, trivial⟩ 5 rfl (S153 k) (congrFun e153 k)

/-- loop.example/g01402/spec.l6Plain -/
def F94 (k : Nat) (a0 : List D0) : Option (Bool) :=
  ((F152 k a0 (ByteArray.mk #[116, 114, 97, 110, 115, 102, 101, 114, 45, 101, 110, 99, 111, 100, 105, 110, 103])).bind fun r1 => ((F152 k a0 (ByteArray.mk #[99, 111, 110, 116, 101, 110, 116, 45, 108, 101, 110, 103, 116, 104])).bind fun r2 => (bif (!r1.2) then (bif (!r2.2) then (bif (decide ((a0.length : Int) < (12 : Int))) then ((F153 k a0).bind fun r3 => some r3) else some false) else some false) else some false)))
def S94 (k : Nat) : CSpec := { params := [(.slice U0)], res := [(.bool, false)], fresh := true, sem := fun x => F94 k x.1 }
theorem e94 : (fun k => evFn ((T (fun _ _ => ⟨[], [], [], false⟩) k).cx [(152, S152 k), (153, S153 k)]) 5 Tryz.f94 (S94 0).params (S94 0).res true) = fun k => (S94 k).sem := by kernel_rfl
theorem ok94 {G : World → Prop} (hG : Lasts G) (k : Nat) : (S94 k).ok Tryz.prog G 94 := fn_ok (T_ok (fun _ _ => ⟨[], [], [], false⟩) k) hG (calls := [(152, S152 k), (153, S153 k)]) ⟨ok152 hG k, ok153 hG k, trivial⟩ 5 rfl (S94 k) (congrFun e94 k)

/-- loop.example/g01402/spec.ResponseOk -/
def F190 (k : Nat) (a0 : D1) : Option (Bool) :=
  ((F81 k a0.1 (200 : Int) (599 : Int)).bind fun r1 => (bif r1 then ((F94 k a0.2.1).bind fun r2 => (bif r2 then (bif (decide ((a0.2.2.size : Int) ≤ (60 : Int))) then (bif (!decide (a0.1 = (204 : Int))) then (bif (!decide (a0.1 = (304 : Int))) then some true else some (decide (a0.2.2 = (ByteArray.mk #[])))) else some (decide (a0.2.2 = (ByteArray.mk #[])))) else some false) else some false)) else some false))
def S190 (k : Nat) : CSpec := { params := [U1], res := [(.bool, false)], fresh := true, sem := fun x => F190 k x.1 }
theorem e190 : (fun k => evFn ((T (fun _ _ => ⟨[], [], [], false⟩) k).cx [(81, S81 k), (94, S94 k)]) 5 Tryz.f190 (S190 0).params (S190 0).res true) = fun k => (S190 k).sem := by kernel_rfl
theorem ok190 {G : World → Prop} (hG : Lasts G) (k : Nat) : (S190 k).ok Tryz.prog G 190 := fn_ok (T_ok (fun _ _ => ⟨[], [], [], false⟩) k) hG (calls := [(81, S81 k), (94, S94 k)]) ⟨ok81 hG k, ok94 hG k, trivial⟩ 5 rfl (S190 k) (congrFun e190 k)

/-- loop.example/g01402/spec.StoredOk -/
def F149 (k : Nat) (a0 : D2) : Option (Bool) :=
  ((F93 k a0.1).bind fun r1 => (bif r1 then ((F190 k a0.2.2.1).bind fun r2 => (bif r2 then ((F81 k a0.2.2.2.1 (0 : Int) (2000000000 : Int)).bind fun r3 => (bif r3 then ((F81 k a0.2.2.2.2 a0.2.2.2.1 (2000000000 : Int)).bind fun r4 => (bif r4 then some (decide ((a0.2.1.length : Int) ≤ (12 : Int))) else some false)) else some false)) else some false)) else some false))
def S149 (k : Nat) : CSpec := { params := [U2], res := [(.bool, false)], fresh := true, sem := fun x => F149 k x.1 }
theorem e149 : (fun k => evFn ((T (fun _ _ => ⟨[], [], [], false⟩) k).cx [(81, S81 k), (93, S93 k), (190, S190 k)]) 5 Tryz.f149 (S149 0).params (S149 0).res true) = fun k => (S149 k).sem := by kernel_rfl
theorem ok149 {G : World → Prop} (hG : Lasts G) (k : Nat) : (S149 k).ok Tryz.prog G 149 := fn_ok (T_ok (fun _ _ => ⟨[], [], [], false⟩) k) hG (calls := [(81, S81 k), (93, S93 k), (190, S190 k)]) ⟨ok81 hG k, ok93 hG k, ok190 hG k, trivial⟩ 5 rfl (S149 k) (congrFun e149 k)

/-- loop.example/g01402/spec.SameFields -/
def F191 (k : Nat) (a0 : List D0) (a1 : List D0) : Option (Bool) :=
  (bif (!decide ((a0.length : Int) = (a1.length : Int))) then some false else (iter (σ := Int × Unit) (fun rec4 x3 => (bif (decide (x3.1 < (a0.length : Int))) then (bif (decide (0 ≤ x3.1 ∧ x3.1 < (a0.length : Int))) then (bif (decide (0 ≤ x3.1 ∧ x3.1 < (a1.length : Int))) then (bif (!((decide ((a0.getD x3.1.toNat Z0).1 = (a1.getD x3.1.toNat Z0).1)) && (decide ((a0.getD x3.1.toNat Z0).2 = (a1.getD x3.1.toNat Z0).2)))) then some false else (rec4 ((wrap64 (x3.1 + (1 : Int))), ()))) else none) else none) else some true)) k ((0 : Int), ())))
def S191 (k : Nat) : CSpec := { params := [(.slice U0), (.slice U0)], res := [(.bool, false)], fresh := true, sem := fun x => F191 k x.1 x.2.1 }
theorem e191 : (fun k => evFn ((T (fun _ _ => ⟨[5], [], [], false⟩) k).cx []) 5 Tryz.f191 (S191 0).params (S191 0).res true) = fun k => (S191 k).sem := by kernel_rfl
theorem ok191 {G : World → Prop} (hG : Lasts G) (k : Nat) : (S191 k).ok Tryz.prog G 191 := fn_ok (T_ok (fun _ _ => ⟨[5], [], [], false⟩) k) hG (calls := []) trivial 5 rfl (S191 k) (congrFun e191 k)

/-- loop.example/g01402/spec.l12Same -/
def F150 (k : Nat) (a0 : D2) (a1 : D2) : Option (Bool) :=
  (bif (decide (a0.1 = a1.1)) then ((F191 k a0.2.1 a1.2.1).bind fun r1 => some r1) else some false)
def S150 (k : Nat) : CSpec := { params := [U2, U2], res := [(.bool, false)], fresh := true, sem := fun x => F150 k x.1 x.2.1 }
theorem e150 : (fun k => evFn ((T (fun _ _ => ⟨[], [], [], false⟩) k).cx [(191, S191 k)]) 5 Tryz.f150 (S150 0).params (S150 0).res true) = fun k => (S150 k).sem := by kernel_rfl
theorem ok150 {G : World → Prop} (hG : Lasts G) (k : Nat) : (S150 k).ok Tryz.prog G 150 := fn_ok (T_ok (fun _ _ => ⟨[], [], [], false⟩) k) hG (calls := [(191, S191 k)]) ⟨ok191 hG k, trivial⟩ 5 rfl (S150 k) (congrFun e150 k)

/-- loop.example/g01402/spec.ShardOk -/
def F91 (k : Nat) (a0 : D4) : Option (Bool) :=
  ((F81 k a0.1 (1 : Int) (8 : Int)).bind fun r1 => (bif (!r1) then some false else ((F81 k a0.2.1 (0 : Int) (500 : Int)).bind fun r2 => (bif (!r2) then some false else (bif (decide (a0.1 < (a0.2.2.1.length : Int))) then some false else ((F148 k a0).bind fun r3 => (bif (decide (a0.2.1 < r3)) then some false else (bif (!decide (a0.2.2.2 = (0 : Int))) then ((F81 k a0.2.2.2 (0 : Int) (wrap64 ((a0.2.2.1.length : Int) - (1 : Int)))).bind fun r4 => (bif (!r4) then some false else (iter (σ := Int × Unit) (fun rec15 x14 => (bif (decide (x14.1 < (a0.2.2.1.length : Int))) then (bif (decide (0 ≤ x14.1 ∧ x14.1 < (a0.2.2.1.length : Int))) then ((F149 k (a0.2.2.1.getD x14.1.toNat Z3).1).bind fun r16 => (bif (!r16) then some false else (iter (σ := Int × Unit) (fun rec21 x20 => (bif (decide (x20.1 < x14.1)) then (bif (decide (0 ≤ x20.1 ∧ x20.1 < (a0.2.2.1.length : Int))) then (bif (decide (0 ≤ x14.1 ∧ x14.1 < (a0.2.2.1.length : Int))) then ((F150 k (a0.2.2.1.getD x20.1.toNat Z3).1 (a0.2.2.1.getD x14.1.toNat Z3).1).bind fun r22 => (bif r22 then some false else (rec21 ((wrap64 (x20.1 + (1 : Int))), ())))) else none) else none) else (rec15 ((wrap64 (x14.1 + (1 : Int))), ())))) k ((0 : Int), ())))) else none) else some true)) k ((0 : Int), ())))) else (iter (σ := Int × Unit) (fun rec33 x32 => (bif (decide (x32.1 < (a0.2.2.1.length : Int))) then (bif (decide (0 ≤ x32.1 ∧ x32.1 < (a0.2.2.1.length : Int))) then ((F149 k (a0.2.2.1.getD x32.1.toNat Z3).1).bind fun r34 => (bif (!r34) then some false else (iter (σ := Int × Unit) (fun rec39 x38 => (bif (decide (x38.1 < x32.1)) then (bif (decide (0 ≤ x38.1 ∧ x38.1 < (a0.2.2.1.length : Int))) then (bif (decide (0 ≤ x32.1 ∧ x32.1 < (a0.2.2.1.length : Int))) then ((F150 k (a0.2.2.1.getD x38.1.toNat Z3).1 (a0.2.2.1.getD x32.1.toNat Z3).1).bind fun r40 => (bif r40 then some false else (rec39 ((wrap64 (x38.1 + (1 : Int))), ())))) else none) else none) else (rec33 ((wrap64 (x32.1 + (1 : Int))), ())))) k ((0 : Int), ())))) else none) else some true)) k ((0 : Int), ()))))))))))
def S91 (k : Nat) : CSpec := { params := [U4], res := [(.bool, false)], fresh := true, sem := fun x => F91 k x.1 }
theorem e91 : (fun k => evFn ((T (kp [(([], 6), ⟨[3], [], [], false⟩), (([], 11), ⟨[4], [], [], false⟩)]) k).cx [(81, S81 k), (148, S148 k), (149, S149 k), (150, S150 k)]) 5 Tryz.f91 (S91 0).params (S91 0).res true) = fun k => (S91 k).sem := by kernel_rfl
theorem ok91 {G : World → Prop} (hG : Lasts G) (k : Nat) : (S91 k).ok Tryz.prog G 91 := fn_ok (T_ok (kp [(([], 6), ⟨[3], [], [], false⟩), (([], 11), ⟨[4], [], [], false⟩)]) k) hG (calls := [(81, S81 k), (148, S148 k), (149, S149 k), (150, S150 k)]) ⟨ok81 hG k, ok148 hG k, ok149 hG k, ok150 hG k, trivial⟩ 5 rfl (S91 k) (congrFun e91 k)

/-- loop.example/g01402/spec.Fnv -/
def F151 (k : Nat) (a0 : ByteArray) : Option (Int) :=
  (iter (σ := Int × Int × Unit) (fun rec4 x3 => (bif (decide (x3.2.1 < (a0.size : Int))) then (bif (decide (0 ≤ x3.2.1 ∧ x3.2.1 < (a0.size : Int))) then (bif (decide ((4294967296 : Int) = 0)) then none else (rec4 (((wrap64 ((bitsXor .i64 x3.1 (wrap64 ((bt a0 x3.2.1)))) * (16777619 : Int))).tmod (4294967296 : Int)), (wrap64 (x3.2.1 + (1 : Int))), ()))) else none) else some x3.1)) k ((2166136261 : Int), (0 : Int), ()))
def S151 (k : Nat) : CSpec := { params := [.str], res := [((.int .i64), false)], fresh := true, sem := fun x => F151 k x.1 }
theorem e151 : (fun k => evFn ((T (fun _ _ => ⟨[3, 4], [], [], false⟩) k).cx []) 5 Tryz.f151 (S151 0).params (S151 0).res true) = fun k => (S151 k).sem := by kernel_rfl
theorem ok151 {G : World → Prop} (hG : Lasts G) (k : Nat) : (S151 k).ok Tryz.prog G 151 := fn_ok (T_ok (fun _ _ => ⟨[3, 4], [], [], false⟩) k) hG (calls := []) trivial 5 rfl (S151 k) (congrFun e151 k)

/-- loop.example/g01402/spec.ShardOf -/
def F92 (k : Nat) (a0 : D6) (a1 : ByteArray) : Option (Int) :=
  (bif (decide ((a0.1.length : Int) = (0 : Int))) then some (-1 : Int) else ((F151 k a1).bind fun r1 => (bif (decide ((a0.1.length : Int) = 0)) then none else some (r1.tmod (a0.1.length : Int)))))
def S92 (k : Nat) : CSpec := { params := [U6, .str], res := [((.int .i64), false)], fresh := true, sem := fun x => F92 k x.1 x.2.1 }
theorem e92 : (fun k => evFn ((T (fun _ _ => ⟨[], [], [], false⟩) k).cx [(151, S151 k)]) 5 Tryz.f92 (S92 0).params (S92 0).res true) = fun k => (S92 k).sem := by kernel_rfl
theorem ok92 {G : World → Prop} (hG : Lasts G) (k : Nat) : (S92 k).ok Tryz.prog G 92 := fn_ok (T_ok (fun _ _ => ⟨[], [], [], false⟩) k) hG (calls := [(151, S151 k)]) ⟨ok151 hG k, trivial⟩ 5 rfl (S92 k) (congrFun e92 k)

/-- loop.example/g01402/spec.CacheOk -/
def F39 (k : Nat) (a0 : D6) : Option (Bool) :=
  ((F81 k (a0.1.length : Int) (1 : Int) (4 : Int)).bind fun r1 => (bif (!r1) then some false else (iter (σ := Int × Unit) (fun rec12 x11 => (bif (decide (x11.1 < (a0.1.length : Int))) then (bif (decide (0 ≤ x11.1 ∧ x11.1 < (a0.1.length : Int))) then ((F91 k (a0.1.getD x11.1.toNat Z4)).bind fun r13 => (bif (!r13) then some false else (iter (σ := Int × Unit) (fun rec18 x17 => (bif (decide (0 ≤ x11.1 ∧ x11.1 < (a0.1.length : Int))) then (bif (decide (x17.1 < ((a0.1.getD x11.1.toNat Z4).2.2.1.length : Int))) then (bif (decide (0 ≤ x11.1 ∧ x11.1 < (a0.1.length : Int))) then (bif (decide (0 ≤ x17.1 ∧ x17.1 < ((a0.1.getD x11.1.toNat Z4).2.2.1.length : Int))) then ((F92 k a0 ((a0.1.getD x11.1.toNat Z4).2.2.1.getD x17.1.toNat Z3).1.1).bind fun r19 => (bif (!decide (r19 = x11.1)) then some false else (rec18 ((wrap64 (x17.1 + (1 : Int))), ())))) else none) else none) else (rec12 ((wrap64 (x11.1 + (1 : Int))), ()))) else none)) k ((0 : Int), ())))) else none) else (iter (σ := Int × Unit) (fun rec25 x24 => (bif (decide (x24.1 < (a0.2.length : Int))) then (bif (decide (0 ≤ x24.1 ∧ x24.1 < (a0.2.length : Int))) then ((F93 k (a0.2.getD x24.1.toNat Z5).1).bind fun r26 => (bif (!r26) then some false else (bif (decide (0 ≤ x24.1 ∧ x24.1 < (a0.2.length : Int))) then ((F81 k (a0.2.getD x24.1.toNat Z5).2 (1 : Int) (1000000 : Int)).bind fun r27 => (bif (!r27) then some false else (bif (decide ((0 : Int) < x24.1)) then (bif (decide (0 ≤ x24.1 ∧ x24.1 < (a0.2.length : Int))) then (bif (decide (0 ≤ (wrap64 (x24.1 - (1 : Int))) ∧ (wrap64 (x24.1 - (1 : Int))) < (a0.2.length : Int))) then (bif (lessText (a0.2.getD x24.1.toNat Z5).1 (a0.2.getD (wrap64 (x24.1 - (1 : Int))).toNat Z5).1 || decide ((a0.2.getD x24.1.toNat Z5).1 = (a0.2.getD (wrap64 (x24.1 - (1 : Int))).toNat Z5).1)) then some false else (rec25 ((wrap64 (x24.1 + (1 : Int))), ()))) else none) else none) else (rec25 ((wrap64 (x24.1 + (1 : Int))), ()))))) else none))) else none) else some true)) k ((0 : Int), ())))) k ((0 : Int), ()))))
def S39 (k : Nat) : CSpec := { params := [U6], res := [(.bool, false)], fresh := true, sem := fun x => F39 k x.1 }
theorem e39 : (fun k => evFn ((T (kp [(([], 4), ⟨[3], [], [], false⟩), (([], 9), ⟨[4], [], [], false⟩), (([], 14), ⟨[5], [], [], false⟩)]) k).cx [(81, S81 k), (91, S91 k), (92, S92 k), (93, S93 k)]) 5 Tryz.f39 (S39 0).params (S39 0).res true) = fun k => (S39 k).sem := by kernel_rfl
theorem ok39 {G : World → Prop} (hG : Lasts G) (k : Nat) : (S39 k).ok Tryz.prog G 39 := fn_ok (T_ok (kp [(([], 4), ⟨[3], [], [], false⟩), (([], 9), ⟨[4], [], [], false⟩), (([], 14), ⟨[5], [], [], false⟩)]) k) hG (calls := [(81, S81 k), (91, S91 k), (92, S92 k), (93, S93 k)]) ⟨ok81 hG k, ok91 hG k, ok92 hG k, ok93 hG k, trivial⟩ 5 rfl (S39 k) (congrFun e39 k)

/-- loop.example/g01402/spec.OriginOk -/
def F40 (k : Nat) (a0 : D8) : Option (Bool) :=
  (iter (σ := Int × Unit) (fun rec8 x7 => (bif (decide (x7.1 < (a0.length : Int))) then (bif (decide (0 ≤ x7.1 ∧ x7.1 < (a0.length : Int))) then ((F93 k (a0.getD x7.1.toNat Z7).1).bind fun r9 => (bif (!r9) then some false else (bif (decide ((60 : Int) < ((a0.getD x7.1.toNat Z7).2.1.size : Int))) then some false else ((F81 k (a0.getD x7.1.toNat Z7).2.2.1 (1 : Int) (100000 : Int)).bind fun r10 => (bif (!r10) then some false else ((F81 k (a0.getD x7.1.toNat Z7).2.2.2.1 (0 : Int) (2000000000 : Int)).bind fun r11 => (bif (!r11) then some false else ((F94 k (a0.getD x7.1.toNat Z7).2.2.2.2.2.2).bind fun r12 => (bif (!r12) then some false else (bif (decide ((6 : Int) < ((a0.getD x7.1.toNat Z7).2.2.2.2.2.2.length : Int))) then some false else (bif (decide ((0 : Int) < x7.1)) then (bif (decide (0 ≤ (wrap64 (x7.1 - (1 : Int))) ∧ (wrap64 (x7.1 - (1 : Int))) < (a0.length : Int))) then (bif (lessText (a0.getD x7.1.toNat Z7).1 (a0.getD (wrap64 (x7.1 - (1 : Int))).toNat Z7).1 || decide ((a0.getD x7.1.toNat Z7).1 = (a0.getD (wrap64 (x7.1 - (1 : Int))).toNat Z7).1)) then some false else (rec8 ((wrap64 (x7.1 + (1 : Int))), ()))) else none) else (rec8 ((wrap64 (x7.1 + (1 : Int))), ()))))))))))))) else none) else some (decide ((a0.length : Int) ≤ (8 : Int))))) k ((0 : Int), ()))
def S40 (k : Nat) : CSpec := { params := [U8], res := [(.bool, false)], fresh := true, sem := fun x => F40 k x.1 }
theorem e40 : (fun k => evFn ((T (fun _ _ => ⟨[3], [], [], false⟩) k).cx [(81, S81 k), (93, S93 k), (94, S94 k)]) 5 Tryz.f40 (S40 0).params (S40 0).res true) = fun k => (S40 k).sem := by kernel_rfl
theorem ok40 {G : World → Prop} (hG : Lasts G) (k : Nat) : (S40 k).ok Tryz.prog G 40 := fn_ok (T_ok (fun _ _ => ⟨[3], [], [], false⟩) k) hG (calls := [(81, S81 k), (93, S93 k), (94, S94 k)]) ⟨ok81 hG k, ok93 hG k, ok94 hG k, trivial⟩ 5 rfl (S40 k) (congrFun e40 k)

/-- loop.example/g01402/spec.l12Resp -/
def F134 (k : Nat) (a0 : D1) : Option (D1) :=
  (bif (decide (([] : List D0).length + a0.2.1.length < most)) then some (a0.1, (([] : List D0) ++ a0.2.1), a0.2.2) else none)
def S134 (k : Nat) : CSpec := { params := [U1], res := [(U1, true)], fresh := true, sem := fun x => F134 k x.1 }
theorem e134 : (fun k => evFn ((T (fun _ _ => ⟨[], [], [], false⟩) k).cx []) 5 Tryz.f134 (S134 0).params (S134 0).res true) = fun k => (S134 k).sem := by kernel_rfl
theorem ok134 {G : World → Prop} (hG : Lasts G) (k : Nat) : (S134 k).ok Tryz.prog G 134 := fn_ok (T_ok (fun _ _ => ⟨[], [], [], false⟩) k) hG (calls := []) trivial 5 rfl (S134 k) (congrFun e134 k)

/-- loop.example/g01402/spec.l12One -/
def F154 (k : Nat) (a0 : D2) : Option (D2) :=
  (bif (decide (([] : List D0).length + a0.2.1.length < most)) then ((F134 k a0.2.2.1).bind fun r1 => some (a0.1, (([] : List D0) ++ a0.2.1), r1, a0.2.2.2.1, a0.2.2.2.2)) else none)
def S154 (k : Nat) : CSpec := { params := [U2], res := [(U2, true)], fresh := true, sem := fun x => F154 k x.1 }
theorem e154 : (fun k => evFn ((T (fun _ _ => ⟨[], [], [], false⟩) k).cx [(134, S134 k)]) 5 Tryz.f154 (S154 0).params (S154 0).res true) = fun k => (S154 k).sem := by kernel_rfl
theorem ok154 {G : World → Prop} (hG : Lasts G) (k : Nat) : (S154 k).ok Tryz.prog G 154 := fn_ok (T_ok (fun _ _ => ⟨[], [], [], false⟩) k) hG (calls := [(134, S134 k)]) ⟨ok134 hG k, trivial⟩ 5 rfl (S154 k) (congrFun e154 k)

/-- loop.example/g01402/spec.l12Copy -/
def F95 (k : Nat) (a0 : D4) : Option (D4) :=
  (iter (σ := Int × List D3 × Unit) (fun rec5 x4 => (bif (decide (x4.1 < (a0.2.2.1.length : Int))) then (bif (decide (0 ≤ x4.1 ∧ x4.1 < (a0.2.2.1.length : Int))) then (bif (decide (0 ≤ x4.1 ∧ x4.1 < (a0.2.2.1.length : Int))) then ((F154 k (a0.2.2.1.getD x4.1.toNat Z3).1).bind fun r6 => (bif (decide (x4.2.1.length + ([(r6, (a0.2.2.1.getD x4.1.toNat Z3).2)] : List D3).length < most)) then (rec5 ((wrap64 (x4.1 + (1 : Int))), (x4.2.1 ++ ([(r6, (a0.2.2.1.getD x4.1.toNat Z3).2)] : List D3)), ())) else none)) else none) else none) else some (a0.1, a0.2.1, x4.2.1, a0.2.2.2))) k ((0 : Int), ([] : List D3), ()))
def S95 (k : Nat) : CSpec := { params := [U4], res := [(U4, true)], fresh := true, sem := fun x => F95 k x.1 }
theorem e95 : (fun k => evFn ((T (fun _ _ => ⟨[3, 4], [], [3], false⟩) k).cx [(154, S154 k)]) 5 Tryz.f95 (S95 0).params (S95 0).res true) = fun k => (S95 k).sem := by kernel_rfl
theorem ok95 {G : World → Prop} (hG : Lasts G) (k : Nat) : (S95 k).ok Tryz.prog G 95 := fn_ok (T_ok (fun _ _ => ⟨[3, 4], [], [3], false⟩) k) hG (calls := [(154, S154 k)]) ⟨ok154 hG k, trivial⟩ 5 rfl (S95 k) (congrFun e95 k)

/-- loop.example/g01402/spec.l13Copy -/
def F41 (k : Nat) (a0 : D6) : Option (D6) :=
  (bif (decide (([] : List D5).length + a0.2.length < most)) then (iter (σ := Int × List D4 × Unit) (fun rec5 x4 => (bif (decide (x4.1 < (a0.1.length : Int))) then (bif (decide (0 ≤ x4.1 ∧ x4.1 < (a0.1.length : Int))) then ((F95 k (a0.1.getD x4.1.toNat Z4)).bind fun r6 => (bif (decide (x4.2.1.length + ([r6] : List D4).length < most)) then (rec5 ((wrap64 (x4.1 + (1 : Int))), (x4.2.1 ++ ([r6] : List D4)), ())) else none)) else none) else some (x4.2.1, (([] : List D5) ++ a0.2)))) k ((0 : Int), ([] : List D4), ())) else none)
def S41 (k : Nat) : CSpec := { params := [U6], res := [(U6, true)], fresh := true, sem := fun x => F41 k x.1 }
theorem e41 : (fun k => evFn ((T (fun _ _ => ⟨[4], [7], [8], false⟩) k).cx [(95, S95 k)]) 5 Tryz.f41 (S41 0).params (S41 0).res true) = fun k => (S41 k).sem := by kernel_rfl
theorem ok41 {G : World → Prop} (hG : Lasts G) (k : Nat) : (S41 k).ok Tryz.prog G 41 := fn_ok (T_ok (fun _ _ => ⟨[4], [7], [8], false⟩) k) hG (calls := [(95, S95 k)]) ⟨ok95 hG k, trivial⟩ 5 rfl (S41 k) (congrFun e41 k)

/-- loop.example/g01402/spec.l14Copy -/
def F42 (k : Nat) (a0 : D8) : Option (D8) :=
  (iter (σ := Int × List D7 × Unit) (fun rec4 x3 => (bif (decide (x3.1 < (a0.length : Int))) then (bif (decide (0 ≤ x3.1 ∧ x3.1 < (a0.length : Int))) then (bif (decide (([] : List D0).length + (a0.getD x3.1.toNat Z7).2.2.2.2.2.2.length < most)) then (bif (decide (x3.2.1.length + ([((a0.getD x3.1.toNat Z7).1, (a0.getD x3.1.toNat Z7).2.1, (a0.getD x3.1.toNat Z7).2.2.1, (a0.getD x3.1.toNat Z7).2.2.2.1, (a0.getD x3.1.toNat Z7).2.2.2.2.1, (a0.getD x3.1.toNat Z7).2.2.2.2.2.1, (([] : List D0) ++ (a0.getD x3.1.toNat Z7).2.2.2.2.2.2))] : List D7).length < most)) then (rec4 ((wrap64 (x3.1 + (1 : Int))), (x3.2.1 ++ ([((a0.getD x3.1.toNat Z7).1, (a0.getD x3.1.toNat Z7).2.1, (a0.getD x3.1.toNat Z7).2.2.1, (a0.getD x3.1.toNat Z7).2.2.2.1, (a0.getD x3.1.toNat Z7).2.2.2.2.1, (a0.getD x3.1.toNat Z7).2.2.2.2.2.1, (([] : List D0) ++ (a0.getD x3.1.toNat Z7).2.2.2.2.2.2))] : List D7)), ())) else none) else none) else none) else some x3.2.1)) k ((0 : Int), ([] : List D7), ()))
def S42 (k : Nat) : CSpec := { params := [U8], res := [(U8, true)], fresh := true, sem := fun x => F42 k x.1 }
theorem e42 : (fun k => evFn ((T (fun _ _ => ⟨[4], [4], [5], false⟩) k).cx []) 5 Tryz.f42 (S42 0).params (S42 0).res true) = fun k => (S42 k).sem := by kernel_rfl
theorem ok42 {G : World → Prop} (hG : Lasts G) (k : Nat) : (S42 k).ok Tryz.prog G 42 := fn_ok (T_ok (fun _ _ => ⟨[4], [4], [5], false⟩) k) hG (calls := []) trivial 5 rfl (S42 k) (congrFun e42 k)

/-- loop.example/g01402/spec.ConnNew -/
def F43 (k : Nat) (a0 : ByteArray) : Option (D11) :=
  (bif (decide ((1500 : Int) < (a0.size : Int))) then some (Z11.1, (ByteArray.mk #[]), Z11.2.2.1, (Z11.2.2.2.1.1, Z11.2.2.2.1.2.1, ([] : List D0), Z11.2.2.2.1.2.2.2), (Z11.2.2.2.2.1.1, Z11.2.2.2.2.1.2.1, ([] : List D0), Z11.2.2.2.2.1.2.2.2), (Z11.2.2.2.2.2.1.1, ([] : List D0), (Z11.2.2.2.2.2.1.2.2.1.1, ([] : List D0), Z11.2.2.2.2.2.1.2.2.1.2.2), Z11.2.2.2.2.2.1.2.2.2.1, Z11.2.2.2.2.2.1.2.2.2.2), Z11.2.2.2.2.2.2.1, (-1 : Int), Z11.2.2.2.2.2.2.2.2.1, Z11.2.2.2.2.2.2.2.2.2.1, Z11.2.2.2.2.2.2.2.2.2.2.1, Z11.2.2.2.2.2.2.2.2.2.2.2.1, (Z11.2.2.2.2.2.2.2.2.2.2.2.2.1.1, ([] : List D0), Z11.2.2.2.2.2.2.2.2.2.2.2.2.1.2.2), ([] : List D10)) else some (Z11.1, a0, Z11.2.2.1, (Z11.2.2.2.1.1, Z11.2.2.2.1.2.1, ([] : List D0), Z11.2.2.2.1.2.2.2), (Z11.2.2.2.2.1.1, Z11.2.2.2.2.1.2.1, ([] : List D0), Z11.2.2.2.2.1.2.2.2), (Z11.2.2.2.2.2.1.1, ([] : List D0), (Z11.2.2.2.2.2.1.2.2.1.1, ([] : List D0), Z11.2.2.2.2.2.1.2.2.1.2.2), Z11.2.2.2.2.2.1.2.2.2.1, Z11.2.2.2.2.2.1.2.2.2.2), Z11.2.2.2.2.2.2.1, (-1 : Int), Z11.2.2.2.2.2.2.2.2.1, Z11.2.2.2.2.2.2.2.2.2.1, Z11.2.2.2.2.2.2.2.2.2.2.1, Z11.2.2.2.2.2.2.2.2.2.2.2.1, (Z11.2.2.2.2.2.2.2.2.2.2.2.2.1.1, ([] : List D0), Z11.2.2.2.2.2.2.2.2.2.2.2.2.1.2.2), ([] : List D10)))
def S43 (k : Nat) : CSpec := { params := [.str], res := [(U11, true)], fresh := true, sem := fun x => F43 k x.1 }
theorem e43 : (fun k => evFn ((T (fun _ _ => ⟨[], [], [], false⟩) k).cx []) 5 Tryz.f43 (S43 0).params (S43 0).res true) = fun k => (S43 k).sem := by kernel_rfl
theorem ok43 {G : World → Prop} (hG : Lasts G) (k : Nat) : (S43 k).ok Tryz.prog G 43 := fn_ok (T_ok (fun _ _ => ⟨[], [], [], false⟩) k) hG (calls := []) trivial 5 rfl (S43 k) (congrFun e43 k)

/-- loop.example/g01402/spec.WorldNew -/
def F10 (k : Nat) (a0 : List ByteArray) (a1 : D6) (a2 : D8) : Option (D14) :=
  (bif (decide ((4 : Int) < (a0.length : Int))) then some (Z14.1, Z14.2.1, ([] : List D11), (([] : List D4), ([] : List D5)), ([] : List D12), ([] : List D7), ([] : List D13)) else ((F39 k a1).bind fun r1 => (bif (!r1) then some (Z14.1, Z14.2.1, ([] : List D11), (([] : List D4), ([] : List D5)), ([] : List D12), ([] : List D7), ([] : List D13)) else ((F40 k a2).bind fun r2 => (bif (!r2) then some (Z14.1, Z14.2.1, ([] : List D11), (([] : List D4), ([] : List D5)), ([] : List D12), ([] : List D7), ([] : List D13)) else ((F41 k a1).bind fun r3 => ((F42 k a2).bind fun r4 => (iter (σ := Int × Int × Int × List D11 × Unit) (fun rec9 x8 => (bif (decide (x8.1 < (a0.length : Int))) then (bif (decide (0 ≤ x8.1 ∧ x8.1 < (a0.length : Int))) then ((F43 k (a0.getD x8.1.toNat (ByteArray.mk #[]))).bind fun r10 => (bif (decide (x8.2.2.2.1.length + ([r10] : List D11).length < most)) then (rec9 ((wrap64 (x8.1 + (1 : Int))), x8.2.1, x8.2.2.1, (x8.2.2.2.1 ++ ([r10] : List D11)), ())) else none)) else none) else some (x8.2.1, x8.2.2.1, x8.2.2.2.1, r3, ([] : List D12), r4, ([] : List D13)))) k ((0 : Int), Z14.1, Z14.2.1, ([] : List D11), ())))))))))
def S10 (k : Nat) : CSpec := { params := [(.slice .str), U6, U8], res := [(U14, true)], fresh := true, sem := fun x => F10 k x.1 x.2.1 x.2.2.1 }
theorem e10 : (fun k => evFn ((T (fun _ _ => ⟨[8], [15], [16], false⟩) k).cx [(39, S39 k), (40, S40 k), (41, S41 k), (42, S42 k), (43, S43 k)]) 5 Tryz.f10 (S10 0).params (S10 0).res true) = fun k => (S10 k).sem := by kernel_rfl
theorem ok10 {G : World → Prop} (hG : Lasts G) (k : Nat) : (S10 k).ok Tryz.prog G 10 := fn_ok (T_ok (fun _ _ => ⟨[8], [15], [16], false⟩) k) hG (calls := [(39, S39 k), (40, S40 k), (41, S41 k), (42, S42 k), (43, S43 k)]) ⟨ok39 hG k, ok40 hG k, ok41 hG k, ok42 hG k, ok43 hG k, trivial⟩ 5 rfl (S10 k) (congrFun e10 k)

/-- loop.example/g01402/impl.in -/
def F87 (k : Nat) (a0 : Int) (a1 : Int) (a2 : Int) : Option (Bool) :=
  (bif (decide (a1 ≤ a0)) then some (decide (a0 ≤ a2)) else some false)
def S87 (k : Nat) : CSpec := { params := [(.int .i64), (.int .i64), (.int .i64)], res := [(.bool, false)], fresh := true, sem := fun x => F87 k x.1 x.2.1 x.2.2.1 }
theorem e87 : (fun k => evFn ((T (fun _ _ => ⟨[], [], [], false⟩) k).cx []) 5 Tryz.f87 (S87 0).params (S87 0).res true) = fun k => (S87 k).sem := by kernel_rfl
theorem ok87 {G : World → Prop} (hG : Lasts G) (k : Nat) : (S87 k).ok Tryz.prog G 87 := fn_ok (T_ok (fun _ _ => ⟨[], [], [], false⟩) k) hG (calls := []) trivial 5 rfl (S87 k) (congrFun e87 k)

/-- loop.example/g01402/impl.shardSizes -/
def F125 (k : Nat) (a0 : Int) (a1 : Int) : Option (Bool) :=
  ((F87 k a0 (1 : Int) (8 : Int)).bind fun r1 => (bif r1 then ((F87 k a1 (0 : Int) (500 : Int)).bind fun r2 => some r2) else some false))
def S125 (k : Nat) : CSpec := { params := [(.int .i64), (.int .i64)], res := [(.bool, false)], fresh := true, sem := fun x => F125 k x.1 x.2.1 }
theorem e125 : (fun k => evFn ((T (fun _ _ => ⟨[], [], [], false⟩) k).cx [(87, S87 k)]) 5 Tryz.f125 (S125 0).params (S125 0).res true) = fun k => (S125 k).sem := by kernel_rfl
theorem ok125 {G : World → Prop} (hG : Lasts G) (k : Nat) : (S125 k).ok Tryz.prog G 125 := fn_ok (T_ok (fun _ _ => ⟨[], [], [], false⟩) k) hG (calls := [(87, S87 k)]) ⟨ok87 hG k, trivial⟩ 5 rfl (S125 k) (congrFun e125 k)

/-- loop.example/g01402/impl.UriOk -/
def F103 (k : Nat) (a0 : ByteArray) : Option (Bool) :=
  (iter (σ := Int × Unit) (fun rec4 x3 => (bif (decide (x3.1 < (a0.size : Int))) then (bif (decide (0 ≤ x3.1 ∧ x3.1 < (a0.size : Int))) then (bif (decide ((bt a0 x3.1) < (33 : Int))) then some false else (bif (decide (0 ≤ x3.1 ∧ x3.1 < (a0.size : Int))) then (bif (decide ((126 : Int) < (bt a0 x3.1))) then some false else (rec4 ((wrap64 (x3.1 + (1 : Int))), ()))) else none)) else none) else ((F87 k (a0.size : Int) (1 : Int) (20 : Int)).bind fun r5 => (bif r5 then (bif (decide (0 ≤ (0 : Int) ∧ (0 : Int) < (a0.size : Int))) then some (decide ((bt a0 (0 : Int)) = (47 : Int))) else none) else some false)))) k ((0 : Int), ()))
def S103 (k : Nat) : CSpec := { params := [.str], res := [(.bool, false)], fresh := true, sem := fun x => F103 k x.1 }
theorem e103 : (fun k => evFn ((T (fun _ _ => ⟨[6], [], [], false⟩) k).cx [(87, S87 k)]) 5 Tryz.f103 (S103 0).params (S103 0).res true) = fun k => (S103 k).sem := by kernel_rfl
theorem ok103 {G : World → Prop} (hG : Lasts G) (k : Nat) : (S103 k).ok Tryz.prog G 103 := fn_ok (T_ok (fun _ _ => ⟨[6], [], [], false⟩) k) hG (calls := [(87, S87 k)]) ⟨ok87 hG k, trivial⟩ 5 rfl (S103 k) (congrFun e103 k)

/-- loop.example/g01402/impl.isLetterOrDigit -/
def F219 (k : Nat) (a0 : Int) : Option (Bool) :=
  (bif (decide ((97 : Int) ≤ a0)) then (bif (decide (a0 ≤ (122 : Int))) then some true else (bif (decide ((65 : Int) ≤ a0)) then (bif (decide (a0 ≤ (90 : Int))) then some true else (bif (decide ((48 : Int) ≤ a0)) then some (decide (a0 ≤ (57 : Int))) else some false)) else (bif (decide ((48 : Int) ≤ a0)) then some (decide (a0 ≤ (57 : Int))) else some false))) else (bif (decide ((65 : Int) ≤ a0)) then (bif (decide (a0 ≤ (90 : Int))) then some true else (bif (decide ((48 : Int) ≤ a0)) then some (decide (a0 ≤ (57 : Int))) else some false)) else (bif (decide ((48 : Int) ≤ a0)) then some (decide (a0 ≤ (57 : Int))) else some false)))
def S219 (k : Nat) : CSpec := { params := [(.int .u8)], res := [(.bool, false)], fresh := true, sem := fun x => F219 k x.1 }
theorem e219 : (fun k => evFn ((T (fun _ _ => ⟨[], [], [], false⟩) k).cx []) 5 Tryz.f219 (S219 0).params (S219 0).res true) = fun k => (S219 k).sem := by kernel_rfl
theorem ok219 {G : World → Prop} (hG : Lasts G) (k : Nat) : (S219 k).ok Tryz.prog G 219 := fn_ok (T_ok (fun _ _ => ⟨[], [], [], false⟩) k) hG (calls := []) trivial 5 rfl (S219 k) (congrFun e219 k)

/-- strings.IndexByte -/
def S220 (k : Nat) : CSpec := { params := [.str, (.int .u8)], res := [((.int .i64), false)], fresh := true, sem := fun x => semIndexByte x.1 x.2.1 }
theorem ok220 {G : World → Prop} (hG : Lasts G) (k : Nat) : (S220 k).ok Tryz.prog G 220 := ok_IndexByte Tryz.func220 (by kernel_rfl) (by kernel_rfl) Tryz.strings_IndexByte

/-- loop.example/g01402/impl.IsTokenText -/
def F210 (k : Nat) (a0 : ByteArray) : Option (Bool) :=
  (iter (σ := Int × Unit) (fun rec6 x5 => (bif (decide (x5.1 < (a0.size : Int))) then (bif (decide (0 ≤ x5.1 ∧ x5.1 < (a0.size : Int))) then ((F219 k (bt a0 x5.1)).bind fun r7 => (bif (!r7) then (bif (decide (0 ≤ x5.1 ∧ x5.1 < (a0.size : Int))) then ((semIndexByte (ByteArray.mk #[33, 35, 36, 37, 38, 39, 42, 43, 45, 46, 94, 95, 124, 126, 96]) (bt a0 x5.1)).bind fun r8 => (bif (decide (r8 < (0 : Int))) then some false else (rec6 ((wrap64 (x5.1 + (1 : Int))), ())))) else none) else (rec6 ((wrap64 (x5.1 + (1 : Int))), ())))) else none) else some (!decide (a0 = (ByteArray.mk #[]))))) k ((0 : Int), ()))
def S210 (k : Nat) : CSpec := { params := [.str], res := [(.bool, false)], fresh := true, sem := fun x => F210 k x.1 }
theorem e210 : (fun k => evFn ((T (fun _ _ => ⟨[6], [], [], false⟩) k).cx [(219, S219 k), (220, S220 k)]) 5 Tryz.f210 (S210 0).params (S210 0).res true) = fun k => (S210 k).sem := by kernel_rfl
theorem ok210 {G : World → Prop} (hG : Lasts G) (k : Nat) : (S210 k).ok Tryz.prog G 210 := fn_ok (T_ok (fun _ _ => ⟨[6], [], [], false⟩) k) hG (calls := [(219, S219 k), (220, S220 k)]) ⟨ok219 hG k, ok220 hG k, trivial⟩ 5 rfl (S210 k) (congrFun e210 k)

/-- loop.example/g01402/impl.Lower -/
def F216 (k : Nat) (a0 : ByteArray) : Option (ByteArray) :=
  (iter (σ := Int × List Int × Unit) (fun rec4 x3 => (bif (decide (x3.1 < ((bytesOf a0).length : Int))) then (bif (decide (0 ≤ x3.1 ∧ x3.1 < (x3.2.1.length : Int))) then (bif (decide ((65 : Int) ≤ (x3.2.1.getD x3.1.toNat (0 : Int)))) then (bif (decide ((x3.2.1.getD x3.1.toNat (0 : Int)) ≤ (90 : Int))) then (bif (decide (0 ≤ x3.1 ∧ x3.1 < (x3.2.1.length : Int))) then (rec4 ((wrap64 (x3.1 + (1 : Int))), (x3.2.1.set x3.1.toNat (wr .u8 ((wr .u8 ((x3.2.1.getD x3.1.toNat (0 : Int)) + (97 : Int))) - (65 : Int)))), ())) else none) else (rec4 ((wrap64 (x3.1 + (1 : Int))), x3.2.1, ()))) else (rec4 ((wrap64 (x3.1 + (1 : Int))), x3.2.1, ()))) else none) else some (strOf x3.2.1))) k ((0 : Int), (bytesOf a0), ()))
def S216 (k : Nat) : CSpec := { params := [.str], res := [(.str, false)], fresh := true, sem := fun x => F216 k x.1 }
theorem e216 : (fun k => evFn ((T (fun _ _ => ⟨[10], [0], [], false⟩) k).cx []) 5 Tryz.f216 (S216 0).params (S216 0).res true) = fun k => (S216 k).sem := by kernel_rfl
theorem ok216 {G : World → Prop} (hG : Lasts G) (k : Nat) : (S216 k).ok Tryz.prog G 216 := fn_ok (T_ok (fun _ _ => ⟨[10], [0], [], false⟩) k) hG (calls := []) trivial 5 rfl (S216 k) (congrFun e216 k)

/-- strings.Trim -/
def S226 (k : Nat) : CSpec := { params := [.str, .str], res := [(.str, false)], fresh := true, sem := fun x => semTrim x.1 x.2.1 }
theorem ok226 {G : World → Prop} (hG : Lasts G) (k : Nat) : (S226 k).ok Tryz.prog G 226 := ok_Trim Tryz.func226 (by kernel_rfl) (by kernel_rfl) (fun s cs w h1 h2 h3 => Any.strings_Trim_laid Tryz.laysT160 (by kernel_rfl) s cs w h1 h2 h3)

/-- loop.example/g01402/impl.Trim -/
def F222 (k : Nat) (a0 : ByteArray) : Option (ByteArray) :=
  ((semTrim a0 (ByteArray.mk #[32, 9])).bind fun r1 => some r1)
def S222 (k : Nat) : CSpec := { params := [.str], res := [(.str, false)], fresh := true, sem := fun x => F222 k x.1 }
theorem e222 : (fun k => evFn ((T (fun _ _ => ⟨[], [], [], false⟩) k).cx [(226, S226 k)]) 5 Tryz.f222 (S222 0).params (S222 0).res true) = fun k => (S222 k).sem := by kernel_rfl
theorem ok222 {G : World → Prop} (hG : Lasts G) (k : Nat) : (S222 k).ok Tryz.prog G 222 := fn_ok (T_ok (fun _ _ => ⟨[], [], [], false⟩) k) hG (calls := [(226, S226 k)]) ⟨ok226 hG k, trivial⟩ 5 rfl (S222 k) (congrFun e222 k)

/-- loop.example/g01402/impl.IsValueText -/
def F217 (k : Nat) (a0 : ByteArray) : Option (Bool) :=
  (iter (σ := Int × Unit) (fun rec4 x3 => (bif (decide (x3.1 < (a0.size : Int))) then (bif (decide (0 ≤ x3.1 ∧ x3.1 < (a0.size : Int))) then (bif (decide ((bt a0 x3.1) < (32 : Int))) then (bif (decide (0 ≤ x3.1 ∧ x3.1 < (a0.size : Int))) then (bif (!decide ((bt a0 x3.1) = (9 : Int))) then some false else (bif (decide (0 ≤ x3.1 ∧ x3.1 < (a0.size : Int))) then (bif (decide ((bt a0 x3.1) = (127 : Int))) then some false else (rec4 ((wrap64 (x3.1 + (1 : Int))), ()))) else none)) else none) else (bif (decide (0 ≤ x3.1 ∧ x3.1 < (a0.size : Int))) then (bif (decide ((bt a0 x3.1) = (127 : Int))) then some false else (rec4 ((wrap64 (x3.1 + (1 : Int))), ()))) else none)) else none) else ((F222 k a0).bind fun r5 => some (decide (r5 = a0))))) k ((0 : Int), ()))
def S217 (k : Nat) : CSpec := { params := [.str], res := [(.bool, false)], fresh := true, sem := fun x => F217 k x.1 }
theorem e217 : (fun k => evFn ((T (fun _ _ => ⟨[6], [], [], false⟩) k).cx [(222, S222 k)]) 5 Tryz.f217 (S217 0).params (S217 0).res true) = fun k => (S217 k).sem := by kernel_rfl
theorem ok217 {G : World → Prop} (hG : Lasts G) (k : Nat) : (S217 k).ok Tryz.prog G 217 := fn_ok (T_ok (fun _ _ => ⟨[6], [], [], false⟩) k) hG (calls := [(222, S222 k)]) ⟨ok222 hG k, trivial⟩ 5 rfl (S217 k) (congrFun e217 k)

/-- loop.example/g01402/impl.fieldOk -/
def F199 (k : Nat) (a0 : D0) : Option (Bool) :=
  ((F210 k a0.1).bind fun r1 => (bif r1 then (bif (decide ((a0.1.size : Int) ≤ (24 : Int))) then ((F216 k a0.1).bind fun r2 => (bif (decide (r2 = a0.1)) then ((F217 k a0.2).bind fun r3 => (bif r3 then some (decide ((a0.2.size : Int) ≤ (60 : Int))) else some false)) else some false)) else some false) else some false))
def S199 (k : Nat) : CSpec := { params := [U0], res := [(.bool, false)], fresh := true, sem := fun x => F199 k x.1 }
theorem e199 : (fun k => evFn ((T (fun _ _ => ⟨[], [], [], false⟩) k).cx [(210, S210 k), (216, S216 k), (217, S217 k)]) 5 Tryz.f199 (S199 0).params (S199 0).res true) = fun k => (S199 k).sem := by kernel_rfl
theorem ok199 {G : World → Prop} (hG : Lasts G) (k : Nat) : (S199 k).ok Tryz.prog G 199 := fn_ok (T_ok (fun _ _ => ⟨[], [], [], false⟩) k) hG (calls := [(210, S210 k), (216, S216 k), (217, S217 k)]) ⟨ok210 hG k, ok216 hG k, ok217 hG k, trivial⟩ 5 rfl (S199 k) (congrFun e199 k)

/-- loop.example/g01402/impl.FieldsOk$1 -/
def F198 (k : Nat) (a0 : D0) : Option (Bool) :=
  ((F199 k a0).bind fun r1 => some (!r1))
def S198 (k : Nat) : CSpec := { params := [U0], res := [(.bool, false)], fresh := true, sem := fun x => F198 k x.1 }
theorem e198 : (fun k => evFn ((T (fun _ _ => ⟨[], [], [], false⟩) k).cx [(199, S199 k)]) 5 Tryz.f198 (S198 0).params (S198 0).res true) = fun k => (S198 k).sem := by kernel_rfl
theorem ok198 {G : World → Prop} (hG : Lasts G) (k : Nat) : (S198 k).ok Tryz.prog G 198 := fn_ok (T_ok (fun _ _ => ⟨[], [], [], false⟩) k) hG (calls := [(199, S199 k)]) ⟨ok199 hG k, trivial⟩ 5 rfl (S198 k) (congrFun e198 k)

/-- loop.example/g01402/impl.FieldsOk -/
def F163 (k : Nat) (a0 : List D0) : Option (Bool) :=
  (bif (decide ((a0.length : Int) ≤ (12 : Int))) then (iter (σ := Int × Unit) (fun rec5 x4 => (bif (decide (x4.1 < (a0.length : Int))) then (bif (decide (0 ≤ x4.1 ∧ x4.1 < (a0.length : Int))) then ((F198 k (a0.getD x4.1.toNat Z0)).bind fun r6 => (bif r6 then some (!(decide ((0 : Int) ≤ x4.1))) else (rec5 ((wrap64 (x4.1 + (1 : Int))), ())))) else none) else some (!(decide ((0 : Int) ≤ (-1 : Int)))))) k ((0 : Int), ())) else some false)
def S163 (k : Nat) : CSpec := { params := [(.slice U0)], res := [(.bool, false)], fresh := true, sem := fun x => F163 k x.1 }
theorem e163 : (fun k => evFn ((T (fun _ _ => ⟨[8], [], [], false⟩) k).cx [(198, S198 k)]) 5 Tryz.f163 (S163 0).params (S163 0).res true) = fun k => (S163 k).sem := by kernel_rfl
theorem ok163 {G : World → Prop} (hG : Lasts G) (k : Nat) : (S163 k).ok Tryz.prog G 163 := fn_ok (T_ok (fun _ _ => ⟨[8], [], [], false⟩) k) hG (calls := [(198, S198 k)]) ⟨ok198 hG k, trivial⟩ 5 rfl (S163 k) (congrFun e163 k)

/-- strings.Join -/
def S223 (k : Nat) : CSpec := { params := [(.slice .str), .str], res := [(.str, false)], fresh := true, sem := fun x => semJoin x.1 x.2.1 }
theorem ok223 {G : World → Prop} (hG : Lasts G) (k : Nat) : (S223 k).ok Tryz.prog G 223 := ok_Join Tryz.func223 (by kernel_rfl) (by kernel_rfl) Tryz.strings_Join_none Tryz.strings_Join

/-- loop.example/g01402/impl.FieldGet -/
def F218 (k : Nat) (a0 : List D0) (a1 : ByteArray) : Option (ByteArray × Bool) :=
  (iter (σ := Int × List ByteArray × Unit) (fun rec4 x3 => (bif (decide (x3.1 < (a0.length : Int))) then (bif (decide (0 ≤ x3.1 ∧ x3.1 < (a0.length : Int))) then (bif (decide ((a0.getD x3.1.toNat Z0).1 = a1)) then (bif (decide (x3.2.1.length + ([(a0.getD x3.1.toNat Z0).2] : List ByteArray).length < most)) then (rec4 ((wrap64 (x3.1 + (1 : Int))), (x3.2.1 ++ ([(a0.getD x3.1.toNat Z0).2] : List ByteArray)), ())) else none) else (rec4 ((wrap64 (x3.1 + (1 : Int))), x3.2.1, ()))) else none) else ((semJoin x3.2.1 (ByteArray.mk #[44, 32])).bind fun r5 => some (r5, (decide ((0 : Int) < (x3.2.1.length : Int))))))) k ((0 : Int), ([] : List ByteArray), ()))
def S218 (k : Nat) : CSpec := { params := [(.slice U0), .str], res := [(.str, false), (.bool, false)], fresh := true, sem := fun x => F218 k x.1 x.2.1 }
theorem e218 : (fun k => evFn ((T (fun _ _ => ⟨[6, 12], [], [0], false⟩) k).cx [(223, S223 k)]) 5 Tryz.f218 (S218 0).params (S218 0).res true) = fun k => (S218 k).sem := by kernel_rfl
theorem ok218 {G : World → Prop} (hG : Lasts G) (k : Nat) : (S218 k).ok Tryz.prog G 218 := fn_ok (T_ok (fun _ _ => ⟨[6, 12], [], [0], false⟩) k) hG (calls := [(223, S223 k)]) ⟨ok223 hG k, trivial⟩ 5 rfl (S218 k) (congrFun e218 k)

/-- loop.example/g01402/impl.hasField -/
def F200 (k : Nat) (a0 : List D0) (a1 : ByteArray) : Option (Bool) :=
  ((F218 k a0 a1).bind fun r1 => some r1.2)
def S200 (k : Nat) : CSpec := { params := [(.slice U0), .str], res := [(.bool, false)], fresh := true, sem := fun x => F200 k x.1 x.2.1 }
theorem e200 : (fun k => evFn ((T (fun _ _ => ⟨[], [], [], false⟩) k).cx [(218, S218 k)]) 5 Tryz.f200 (S200 0).params (S200 0).res true) = fun k => (S200 k).sem := by kernel_rfl
theorem ok200 {G : World → Prop} (hG : Lasts G) (k : Nat) : (S200 k).ok Tryz.prog G 200 := fn_ok (T_ok (fun _ _ => ⟨[], [], [], false⟩) k) hG (calls := [(218, S218 k)]) ⟨ok218 hG k, trivial⟩ 5 rfl (S200 k) (congrFun e200 k)

/-- loop.example/g01402/impl.bodyFields -/
def F164 (k : Nat) (a0 : List D0) : Option (Bool) :=
  ((F200 k a0 (ByteArray.mk #[99, 111, 110, 116, 101, 110, 116, 45, 108, 101, 110, 103, 116, 104])).bind fun r1 => (bif r1 then some true else ((F200 k a0 (ByteArray.mk #[116, 114, 97, 110, 115, 102, 101, 114, 45, 101, 110, 99, 111, 100, 105, 110, 103])).bind fun r2 => some r2)))
def S164 (k : Nat) : CSpec := { params := [(.slice U0)], res := [(.bool, false)], fresh := true, sem := fun x => F164 k x.1 }
theorem e164 : (fun k => evFn ((T (fun _ _ => ⟨[], [], [], false⟩) k).cx [(200, S200 k)]) 5 Tryz.f164 (S164 0).params (S164 0).res true) = fun k => (S164 k).sem := by kernel_rfl
theorem ok164 {G : World → Prop} (hG : Lasts G) (k : Nat) : (S164 k).ok Tryz.prog G 164 := fn_ok (T_ok (fun _ _ => ⟨[], [], [], false⟩) k) hG (calls := [(200, S200 k)]) ⟨ok200 hG k, trivial⟩ 5 rfl (S164 k) (congrFun e164 k)

/-- loop.example/g01402/impl.ownFields -/
def F104 (k : Nat) (a0 : List D0) : Option (Bool) :=
  ((F163 k a0).bind fun r1 => (bif r1 then (bif (decide ((a0.length : Int) < (12 : Int))) then ((F164 k a0).bind fun r2 => some (!r2)) else some false) else some false))
def S104 (k : Nat) : CSpec := { params := [(.slice U0)], res := [(.bool, false)], fresh := true, sem := fun x => F104 k x.1 }
theorem e104 : (fun k => evFn ((T (fun _ _ => ⟨[], [], [], false⟩) k).cx [(163, S163 k), (164, S164 k)]) 5 Tryz.f104 (S104 0).params (S104 0).res true) = fun k => (S104 k).sem := by kernel_rfl
theorem ok104 {G : World → Prop} (hG : Lasts G) (k : Nat) : (S104 k).ok Tryz.prog G 104 := fn_ok (T_ok (fun _ _ => ⟨[], [], [], false⟩) k) hG (calls := [(163, S163 k), (164, S164 k)]) ⟨ok163 hG k, ok164 hG k, trivial⟩ 5 rfl (S104 k) (congrFun e104 k)

/-- loop.example/g01402/impl.bodiless -/
def F213 (k : Nat) (a0 : Int) : Option (Bool) :=
  (bif (decide (a0 = (204 : Int))) then some true else some (decide (a0 = (304 : Int))))
def S213 (k : Nat) : CSpec := { params := [(.int .i64)], res := [(.bool, false)], fresh := true, sem := fun x => F213 k x.1 }
theorem e213 : (fun k => evFn ((T (fun _ _ => ⟨[], [], [], false⟩) k).cx []) 5 Tryz.f213 (S213 0).params (S213 0).res true) = fun k => (S213 k).sem := by kernel_rfl
theorem ok213 {G : World → Prop} (hG : Lasts G) (k : Nat) : (S213 k).ok Tryz.prog G 213 := fn_ok (T_ok (fun _ _ => ⟨[], [], [], false⟩) k) hG (calls := []) trivial 5 rfl (S213 k) (congrFun e213 k)

/-- loop.example/g01402/impl.ResponseOk -/
def F195 (k : Nat) (a0 : D1) : Option (Bool) :=
  ((F87 k a0.1 (200 : Int) (599 : Int)).bind fun r1 => (bif r1 then ((F104 k a0.2.1).bind fun r2 => (bif r2 then (bif (decide ((a0.2.2.size : Int) ≤ (60 : Int))) then (bif (decide (a0.2.2 = (ByteArray.mk #[]))) then some true else ((F213 k a0.1).bind fun r3 => some (!r3))) else some false) else some false)) else some false))
def S195 (k : Nat) : CSpec := { params := [U1], res := [(.bool, false)], fresh := true, sem := fun x => F195 k x.1 }
theorem e195 : (fun k => evFn ((T (fun _ _ => ⟨[], [], [], false⟩) k).cx [(87, S87 k), (104, S104 k), (213, S213 k)]) 5 Tryz.f195 (S195 0).params (S195 0).res true) = fun k => (S195 k).sem := by kernel_rfl
theorem ok195 {G : World → Prop} (hG : Lasts G) (k : Nat) : (S195 k).ok Tryz.prog G 195 := fn_ok (T_ok (fun _ _ => ⟨[], [], [], false⟩) k) hG (calls := [(87, S87 k), (104, S104 k), (213, S213 k)]) ⟨ok87 hG k, ok104 hG k, ok213 hG k, trivial⟩ 5 rfl (S195 k) (congrFun e195 k)

/-- loop.example/g01402/impl.StoredOk -/
def F157 (k : Nat) (a0 : D2) : Option (Bool) :=
  ((F103 k a0.1).bind fun r1 => (bif r1 then ((F195 k a0.2.2.1).bind fun r2 => (bif r2 then ((F87 k a0.2.2.2.1 (0 : Int) (2000000000 : Int)).bind fun r3 => (bif r3 then ((F87 k a0.2.2.2.2 a0.2.2.2.1 (2000000000 : Int)).bind fun r4 => (bif r4 then some (decide ((a0.2.1.length : Int) ≤ (12 : Int))) else some false)) else some false)) else some false)) else some false))
def S157 (k : Nat) : CSpec := { params := [U2], res := [(.bool, false)], fresh := true, sem := fun x => F157 k x.1 }
theorem e157 : (fun k => evFn ((T (fun _ _ => ⟨[], [], [], false⟩) k).cx [(87, S87 k), (103, S103 k), (195, S195 k)]) 5 Tryz.f157 (S157 0).params (S157 0).res true) = fun k => (S157 k).sem := by kernel_rfl
theorem ok157 {G : World → Prop} (hG : Lasts G) (k : Nat) : (S157 k).ok Tryz.prog G 157 := fn_ok (T_ok (fun _ _ => ⟨[], [], [], false⟩) k) hG (calls := [(87, S87 k), (103, S103 k), (195, S195 k)]) ⟨ok87 hG k, ok103 hG k, ok195 hG k, trivial⟩ 5 rfl (S157 k) (congrFun e157 k)

/-- slices.Equal[[]loop.example/g01402/impl.Field,loop.example/g01402/impl.Field] -/
def F214 (k : Nat) (a0 : List D0) (a1 : List D0) : Option (Bool) :=
  (bif (!decide ((a0.length : Int) = (a1.length : Int))) then some false else (iter (σ := Int × Unit) (fun rec4 x3 => (bif (decide (x3.1 < (a0.length : Int))) then (bif (decide (0 ≤ x3.1 ∧ x3.1 < (a0.length : Int))) then (bif (decide (0 ≤ x3.1 ∧ x3.1 < (a1.length : Int))) then (bif (!((decide ((a0.getD x3.1.toNat Z0).1 = (a1.getD x3.1.toNat Z0).1)) && (decide ((a0.getD x3.1.toNat Z0).2 = (a1.getD x3.1.toNat Z0).2)))) then some false else (rec4 ((wrap64 (x3.1 + (1 : Int))), ()))) else none) else none) else some true)) k ((0 : Int), ())))
def S214 (k : Nat) : CSpec := { params := [(.slice U0), (.slice U0)], res := [(.bool, false)], fresh := true, sem := fun x => F214 k x.1 x.2.1 }
theorem e214 : (fun k => evFn ((T (fun _ _ => ⟨[13], [], [], false⟩) k).cx []) 5 Tryz.f214 (S214 0).params (S214 0).res true) = fun k => (S214 k).sem := by kernel_rfl
theorem ok214 {G : World → Prop} (hG : Lasts G) (k : Nat) : (S214 k).ok Tryz.prog G 214 := fn_ok (T_ok (fun _ _ => ⟨[13], [], [], false⟩) k) hG (calls := []) trivial 5 rfl (S214 k) (congrFun e214 k)

/-- loop.example/g01402/impl.SameFields -/
def F196 (k : Nat) (a0 : List D0) (a1 : List D0) : Option (Bool) :=
  ((F214 k a0 a1).bind fun r1 => some r1)
def S196 (k : Nat) : CSpec := { params := [(.slice U0), (.slice U0)], res := [(.bool, false)], fresh := true, sem := fun x => F196 k x.1 x.2.1 }
theorem e196 : (fun k => evFn ((T (fun _ _ => ⟨[], [], [], false⟩) k).cx [(214, S214 k)]) 5 Tryz.f196 (S196 0).params (S196 0).res true) = fun k => (S196 k).sem := by kernel_rfl
theorem ok196 {G : World → Prop} (hG : Lasts G) (k : Nat) : (S196 k).ok Tryz.prog G 196 := fn_ok (T_ok (fun _ _ => ⟨[], [], [], false⟩) k) hG (calls := [(214, S214 k)]) ⟨ok214 hG k, trivial⟩ 5 rfl (S196 k) (congrFun e196 k)

/-- loop.example/g01402/impl.standAlike -/
def F159 (k : Nat) (a0 : D2) (a1 : D2) : Option (Bool) :=
  (bif (decide (a0.1 = a1.1)) then ((F196 k a0.2.1 a1.2.1).bind fun r1 => some r1) else some false)
def S159 (k : Nat) : CSpec := { params := [U2, U2], res := [(.bool, false)], fresh := true, sem := fun x => F159 k x.1 x.2.1 }
theorem e159 : (fun k => evFn ((T (fun _ _ => ⟨[], [], [], false⟩) k).cx [(196, S196 k)]) 5 Tryz.f159 (S159 0).params (S159 0).res true) = fun k => (S159 k).sem := by kernel_rfl
theorem ok159 {G : World → Prop} (hG : Lasts G) (k : Nat) : (S159 k).ok Tryz.prog G 159 := fn_ok (T_ok (fun _ _ => ⟨[], [], [], false⟩) k) hG (calls := [(196, S196 k)]) ⟨ok196 hG k, trivial⟩ 5 rfl (S159 k) (congrFun e159 k)

/-- loop.example/g01402/impl.bodies -/
def F160 (k : Nat) (a0 : List D3) : Option (Int) :=
  (iter (σ := Int × Int × Unit) (fun rec4 x3 => (bif (decide (x3.2.1 < (a0.length : Int))) then (bif (decide (0 ≤ x3.2.1 ∧ x3.2.1 < (a0.length : Int))) then (rec4 ((wrap64 (x3.1 + ((a0.getD x3.2.1.toNat Z3).1.2.2.1.2.2.size : Int))), (wrap64 (x3.2.1 + (1 : Int))), ())) else none) else some x3.1)) k ((0 : Int), (0 : Int), ()))
def S160 (k : Nat) : CSpec := { params := [(.slice U3)], res := [((.int .i64), false)], fresh := true, sem := fun x => F160 k x.1 }
theorem e160 : (fun k => evFn ((T (fun _ _ => ⟨[3, 8], [], [], false⟩) k).cx []) 5 Tryz.f160 (S160 0).params (S160 0).res true) = fun k => (S160 k).sem := by kernel_rfl
theorem ok160 {G : World → Prop} (hG : Lasts G) (k : Nat) : (S160 k).ok Tryz.prog G 160 := fn_ok (T_ok (fun _ _ => ⟨[3, 8], [], [], false⟩) k) hG (calls := []) trivial 5 rfl (S160 k) (congrFun e160 k)

/-- loop.example/g01402/impl.ShardOk -/
def F99 (k : Nat) (a0 : D4) : Option (Bool) :=
  ((F125 k a0.1 a0.2.1).bind fun r1 => (bif (!r1) then some false else (bif (decide (a0.1 < (a0.2.2.1.length : Int))) then some false else (bif (!decide (a0.2.2.2 = (0 : Int))) then ((F87 k a0.2.2.2 (0 : Int) (wrap64 ((a0.2.2.1.length : Int) - (1 : Int)))).bind fun r2 => (bif (!r2) then some false else (iter (σ := Int × Unit) (fun rec13 x12 => (bif (decide (x12.1 < (a0.2.2.1.length : Int))) then (bif (decide (0 ≤ x12.1 ∧ x12.1 < (a0.2.2.1.length : Int))) then ((F157 k (a0.2.2.1.getD x12.1.toNat Z3).1).bind fun r14 => (bif (!r14) then some false else (bif (decide (0 ≤ (0 : Int) ∧ (0 : Int) ≤ x12.1 ∧ x12.1 ≤ (a0.2.2.1.length : Int))) then (iter (σ := Int × Unit) (fun rec19 x18 => (bif (decide (x18.1 < (((a0.2.2.1.drop (0 : Int).toNat).take (x12.1 - (0 : Int)).toNat).length : Int))) then (bif (decide (0 ≤ x18.1 ∧ x18.1 < (((a0.2.2.1.drop (0 : Int).toNat).take (x12.1 - (0 : Int)).toNat).length : Int))) then ((F159 k (a0.2.2.1.getD x12.1.toNat Z3).1 (((a0.2.2.1.drop (0 : Int).toNat).take (x12.1 - (0 : Int)).toNat).getD x18.1.toNat Z3).1).bind fun r20 => (bif r20 then (bif (decide ((0 : Int) ≤ x18.1)) then some false else (rec13 ((wrap64 (x12.1 + (1 : Int))), ()))) else (rec19 ((wrap64 (x18.1 + (1 : Int))), ())))) else none) else (bif (decide ((0 : Int) ≤ (-1 : Int))) then some false else (rec13 ((wrap64 (x12.1 + (1 : Int))), ()))))) k ((0 : Int), ())) else none))) else none) else ((F160 k a0.2.2.1).bind fun r21 => some (decide (r21 ≤ a0.2.1))))) k ((0 : Int), ())))) else (iter (σ := Int × Unit) (fun rec32 x31 => (bif (decide (x31.1 < (a0.2.2.1.length : Int))) then (bif (decide (0 ≤ x31.1 ∧ x31.1 < (a0.2.2.1.length : Int))) then ((F157 k (a0.2.2.1.getD x31.1.toNat Z3).1).bind fun r33 => (bif (!r33) then some false else (bif (decide (0 ≤ (0 : Int) ∧ (0 : Int) ≤ x31.1 ∧ x31.1 ≤ (a0.2.2.1.length : Int))) then (iter (σ := Int × Unit) (fun rec38 x37 => (bif (decide (x37.1 < (((a0.2.2.1.drop (0 : Int).toNat).take (x31.1 - (0 : Int)).toNat).length : Int))) then (bif (decide (0 ≤ x37.1 ∧ x37.1 < (((a0.2.2.1.drop (0 : Int).toNat).take (x31.1 - (0 : Int)).toNat).length : Int))) then ((F159 k (a0.2.2.1.getD x31.1.toNat Z3).1 (((a0.2.2.1.drop (0 : Int).toNat).take (x31.1 - (0 : Int)).toNat).getD x37.1.toNat Z3).1).bind fun r39 => (bif r39 then (bif (decide ((0 : Int) ≤ x37.1)) then some false else (rec32 ((wrap64 (x31.1 + (1 : Int))), ()))) else (rec38 ((wrap64 (x37.1 + (1 : Int))), ())))) else none) else (bif (decide ((0 : Int) ≤ (-1 : Int))) then some false else (rec32 ((wrap64 (x31.1 + (1 : Int))), ()))))) k ((0 : Int), ())) else none))) else none) else ((F160 k a0.2.2.1).bind fun r40 => some (decide (r40 ≤ a0.2.1))))) k ((0 : Int), ()))))))
def S99 (k : Nat) : CSpec := { params := [U4], res := [(.bool, false)], fresh := true, sem := fun x => F99 k x.1 }
theorem e99 : (fun k => evFn ((T (kp [(([], 4), ⟨[37], [], [], false⟩), (([7, 52], 2), ⟨[8], [], [], false⟩)]) k).cx [(87, S87 k), (125, S125 k), (157, S157 k), (159, S159 k), (160, S160 k)]) 5 Tryz.f99 (S99 0).params (S99 0).res true) = fun k => (S99 k).sem := by kernel_rfl
theorem ok99 {G : World → Prop} (hG : Lasts G) (k : Nat) : (S99 k).ok Tryz.prog G 99 := fn_ok (T_ok (kp [(([], 4), ⟨[37], [], [], false⟩), (([7, 52], 2), ⟨[8], [], [], false⟩)]) k) hG (calls := [(87, S87 k), (125, S125 k), (157, S157 k), (159, S159 k), (160, S160 k)]) ⟨ok87 hG k, ok125 hG k, ok157 hG k, ok159 hG k, ok160 hG k, trivial⟩ 5 rfl (S99 k) (congrFun e99 k)

/-- loop.example/g01402/impl.Fnv -/
def F162 (k : Nat) (a0 : ByteArray) : Option (Int) :=
  (iter (σ := Int × Int × Unit) (fun rec4 x3 => (bif (decide (x3.2.1 < (a0.size : Int))) then (bif (decide (0 ≤ x3.2.1 ∧ x3.2.1 < (a0.size : Int))) then (bif (decide ((4294967296 : Int) = 0)) then none else (rec4 (((wrap64 ((bitsXor .i64 x3.1 (wrap64 ((bt a0 x3.2.1)))) * (16777619 : Int))).tmod (4294967296 : Int)), (wrap64 (x3.2.1 + (1 : Int))), ()))) else none) else some x3.1)) k ((2166136261 : Int), (0 : Int), ()))
def S162 (k : Nat) : CSpec := { params := [.str], res := [((.int .i64), false)], fresh := true, sem := fun x => F162 k x.1 }
theorem e162 : (fun k => evFn ((T (fun _ _ => ⟨[3, 7], [], [], false⟩) k).cx []) 5 Tryz.f162 (S162 0).params (S162 0).res true) = fun k => (S162 k).sem := by kernel_rfl
theorem ok162 {G : World → Prop} (hG : Lasts G) (k : Nat) : (S162 k).ok Tryz.prog G 162 := fn_ok (T_ok (fun _ _ => ⟨[3, 7], [], [], false⟩) k) hG (calls := []) trivial 5 rfl (S162 k) (congrFun e162 k)

/-- loop.example/g01402/impl.ShardOf -/
def F102 (k : Nat) (a0 : D6) (a1 : ByteArray) : Option (Int) :=
  (bif (decide ((a0.1.length : Int) = (0 : Int))) then some (-1 : Int) else ((F162 k a1).bind fun r1 => (bif (decide ((a0.1.length : Int) = 0)) then none else some (r1.tmod (a0.1.length : Int)))))
def S102 (k : Nat) : CSpec := { params := [U6, .str], res := [((.int .i64), false)], fresh := true, sem := fun x => F102 k x.1 x.2.1 }
theorem e102 : (fun k => evFn ((T (fun _ _ => ⟨[], [], [], false⟩) k).cx [(162, S162 k)]) 5 Tryz.f102 (S102 0).params (S102 0).res true) = fun k => (S102 k).sem := by kernel_rfl
theorem ok102 {G : World → Prop} (hG : Lasts G) (k : Nat) : (S102 k).ok Tryz.prog G 102 := fn_ok (T_ok (fun _ _ => ⟨[], [], [], false⟩) k) hG (calls := [(162, S162 k)]) ⟨ok162 hG k, trivial⟩ 5 rfl (S102 k) (congrFun e102 k)

/-- loop.example/g01402/impl.CacheOk -/
def F47 (k : Nat) (a0 : D6) : Option (Bool) :=
  ((F87 k (a0.1.length : Int) (1 : Int) (4 : Int)).bind fun r1 => (bif (!r1) then some false else (iter (σ := Int × Unit) (fun rec12 x11 => (bif (decide (x11.1 < (a0.1.length : Int))) then (bif (decide (0 ≤ x11.1 ∧ x11.1 < (a0.1.length : Int))) then ((F99 k (a0.1.getD x11.1.toNat Z4)).bind fun r13 => (bif (!r13) then some false else (iter (σ := Int × Unit) (fun rec18 x17 => (bif (decide (x17.1 < ((a0.1.getD x11.1.toNat Z4).2.2.1.length : Int))) then (bif (decide (0 ≤ x17.1 ∧ x17.1 < ((a0.1.getD x11.1.toNat Z4).2.2.1.length : Int))) then ((F102 k a0 ((a0.1.getD x11.1.toNat Z4).2.2.1.getD x17.1.toNat Z3).1.1).bind fun r19 => (bif (!decide (r19 = x11.1)) then (bif (decide ((0 : Int) ≤ x17.1)) then some false else (rec12 ((wrap64 (x11.1 + (1 : Int))), ()))) else (rec18 ((wrap64 (x17.1 + (1 : Int))), ())))) else none) else (bif (decide ((0 : Int) ≤ (-1 : Int))) then some false else (rec12 ((wrap64 (x11.1 + (1 : Int))), ()))))) k ((0 : Int), ())))) else none) else (iter (σ := Int × Unit) (fun rec25 x24 => (bif (decide (x24.1 < (a0.2.length : Int))) then (bif (decide (0 ≤ x24.1 ∧ x24.1 < (a0.2.length : Int))) then ((F103 k (a0.2.getD x24.1.toNat Z5).1).bind fun r26 => (bif (!r26) then some false else ((F87 k (a0.2.getD x24.1.toNat Z5).2 (1 : Int) (1000000 : Int)).bind fun r27 => (bif (!r27) then some false else (bif (decide ((0 : Int) < x24.1)) then (bif (decide (0 ≤ (wrap64 (x24.1 - (1 : Int))) ∧ (wrap64 (x24.1 - (1 : Int))) < (a0.2.length : Int))) then (bif (!lessText (a0.2.getD (wrap64 (x24.1 - (1 : Int))).toNat Z5).1 (a0.2.getD x24.1.toNat Z5).1) then some false else (rec25 ((wrap64 (x24.1 + (1 : Int))), ()))) else none) else (rec25 ((wrap64 (x24.1 + (1 : Int))), ()))))))) else none) else some true)) k ((0 : Int), ())))) k ((0 : Int), ()))))
def S47 (k : Nat) : CSpec := { params := [U6], res := [(.bool, false)], fresh := true, sem := fun x => F47 k x.1 }
theorem e47 : (fun k => evFn ((T (kp [(([], 4), ⟨[15], [], [], false⟩), (([], 10), ⟨[33], [], [], false⟩), (([7, 27], 2), ⟨[8], [], [], false⟩)]) k).cx [(87, S87 k), (99, S99 k), (102, S102 k), (103, S103 k)]) 5 Tryz.f47 (S47 0).params (S47 0).res true) = fun k => (S47 k).sem := by kernel_rfl
theorem ok47 {G : World → Prop} (hG : Lasts G) (k : Nat) : (S47 k).ok Tryz.prog G 47 := fn_ok (T_ok (kp [(([], 4), ⟨[15], [], [], false⟩), (([], 10), ⟨[33], [], [], false⟩), (([7, 27], 2), ⟨[8], [], [], false⟩)]) k) hG (calls := [(87, S87 k), (99, S99 k), (102, S102 k), (103, S103 k)]) ⟨ok87 hG k, ok99 hG k, ok102 hG k, ok103 hG k, trivial⟩ 5 rfl (S47 k) (congrFun e47 k)

/-- loop.example/g01402/impl.OriginOk -/
def F48 (k : Nat) (a0 : D8) : Option (Bool) :=
  (iter (σ := Int × Unit) (fun rec11 x10 => (bif (decide (x10.1 < (a0.length : Int))) then (bif (decide (0 ≤ x10.1 ∧ x10.1 < (a0.length : Int))) then ((F103 k (a0.getD x10.1.toNat Z7).1).bind fun r12 => (bif (!r12) then some false else (bif (decide ((0 : Int) < x10.1)) then (bif (decide (0 ≤ (wrap64 (x10.1 - (1 : Int))) ∧ (wrap64 (x10.1 - (1 : Int))) < (a0.length : Int))) then (bif (!lessText (a0.getD (wrap64 (x10.1 - (1 : Int))).toNat Z7).1 (a0.getD x10.1.toNat Z7).1) then some false else (bif (decide ((60 : Int) < ((a0.getD x10.1.toNat Z7).2.1.size : Int))) then some false else ((F87 k (a0.getD x10.1.toNat Z7).2.2.1 (1 : Int) (100000 : Int)).bind fun r13 => (bif (!r13) then some false else ((F87 k (a0.getD x10.1.toNat Z7).2.2.2.1 (0 : Int) (2000000000 : Int)).bind fun r14 => (bif (!r14) then some false else (bif (decide ((6 : Int) < ((a0.getD x10.1.toNat Z7).2.2.2.2.2.2.length : Int))) then some false else ((F104 k (a0.getD x10.1.toNat Z7).2.2.2.2.2.2).bind fun r15 => (bif (!r15) then some false else (rec11 ((wrap64 (x10.1 + (1 : Int))), ()))))))))))) else none) else (bif (decide ((60 : Int) < ((a0.getD x10.1.toNat Z7).2.1.size : Int))) then some false else ((F87 k (a0.getD x10.1.toNat Z7).2.2.1 (1 : Int) (100000 : Int)).bind fun r16 => (bif (!r16) then some false else ((F87 k (a0.getD x10.1.toNat Z7).2.2.2.1 (0 : Int) (2000000000 : Int)).bind fun r17 => (bif (!r17) then some false else (bif (decide ((6 : Int) < ((a0.getD x10.1.toNat Z7).2.2.2.2.2.2.length : Int))) then some false else ((F104 k (a0.getD x10.1.toNat Z7).2.2.2.2.2.2).bind fun r18 => (bif (!r18) then some false else (rec11 ((wrap64 (x10.1 + (1 : Int))), ()))))))))))))) else none) else some (decide ((a0.length : Int) ≤ (8 : Int))))) k ((0 : Int), ()))
def S48 (k : Nat) : CSpec := { params := [U8], res := [(.bool, false)], fresh := true, sem := fun x => F48 k x.1 }
theorem e48 : (fun k => evFn ((T (fun _ _ => ⟨[8], [], [], false⟩) k).cx [(87, S87 k), (103, S103 k), (104, S104 k)]) 5 Tryz.f48 (S48 0).params (S48 0).res true) = fun k => (S48 k).sem := by kernel_rfl
theorem ok48 {G : World → Prop} (hG : Lasts G) (k : Nat) : (S48 k).ok Tryz.prog G 48 := fn_ok (T_ok (fun _ _ => ⟨[8], [], [], false⟩) k) hG (calls := [(87, S87 k), (103, S103 k), (104, S104 k)]) ⟨ok87 hG k, ok103 hG k, ok104 hG k, trivial⟩ 5 rfl (S48 k) (congrFun e48 k)

/-- slices.Clone[[]loop.example/g01402/impl.GenRow,loop.example/g01402/impl.GenRow] -/
def S105 (k : Nat) : CSpec := { params := [.slice U5], res := [(.slice U5, true)], fresh := true, sem := fun x => semClone x.1 }
theorem ok105 {G : World → Prop} (hG : Lasts G) (k : Nat) : (S105 k).ok Tryz.prog G 105 := ok_Clone Tryz.lClone105 Tryz.func105 (by kernel_rfl) (by kernel_rfl) (by kernel_rfl)

/-- slices.Clone[[]loop.example/g01402/impl.Field,loop.example/g01402/impl.Field] -/
def S107 (k : Nat) : CSpec := { params := [.slice U0], res := [(.slice U0, true)], fresh := true, sem := fun x => semClone x.1 }
theorem ok107 {G : World → Prop} (hG : Lasts G) (k : Nat) : (S107 k).ok Tryz.prog G 107 := ok_Clone Tryz.lClone107 Tryz.func107 (by kernel_rfl) (by kernel_rfl) (by kernel_rfl)

/-- loop.example/g01402/impl.cloneResponse -/
def F142 (k : Nat) (a0 : D1) : Option (D1) :=
  ((semClone a0.2.1).bind fun r1 => some (a0.1, r1, a0.2.2))
def S142 (k : Nat) : CSpec := { params := [U1], res := [(U1, true)], fresh := true, sem := fun x => F142 k x.1 }
theorem e142 : (fun k => evFn ((T (fun _ _ => ⟨[], [], [], false⟩) k).cx [(107, S107 k)]) 5 Tryz.f142 (S142 0).params (S142 0).res true) = fun k => (S142 k).sem := by kernel_rfl
theorem ok142 {G : World → Prop} (hG : Lasts G) (k : Nat) : (S142 k).ok Tryz.prog G 142 := fn_ok (T_ok (fun _ _ => ⟨[], [], [], false⟩) k) hG (calls := [(107, S107 k)]) ⟨ok107 hG k, trivial⟩ 5 rfl (S142 k) (congrFun e142 k)

/-- loop.example/g01402/impl.cloneStored -/
def F165 (k : Nat) (a0 : D2) : Option (D2) :=
  ((semClone a0.2.1).bind fun r1 => ((F142 k a0.2.2.1).bind fun r2 => some (a0.1, r1, r2, a0.2.2.2.1, a0.2.2.2.2)))
def S165 (k : Nat) : CSpec := { params := [U2], res := [(U2, true)], fresh := true, sem := fun x => F165 k x.1 }
theorem e165 : (fun k => evFn ((T (fun _ _ => ⟨[], [], [], false⟩) k).cx [(107, S107 k), (142, S142 k)]) 5 Tryz.f165 (S165 0).params (S165 0).res true) = fun k => (S165 k).sem := by kernel_rfl
theorem ok165 {G : World → Prop} (hG : Lasts G) (k : Nat) : (S165 k).ok Tryz.prog G 165 := fn_ok (T_ok (fun _ _ => ⟨[], [], [], false⟩) k) hG (calls := [(107, S107 k), (142, S142 k)]) ⟨ok107 hG k, ok142 hG k, trivial⟩ 5 rfl (S165 k) (congrFun e165 k)

/-- loop.example/g01402/impl.cloneShard -/
def F106 (k : Nat) (a0 : D4) : Option (D4) :=
  (iter (σ := Int × List D3 × Unit) (fun rec5 x4 => (bif (decide (x4.1 < (a0.2.2.1.length : Int))) then (bif (decide (0 ≤ x4.1 ∧ x4.1 < (a0.2.2.1.length : Int))) then ((F165 k (a0.2.2.1.getD x4.1.toNat Z3).1).bind fun r6 => (bif (decide (x4.2.1.length + ([(r6, (a0.2.2.1.getD x4.1.toNat Z3).2)] : List D3).length < most)) then (rec5 ((wrap64 (x4.1 + (1 : Int))), (x4.2.1 ++ ([(r6, (a0.2.2.1.getD x4.1.toNat Z3).2)] : List D3)), ())) else none)) else none) else some (a0.1, a0.2.1, x4.2.1, a0.2.2.2))) k ((0 : Int), ([] : List D3), ()))
def S106 (k : Nat) : CSpec := { params := [U4], res := [(U4, true)], fresh := true, sem := fun x => F106 k x.1 }
theorem e106 : (fun k => evFn ((T (fun _ _ => ⟨[3, 9], [], [3], false⟩) k).cx [(165, S165 k)]) 5 Tryz.f106 (S106 0).params (S106 0).res true) = fun k => (S106 k).sem := by kernel_rfl
theorem ok106 {G : World → Prop} (hG : Lasts G) (k : Nat) : (S106 k).ok Tryz.prog G 106 := fn_ok (T_ok (fun _ _ => ⟨[3, 9], [], [3], false⟩) k) hG (calls := [(165, S165 k)]) ⟨ok165 hG k, trivial⟩ 5 rfl (S106 k) (congrFun e106 k)

/-- loop.example/g01402/impl.cloneCache -/
def F49 (k : Nat) (a0 : D6) : Option (D6) :=
  ((semClone a0.2).bind fun r1 => (iter (σ := Int × List D4 × Unit) (fun rec6 x5 => (bif (decide (x5.1 < (a0.1.length : Int))) then (bif (decide (0 ≤ x5.1 ∧ x5.1 < (a0.1.length : Int))) then ((F106 k (a0.1.getD x5.1.toNat Z4)).bind fun r7 => (bif (decide (x5.2.1.length + ([r7] : List D4).length < most)) then (rec6 ((wrap64 (x5.1 + (1 : Int))), (x5.2.1 ++ ([r7] : List D4)), ())) else none)) else none) else some (x5.2.1, r1))) k ((0 : Int), ([] : List D4), ())))
def S49 (k : Nat) : CSpec := { params := [U6], res := [(U6, true)], fresh := true, sem := fun x => F49 k x.1 }
theorem e49 : (fun k => evFn ((T (fun _ _ => ⟨[13], [7], [8], false⟩) k).cx [(105, S105 k), (106, S106 k)]) 5 Tryz.f49 (S49 0).params (S49 0).res true) = fun k => (S49 k).sem := by kernel_rfl
theorem ok49 {G : World → Prop} (hG : Lasts G) (k : Nat) : (S49 k).ok Tryz.prog G 49 := fn_ok (T_ok (fun _ _ => ⟨[13], [7], [8], false⟩) k) hG (calls := [(105, S105 k), (106, S106 k)]) ⟨ok105 hG k, ok106 hG k, trivial⟩ 5 rfl (S49 k) (congrFun e49 k)

/-- loop.example/g01402/impl.cloneOrigin -/
def F50 (k : Nat) (a0 : D8) : Option (D8) :=
  (iter (σ := Int × List D7 × Unit) (fun rec5 x4 => (bif (decide (x4.1 < (a0.length : Int))) then (bif (decide (0 ≤ x4.1 ∧ x4.1 < (a0.length : Int))) then ((semClone (a0.getD x4.1.toNat Z7).2.2.2.2.2.2).bind fun r6 => (bif (decide (x4.2.1.length + ([((a0.getD x4.1.toNat Z7).1, (a0.getD x4.1.toNat Z7).2.1, (a0.getD x4.1.toNat Z7).2.2.1, (a0.getD x4.1.toNat Z7).2.2.2.1, (a0.getD x4.1.toNat Z7).2.2.2.2.1, (a0.getD x4.1.toNat Z7).2.2.2.2.2.1, r6)] : List D7).length < most)) then (rec5 ((wrap64 (x4.1 + (1 : Int))), (x4.2.1 ++ ([((a0.getD x4.1.toNat Z7).1, (a0.getD x4.1.toNat Z7).2.1, (a0.getD x4.1.toNat Z7).2.2.1, (a0.getD x4.1.toNat Z7).2.2.2.1, (a0.getD x4.1.toNat Z7).2.2.2.2.1, (a0.getD x4.1.toNat Z7).2.2.2.2.2.1, r6)] : List D7)), ())) else none)) else none) else some x4.2.1)) k ((0 : Int), ([] : List D7), ()))
def S50 (k : Nat) : CSpec := { params := [U8], res := [(U8, true)], fresh := true, sem := fun x => F50 k x.1 }
theorem e50 : (fun k => evFn ((T (fun _ _ => ⟨[10], [4], [5], false⟩) k).cx [(107, S107 k)]) 5 Tryz.f50 (S50 0).params (S50 0).res true) = fun k => (S50 k).sem := by kernel_rfl
theorem ok50 {G : World → Prop} (hG : Lasts G) (k : Nat) : (S50 k).ok Tryz.prog G 50 := fn_ok (T_ok (fun _ _ => ⟨[10], [4], [5], false⟩) k) hG (calls := [(107, S107 k)]) ⟨ok107 hG k, trivial⟩ 5 rfl (S50 k) (congrFun e50 k)

/-- loop.example/g01402/impl.ConnNew -/
def F51 (k : Nat) (a0 : ByteArray) : Option (D11) :=
  (bif (decide ((1500 : Int) < (a0.size : Int))) then some (Z11.1, (ByteArray.mk #[]), Z11.2.2.1, (Z11.2.2.2.1.1, Z11.2.2.2.1.2.1, ([] : List D0), Z11.2.2.2.1.2.2.2), (Z11.2.2.2.2.1.1, Z11.2.2.2.2.1.2.1, ([] : List D0), Z11.2.2.2.2.1.2.2.2), (Z11.2.2.2.2.2.1.1, ([] : List D0), (Z11.2.2.2.2.2.1.2.2.1.1, ([] : List D0), Z11.2.2.2.2.2.1.2.2.1.2.2), Z11.2.2.2.2.2.1.2.2.2.1, Z11.2.2.2.2.2.1.2.2.2.2), Z11.2.2.2.2.2.2.1, (-1 : Int), Z11.2.2.2.2.2.2.2.2.1, Z11.2.2.2.2.2.2.2.2.2.1, Z11.2.2.2.2.2.2.2.2.2.2.1, Z11.2.2.2.2.2.2.2.2.2.2.2.1, (Z11.2.2.2.2.2.2.2.2.2.2.2.2.1.1, ([] : List D0), Z11.2.2.2.2.2.2.2.2.2.2.2.2.1.2.2), ([] : List D10)) else some (Z11.1, a0, Z11.2.2.1, (Z11.2.2.2.1.1, Z11.2.2.2.1.2.1, ([] : List D0), Z11.2.2.2.1.2.2.2), (Z11.2.2.2.2.1.1, Z11.2.2.2.2.1.2.1, ([] : List D0), Z11.2.2.2.2.1.2.2.2), (Z11.2.2.2.2.2.1.1, ([] : List D0), (Z11.2.2.2.2.2.1.2.2.1.1, ([] : List D0), Z11.2.2.2.2.2.1.2.2.1.2.2), Z11.2.2.2.2.2.1.2.2.2.1, Z11.2.2.2.2.2.1.2.2.2.2), Z11.2.2.2.2.2.2.1, (-1 : Int), Z11.2.2.2.2.2.2.2.2.1, Z11.2.2.2.2.2.2.2.2.2.1, Z11.2.2.2.2.2.2.2.2.2.2.1, Z11.2.2.2.2.2.2.2.2.2.2.2.1, (Z11.2.2.2.2.2.2.2.2.2.2.2.2.1.1, ([] : List D0), Z11.2.2.2.2.2.2.2.2.2.2.2.2.1.2.2), ([] : List D10)))
def S51 (k : Nat) : CSpec := { params := [.str], res := [(U11, true)], fresh := true, sem := fun x => F51 k x.1 }
theorem e51 : (fun k => evFn ((T (fun _ _ => ⟨[], [], [], false⟩) k).cx []) 5 Tryz.f51 (S51 0).params (S51 0).res true) = fun k => (S51 k).sem := by kernel_rfl
theorem ok51 {G : World → Prop} (hG : Lasts G) (k : Nat) : (S51 k).ok Tryz.prog G 51 := fn_ok (T_ok (fun _ _ => ⟨[], [], [], false⟩) k) hG (calls := []) trivial 5 rfl (S51 k) (congrFun e51 k)

/-- loop.example/g01402/impl.WorldNew -/
def F14 (k : Nat) (a0 : List ByteArray) (a1 : D6) (a2 : D8) : Option (D14) :=
  (bif (decide ((4 : Int) < (a0.length : Int))) then some (Z14.1, Z14.2.1, ([] : List D11), (([] : List D4), ([] : List D5)), ([] : List D12), ([] : List D7), ([] : List D13)) else ((F47 k a1).bind fun r1 => (bif (!r1) then some (Z14.1, Z14.2.1, ([] : List D11), (([] : List D4), ([] : List D5)), ([] : List D12), ([] : List D7), ([] : List D13)) else ((F48 k a2).bind fun r2 => (bif (!r2) then some (Z14.1, Z14.2.1, ([] : List D11), (([] : List D4), ([] : List D5)), ([] : List D12), ([] : List D7), ([] : List D13)) else ((F49 k a1).bind fun r3 => ((F50 k a2).bind fun r4 => (iter (σ := Int × Int × Int × List D11 × Unit) (fun rec9 x8 => (bif (decide (x8.1 < (a0.length : Int))) then (bif (decide (0 ≤ x8.1 ∧ x8.1 < (a0.length : Int))) then ((F51 k (a0.getD x8.1.toNat (ByteArray.mk #[]))).bind fun r10 => (bif (decide (x8.2.2.2.1.length + ([r10] : List D11).length < most)) then (rec9 ((wrap64 (x8.1 + (1 : Int))), x8.2.1, x8.2.2.1, (x8.2.2.2.1 ++ ([r10] : List D11)), ())) else none)) else none) else some (x8.2.1, x8.2.2.1, x8.2.2.2.1, r3, ([] : List D12), r4, ([] : List D13)))) k ((0 : Int), Z14.1, Z14.2.1, ([] : List D11), ())))))))))
def S14 (k : Nat) : CSpec := { params := [(.slice .str), U6, U8], res := [(U14, true)], fresh := true, sem := fun x => F14 k x.1 x.2.1 x.2.2.1 }
theorem e14 : (fun k => evFn ((T (fun _ _ => ⟨[31], [18], [19], false⟩) k).cx [(47, S47 k), (48, S48 k), (49, S49 k), (50, S50 k), (51, S51 k)]) 5 Tryz.f14 (S14 0).params (S14 0).res true) = fun k => (S14 k).sem := by kernel_rfl
theorem ok14 {G : World → Prop} (hG : Lasts G) (k : Nat) : (S14 k).ok Tryz.prog G 14 := fn_ok (T_ok (fun _ _ => ⟨[31], [18], [19], false⟩) k) hG (calls := [(47, S47 k), (48, S48 k), (49, S49 k), (50, S50 k), (51, S51 k)]) ⟨ok47 hG k, ok48 hG k, ok49 hG k, ok50 hG k, ok51 hG k, trivial⟩ 5 rfl (S14 k) (congrFun e14 k)

/-- loop.example/g01402/laws.eqField -/
def F203 (k : Nat) (a0 : D0) (a1 : D0) : Option (Bool) :=
  (bif (!decide (a0.1 = a1.1)) then some false else (bif (!decide (a0.2 = a1.2)) then some false else some true))
def S203 (k : Nat) : CSpec := { params := [U0, U0], res := [(.bool, false)], fresh := true, sem := fun x => F203 k x.1 x.2.1 }
theorem e203 : (fun k => evFn ((T (fun _ _ => ⟨[], [], [], false⟩) k).cx []) 5 Tryz.f203 (S203 0).params (S203 0).res true) = fun k => (S203 k).sem := by kernel_rfl
theorem ok203 {G : World → Prop} (hG : Lasts G) (k : Nat) : (S203 k).ok Tryz.prog G 203 := fn_ok (T_ok (fun _ _ => ⟨[], [], [], false⟩) k) hG (calls := []) trivial 5 rfl (S203 k) (congrFun e203 k)

/-- loop.example/g01402/laws.eqFieldS -/
def F171 (k : Nat) (a0 : List D0) (a1 : List D0) : Option (Bool) :=
  (bif (!decide ((a0.length : Int) = (a1.length : Int))) then some false else (iter (σ := Int × Unit) (fun rec5 x4 => (bif (decide (x4.1 < (a0.length : Int))) then (bif (decide (0 ≤ x4.1 ∧ x4.1 < (a0.length : Int))) then (bif (decide (0 ≤ x4.1 ∧ x4.1 < (a1.length : Int))) then ((F203 k (a0.getD x4.1.toNat Z0) (a1.getD x4.1.toNat Z0)).bind fun r6 => (bif (!r6) then some false else (rec5 ((wrap64 (x4.1 + (1 : Int))), ())))) else none) else none) else some true)) k ((0 : Int), ())))
def S171 (k : Nat) : CSpec := { params := [(.slice U0), (.slice U0)], res := [(.bool, false)], fresh := true, sem := fun x => F171 k x.1 x.2.1 }
theorem e171 : (fun k => evFn ((T (fun _ _ => ⟨[5], [], [], false⟩) k).cx [(203, S203 k)]) 5 Tryz.f171 (S171 0).params (S171 0).res true) = fun k => (S171 k).sem := by kernel_rfl
theorem ok171 {G : World → Prop} (hG : Lasts G) (k : Nat) : (S171 k).ok Tryz.prog G 171 := fn_ok (T_ok (fun _ _ => ⟨[5], [], [], false⟩) k) hG (calls := [(203, S203 k)]) ⟨ok203 hG k, trivial⟩ 5 rfl (S171 k) (congrFun e171 k)

/-- loop.example/g01402/laws.eqRequest -/
def F166 (k : Nat) (a0 : D9) (a1 : D9) : Option (Bool) :=
  (bif (!decide (a0.1 = a1.1)) then some false else (bif (!decide (a0.2.1 = a1.2.1)) then some false else ((F171 k a0.2.2.1 a1.2.2.1).bind fun r1 => (bif (!r1) then some false else (bif (!decide (a0.2.2.2 = a1.2.2.2)) then some false else some true)))))
def S166 (k : Nat) : CSpec := { params := [U9, U9], res := [(.bool, false)], fresh := true, sem := fun x => F166 k x.1 x.2.1 }
theorem e166 : (fun k => evFn ((T (fun _ _ => ⟨[], [], [], false⟩) k).cx [(171, S171 k)]) 5 Tryz.f166 (S166 0).params (S166 0).res true) = fun k => (S166 k).sem := by kernel_rfl
theorem ok166 {G : World → Prop} (hG : Lasts G) (k : Nat) : (S166 k).ok Tryz.prog G 166 := fn_ok (T_ok (fun _ _ => ⟨[], [], [], false⟩) k) hG (calls := [(171, S171 k)]) ⟨ok171 hG k, trivial⟩ 5 rfl (S166 k) (congrFun e166 k)

/-- loop.example/g01402/laws.eqResponse -/
def F168 (k : Nat) (a0 : D1) (a1 : D1) : Option (Bool) :=
  (bif (!decide (a0.1 = a1.1)) then some false else ((F171 k a0.2.1 a1.2.1).bind fun r1 => (bif (!r1) then some false else (bif (!decide (a0.2.2 = a1.2.2)) then some false else some true))))
def S168 (k : Nat) : CSpec := { params := [U1, U1], res := [(.bool, false)], fresh := true, sem := fun x => F168 k x.1 x.2.1 }
theorem e168 : (fun k => evFn ((T (fun _ _ => ⟨[], [], [], false⟩) k).cx [(171, S171 k)]) 5 Tryz.f168 (S168 0).params (S168 0).res true) = fun k => (S168 k).sem := by kernel_rfl
theorem ok168 {G : World → Prop} (hG : Lasts G) (k : Nat) : (S168 k).ok Tryz.prog G 168 := fn_ok (T_ok (fun _ _ => ⟨[], [], [], false⟩) k) hG (calls := [(171, S171 k)]) ⟨ok171 hG k, trivial⟩ 5 rfl (S168 k) (congrFun e168 k)

/-- loop.example/g01402/laws.eqStored -/
def F167 (k : Nat) (a0 : D2) (a1 : D2) : Option (Bool) :=
  (bif (!decide (a0.1 = a1.1)) then some false else ((F171 k a0.2.1 a1.2.1).bind fun r1 => (bif (!r1) then some false else ((F168 k a0.2.2.1 a1.2.2.1).bind fun r2 => (bif (!r2) then some false else (bif (!decide (a0.2.2.2.1 = a1.2.2.2.1)) then some false else (bif (!decide (a0.2.2.2.2 = a1.2.2.2.2)) then some false else some true)))))))
def S167 (k : Nat) : CSpec := { params := [U2, U2], res := [(.bool, false)], fresh := true, sem := fun x => F167 k x.1 x.2.1 }
theorem e167 : (fun k => evFn ((T (fun _ _ => ⟨[], [], [], false⟩) k).cx [(168, S168 k), (171, S171 k)]) 5 Tryz.f167 (S167 0).params (S167 0).res true) = fun k => (S167 k).sem := by kernel_rfl
theorem ok167 {G : World → Prop} (hG : Lasts G) (k : Nat) : (S167 k).ok Tryz.prog G 167 := fn_ok (T_ok (fun _ _ => ⟨[], [], [], false⟩) k) hG (calls := [(168, S168 k), (171, S171 k)]) ⟨ok168 hG k, ok171 hG k, trivial⟩ 5 rfl (S167 k) (congrFun e167 k)

/-- loop.example/g01402/laws.eqTold -/
def F201 (k : Nat) (a0 : D10) (a1 : D10) : Option (Bool) :=
  (bif (!decide (a0.1 = a1.1)) then some false else ((F168 k a0.2 a1.2).bind fun r1 => (bif (!r1) then some false else some true)))
def S201 (k : Nat) : CSpec := { params := [U10, U10], res := [(.bool, false)], fresh := true, sem := fun x => F201 k x.1 x.2.1 }
theorem e201 : (fun k => evFn ((T (fun _ _ => ⟨[], [], [], false⟩) k).cx [(168, S168 k)]) 5 Tryz.f201 (S201 0).params (S201 0).res true) = fun k => (S201 k).sem := by kernel_rfl
theorem ok201 {G : World → Prop} (hG : Lasts G) (k : Nat) : (S201 k).ok Tryz.prog G 201 := fn_ok (T_ok (fun _ _ => ⟨[], [], [], false⟩) k) hG (calls := [(168, S168 k)]) ⟨ok168 hG k, trivial⟩ 5 rfl (S201 k) (congrFun e201 k)

/-- loop.example/g01402/laws.eqToldS -/
def F169 (k : Nat) (a0 : List D10) (a1 : List D10) : Option (Bool) :=
  (bif (!decide ((a0.length : Int) = (a1.length : Int))) then some false else (iter (σ := Int × Unit) (fun rec5 x4 => (bif (decide (x4.1 < (a0.length : Int))) then (bif (decide (0 ≤ x4.1 ∧ x4.1 < (a0.length : Int))) then (bif (decide (0 ≤ x4.1 ∧ x4.1 < (a1.length : Int))) then ((F201 k (a0.getD x4.1.toNat Z10) (a1.getD x4.1.toNat Z10)).bind fun r6 => (bif (!r6) then some false else (rec5 ((wrap64 (x4.1 + (1 : Int))), ())))) else none) else none) else some true)) k ((0 : Int), ())))
def S169 (k : Nat) : CSpec := { params := [(.slice U10), (.slice U10)], res := [(.bool, false)], fresh := true, sem := fun x => F169 k x.1 x.2.1 }
theorem e169 : (fun k => evFn ((T (fun _ _ => ⟨[5], [], [], false⟩) k).cx [(201, S201 k)]) 5 Tryz.f169 (S169 0).params (S169 0).res true) = fun k => (S169 k).sem := by kernel_rfl
theorem ok169 {G : World → Prop} (hG : Lasts G) (k : Nat) : (S169 k).ok Tryz.prog G 169 := fn_ok (T_ok (fun _ _ => ⟨[5], [], [], false⟩) k) hG (calls := [(201, S201 k)]) ⟨ok201 hG k, trivial⟩ 5 rfl (S169 k) (congrFun e169 k)

/-- loop.example/g01402/laws.eqConn -/
def F108 (k : Nat) (a0 : D11) (a1 : D11) : Option (Bool) :=
  (bif (!decide (a0.1 = a1.1)) then some false else (bif (!decide (a0.2.1 = a1.2.1)) then some false else (bif (!decide (a0.2.2.1 = a1.2.2.1)) then some false else ((F166 k a0.2.2.2.1 a1.2.2.2.1).bind fun r1 => (bif (!r1) then some false else ((F166 k a0.2.2.2.2.1 a1.2.2.2.2.1).bind fun r2 => (bif (!r2) then some false else ((F167 k a0.2.2.2.2.2.1 a1.2.2.2.2.2.1).bind fun r3 => (bif (!r3) then some false else (bif (!(a0.2.2.2.2.2.2.1 == a1.2.2.2.2.2.2.1)) then some false else (bif (!decide (a0.2.2.2.2.2.2.2.1 = a1.2.2.2.2.2.2.2.1)) then some false else (bif (!decide (a0.2.2.2.2.2.2.2.2.1 = a1.2.2.2.2.2.2.2.2.1)) then some false else (bif (!decide (a0.2.2.2.2.2.2.2.2.2.1 = a1.2.2.2.2.2.2.2.2.2.1)) then some false else (bif (!decide (a0.2.2.2.2.2.2.2.2.2.2.1 = a1.2.2.2.2.2.2.2.2.2.2.1)) then some false else (bif (!(a0.2.2.2.2.2.2.2.2.2.2.2.1 == a1.2.2.2.2.2.2.2.2.2.2.2.1)) then some false else ((F168 k a0.2.2.2.2.2.2.2.2.2.2.2.2.1 a1.2.2.2.2.2.2.2.2.2.2.2.2.1).bind fun r4 => (bif (!r4) then some false else ((F169 k a0.2.2.2.2.2.2.2.2.2.2.2.2.2 a1.2.2.2.2.2.2.2.2.2.2.2.2.2).bind fun r5 => (bif (!r5) then some false else some true)))))))))))))))))))
def S108 (k : Nat) : CSpec := { params := [U11, U11], res := [(.bool, false)], fresh := true, sem := fun x => F108 k x.1 x.2.1 }
theorem e108 : (fun k => evFn ((T (fun _ _ => ⟨[], [], [], false⟩) k).cx [(166, S166 k), (167, S167 k), (168, S168 k), (169, S169 k)]) 5 Tryz.f108 (S108 0).params (S108 0).res true) = fun k => (S108 k).sem := by kernel_rfl
theorem ok108 {G : World → Prop} (hG : Lasts G) (k : Nat) : (S108 k).ok Tryz.prog G 108 := fn_ok (T_ok (fun _ _ => ⟨[], [], [], false⟩) k) hG (calls := [(166, S166 k), (167, S167 k), (168, S168 k), (169, S169 k)]) ⟨ok166 hG k, ok167 hG k, ok168 hG k, ok169 hG k, trivial⟩ 5 rfl (S108 k) (congrFun e108 k)

/-- loop.example/g01402/laws.eqConnS -/
def F52 (k : Nat) (a0 : List D11) (a1 : List D11) : Option (Bool) :=
  (bif (!decide ((a0.length : Int) = (a1.length : Int))) then some false else (iter (σ := Int × Unit) (fun rec5 x4 => (bif (decide (x4.1 < (a0.length : Int))) then (bif (decide (0 ≤ x4.1 ∧ x4.1 < (a0.length : Int))) then (bif (decide (0 ≤ x4.1 ∧ x4.1 < (a1.length : Int))) then ((F108 k (a0.getD x4.1.toNat Z11) (a1.getD x4.1.toNat Z11)).bind fun r6 => (bif (!r6) then some false else (rec5 ((wrap64 (x4.1 + (1 : Int))), ())))) else none) else none) else some true)) k ((0 : Int), ())))
def S52 (k : Nat) : CSpec := { params := [(.slice U11), (.slice U11)], res := [(.bool, false)], fresh := true, sem := fun x => F52 k x.1 x.2.1 }
theorem e52 : (fun k => evFn ((T (fun _ _ => ⟨[5], [], [], false⟩) k).cx [(108, S108 k)]) 5 Tryz.f52 (S52 0).params (S52 0).res true) = fun k => (S52 k).sem := by kernel_rfl
theorem ok52 {G : World → Prop} (hG : Lasts G) (k : Nat) : (S52 k).ok Tryz.prog G 52 := fn_ok (T_ok (fun _ _ => ⟨[5], [], [], false⟩) k) hG (calls := [(108, S108 k)]) ⟨ok108 hG k, trivial⟩ 5 rfl (S52 k) (congrFun e52 k)

/-- loop.example/g01402/laws.eqSlot -/
def F202 (k : Nat) (a0 : D3) (a1 : D3) : Option (Bool) :=
  ((F167 k a0.1 a1.1).bind fun r1 => (bif (!r1) then some false else (bif (!(a0.2 == a1.2)) then some false else some true)))
def S202 (k : Nat) : CSpec := { params := [U3, U3], res := [(.bool, false)], fresh := true, sem := fun x => F202 k x.1 x.2.1 }
theorem e202 : (fun k => evFn ((T (fun _ _ => ⟨[], [], [], false⟩) k).cx [(167, S167 k)]) 5 Tryz.f202 (S202 0).params (S202 0).res true) = fun k => (S202 k).sem := by kernel_rfl
theorem ok202 {G : World → Prop} (hG : Lasts G) (k : Nat) : (S202 k).ok Tryz.prog G 202 := fn_ok (T_ok (fun _ _ => ⟨[], [], [], false⟩) k) hG (calls := [(167, S167 k)]) ⟨ok167 hG k, trivial⟩ 5 rfl (S202 k) (congrFun e202 k)

/-- loop.example/g01402/laws.eqSlotS -/
def F170 (k : Nat) (a0 : List D3) (a1 : List D3) : Option (Bool) :=
  (bif (!decide ((a0.length : Int) = (a1.length : Int))) then some false else (iter (σ := Int × Unit) (fun rec5 x4 => (bif (decide (x4.1 < (a0.length : Int))) then (bif (decide (0 ≤ x4.1 ∧ x4.1 < (a0.length : Int))) then (bif (decide (0 ≤ x4.1 ∧ x4.1 < (a1.length : Int))) then ((F202 k (a0.getD x4.1.toNat Z3) (a1.getD x4.1.toNat Z3)).bind fun r6 => (bif (!r6) then some false else (rec5 ((wrap64 (x4.1 + (1 : Int))), ())))) else none) else none) else some true)) k ((0 : Int), ())))
def S170 (k : Nat) : CSpec := { params := [(.slice U3), (.slice U3)], res := [(.bool, false)], fresh := true, sem := fun x => F170 k x.1 x.2.1 }
theorem e170 : (fun k => evFn ((T (fun _ _ => ⟨[5], [], [], false⟩) k).cx [(202, S202 k)]) 5 Tryz.f170 (S170 0).params (S170 0).res true) = fun k => (S170 k).sem := by kernel_rfl
theorem ok170 {G : World → Prop} (hG : Lasts G) (k : Nat) : (S170 k).ok Tryz.prog G 170 := fn_ok (T_ok (fun _ _ => ⟨[5], [], [], false⟩) k) hG (calls := [(202, S202 k)]) ⟨ok202 hG k, trivial⟩ 5 rfl (S170 k) (congrFun e170 k)

/-- loop.example/g01402/laws.eqShard -/
def F111 (k : Nat) (a0 : D4) (a1 : D4) : Option (Bool) :=
  (bif (!decide (a0.1 = a1.1)) then some false else (bif (!decide (a0.2.1 = a1.2.1)) then some false else ((F170 k a0.2.2.1 a1.2.2.1).bind fun r1 => (bif (!r1) then some false else (bif (!decide (a0.2.2.2 = a1.2.2.2)) then some false else some true)))))
def S111 (k : Nat) : CSpec := { params := [U4, U4], res := [(.bool, false)], fresh := true, sem := fun x => F111 k x.1 x.2.1 }
theorem e111 : (fun k => evFn ((T (fun _ _ => ⟨[], [], [], false⟩) k).cx [(170, S170 k)]) 5 Tryz.f111 (S111 0).params (S111 0).res true) = fun k => (S111 k).sem := by kernel_rfl
theorem ok111 {G : World → Prop} (hG : Lasts G) (k : Nat) : (S111 k).ok Tryz.prog G 111 := fn_ok (T_ok (fun _ _ => ⟨[], [], [], false⟩) k) hG (calls := [(170, S170 k)]) ⟨ok170 hG k, trivial⟩ 5 rfl (S111 k) (congrFun e111 k)

/-- loop.example/g01402/laws.eqShardS -/
def F55 (k : Nat) (a0 : List D4) (a1 : List D4) : Option (Bool) :=
  (bif (!decide ((a0.length : Int) = (a1.length : Int))) then some false else (iter (σ := Int × Unit) (fun rec5 x4 => (bif (decide (x4.1 < (a0.length : Int))) then (bif (decide (0 ≤ x4.1 ∧ x4.1 < (a0.length : Int))) then (bif (decide (0 ≤ x4.1 ∧ x4.1 < (a1.length : Int))) then ((F111 k (a0.getD x4.1.toNat Z4) (a1.getD x4.1.toNat Z4)).bind fun r6 => (bif (!r6) then some false else (rec5 ((wrap64 (x4.1 + (1 : Int))), ())))) else none) else none) else some true)) k ((0 : Int), ())))
def S55 (k : Nat) : CSpec := { params := [(.slice U4), (.slice U4)], res := [(.bool, false)], fresh := true, sem := fun x => F55 k x.1 x.2.1 }
theorem e55 : (fun k => evFn ((T (fun _ _ => ⟨[5], [], [], false⟩) k).cx [(111, S111 k)]) 5 Tryz.f55 (S55 0).params (S55 0).res true) = fun k => (S55 k).sem := by kernel_rfl
theorem ok55 {G : World → Prop} (hG : Lasts G) (k : Nat) : (S55 k).ok Tryz.prog G 55 := fn_ok (T_ok (fun _ _ => ⟨[5], [], [], false⟩) k) hG (calls := [(111, S111 k)]) ⟨ok111 hG k, trivial⟩ 5 rfl (S55 k) (congrFun e55 k)

/-- loop.example/g01402/laws.eqGenRow -/
def F112 (k : Nat) (a0 : D5) (a1 : D5) : Option (Bool) :=
  (bif (!decide (a0.1 = a1.1)) then some false else (bif (!decide (a0.2 = a1.2)) then some false else some true))
def S112 (k : Nat) : CSpec := { params := [U5, U5], res := [(.bool, false)], fresh := true, sem := fun x => F112 k x.1 x.2.1 }
theorem e112 : (fun k => evFn ((T (fun _ _ => ⟨[], [], [], false⟩) k).cx []) 5 Tryz.f112 (S112 0).params (S112 0).res true) = fun k => (S112 k).sem := by kernel_rfl
theorem ok112 {G : World → Prop} (hG : Lasts G) (k : Nat) : (S112 k).ok Tryz.prog G 112 := fn_ok (T_ok (fun _ _ => ⟨[], [], [], false⟩) k) hG (calls := []) trivial 5 rfl (S112 k) (congrFun e112 k)

/-- loop.example/g01402/laws.eqGenRowS -/
def F56 (k : Nat) (a0 : List D5) (a1 : List D5) : Option (Bool) :=
  (bif (!decide ((a0.length : Int) = (a1.length : Int))) then some false else (iter (σ := Int × Unit) (fun rec5 x4 => (bif (decide (x4.1 < (a0.length : Int))) then (bif (decide (0 ≤ x4.1 ∧ x4.1 < (a0.length : Int))) then (bif (decide (0 ≤ x4.1 ∧ x4.1 < (a1.length : Int))) then ((F112 k (a0.getD x4.1.toNat Z5) (a1.getD x4.1.toNat Z5)).bind fun r6 => (bif (!r6) then some false else (rec5 ((wrap64 (x4.1 + (1 : Int))), ())))) else none) else none) else some true)) k ((0 : Int), ())))
def S56 (k : Nat) : CSpec := { params := [(.slice U5), (.slice U5)], res := [(.bool, false)], fresh := true, sem := fun x => F56 k x.1 x.2.1 }
theorem e56 : (fun k => evFn ((T (fun _ _ => ⟨[5], [], [], false⟩) k).cx [(112, S112 k)]) 5 Tryz.f56 (S56 0).params (S56 0).res true) = fun k => (S56 k).sem := by kernel_rfl
theorem ok56 {G : World → Prop} (hG : Lasts G) (k : Nat) : (S56 k).ok Tryz.prog G 56 := fn_ok (T_ok (fun _ _ => ⟨[5], [], [], false⟩) k) hG (calls := [(112, S112 k)]) ⟨ok112 hG k, trivial⟩ 5 rfl (S56 k) (congrFun e56 k)

/-- loop.example/g01402/laws.eqCache -/
def F17 (k : Nat) (a0 : D6) (a1 : D6) : Option (Bool) :=
  ((F55 k a0.1 a1.1).bind fun r1 => (bif (!r1) then some false else ((F56 k a0.2 a1.2).bind fun r2 => (bif (!r2) then some false else some true))))
def S17 (k : Nat) : CSpec := { params := [U6, U6], res := [(.bool, false)], fresh := true, sem := fun x => F17 k x.1 x.2.1 }
theorem e17 : (fun k => evFn ((T (fun _ _ => ⟨[], [], [], false⟩) k).cx [(55, S55 k), (56, S56 k)]) 5 Tryz.f17 (S17 0).params (S17 0).res true) = fun k => (S17 k).sem := by kernel_rfl
theorem ok17 {G : World → Prop} (hG : Lasts G) (k : Nat) : (S17 k).ok Tryz.prog G 17 := fn_ok (T_ok (fun _ _ => ⟨[], [], [], false⟩) k) hG (calls := [(55, S55 k), (56, S56 k)]) ⟨ok55 hG k, ok56 hG k, trivial⟩ 5 rfl (S17 k) (congrFun e17 k)

/-- loop.example/g01402/laws.eqFlight -/
def F109 (k : Nat) (a0 : D12) (a1 : D12) : Option (Bool) :=
  (bif (!decide (a0.1 = a1.1)) then some false else (bif (!(a0.2.1 == a1.2.1)) then some false else (bif (!decide (a0.2.2.1 = a1.2.2.1)) then some false else (bif (!(a0.2.2.2.1 == a1.2.2.2.1)) then some false else (bif (!(a0.2.2.2.2.1 == a1.2.2.2.2.1)) then some false else ((F166 k a0.2.2.2.2.2.1 a1.2.2.2.2.2.1).bind fun r1 => (bif (!r1) then some false else ((F168 k a0.2.2.2.2.2.2.1 a1.2.2.2.2.2.2.1).bind fun r2 => (bif (!r2) then some false else (bif (!decide (a0.2.2.2.2.2.2.2.1 = a1.2.2.2.2.2.2.2.1)) then some false else (bif (!decide (a0.2.2.2.2.2.2.2.2 = a1.2.2.2.2.2.2.2.2)) then some false else some true)))))))))))
def S109 (k : Nat) : CSpec := { params := [U12, U12], res := [(.bool, false)], fresh := true, sem := fun x => F109 k x.1 x.2.1 }
theorem e109 : (fun k => evFn ((T (fun _ _ => ⟨[], [], [], false⟩) k).cx [(166, S166 k), (168, S168 k)]) 5 Tryz.f109 (S109 0).params (S109 0).res true) = fun k => (S109 k).sem := by kernel_rfl
theorem ok109 {G : World → Prop} (hG : Lasts G) (k : Nat) : (S109 k).ok Tryz.prog G 109 := fn_ok (T_ok (fun _ _ => ⟨[], [], [], false⟩) k) hG (calls := [(166, S166 k), (168, S168 k)]) ⟨ok166 hG k, ok168 hG k, trivial⟩ 5 rfl (S109 k) (congrFun e109 k)

/-- loop.example/g01402/laws.eqFlightS -/
def F53 (k : Nat) (a0 : List D12) (a1 : List D12) : Option (Bool) :=
  (bif (!decide ((a0.length : Int) = (a1.length : Int))) then some false else (iter (σ := Int × Unit) (fun rec5 x4 => (bif (decide (x4.1 < (a0.length : Int))) then (bif (decide (0 ≤ x4.1 ∧ x4.1 < (a0.length : Int))) then (bif (decide (0 ≤ x4.1 ∧ x4.1 < (a1.length : Int))) then ((F109 k (a0.getD x4.1.toNat Z12) (a1.getD x4.1.toNat Z12)).bind fun r6 => (bif (!r6) then some false else (rec5 ((wrap64 (x4.1 + (1 : Int))), ())))) else none) else none) else some true)) k ((0 : Int), ())))
def S53 (k : Nat) : CSpec := { params := [(.slice U12), (.slice U12)], res := [(.bool, false)], fresh := true, sem := fun x => F53 k x.1 x.2.1 }
theorem e53 : (fun k => evFn ((T (fun _ _ => ⟨[5], [], [], false⟩) k).cx [(109, S109 k)]) 5 Tryz.f53 (S53 0).params (S53 0).res true) = fun k => (S53 k).sem := by kernel_rfl
theorem ok53 {G : World → Prop} (hG : Lasts G) (k : Nat) : (S53 k).ok Tryz.prog G 53 := fn_ok (T_ok (fun _ _ => ⟨[5], [], [], false⟩) k) hG (calls := [(109, S109 k)]) ⟨ok109 hG k, trivial⟩ 5 rfl (S53 k) (congrFun e53 k)

/-- loop.example/g01402/laws.eqRes -/
def F113 (k : Nat) (a0 : D7) (a1 : D7) : Option (Bool) :=
  (bif (!decide (a0.1 = a1.1)) then some false else (bif (!decide (a0.2.1 = a1.2.1)) then some false else (bif (!decide (a0.2.2.1 = a1.2.2.1)) then some false else (bif (!decide (a0.2.2.2.1 = a1.2.2.2.1)) then some false else (bif (!(a0.2.2.2.2.1 == a1.2.2.2.2.1)) then some false else (bif (!(a0.2.2.2.2.2.1 == a1.2.2.2.2.2.1)) then some false else ((F171 k a0.2.2.2.2.2.2 a1.2.2.2.2.2.2).bind fun r1 => (bif (!r1) then some false else some true))))))))
def S113 (k : Nat) : CSpec := { params := [U7, U7], res := [(.bool, false)], fresh := true, sem := fun x => F113 k x.1 x.2.1 }
theorem e113 : (fun k => evFn ((T (fun _ _ => ⟨[], [], [], false⟩) k).cx [(171, S171 k)]) 5 Tryz.f113 (S113 0).params (S113 0).res true) = fun k => (S113 k).sem := by kernel_rfl
theorem ok113 {G : World → Prop} (hG : Lasts G) (k : Nat) : (S113 k).ok Tryz.prog G 113 := fn_ok (T_ok (fun _ _ => ⟨[], [], [], false⟩) k) hG (calls := [(171, S171 k)]) ⟨ok171 hG k, trivial⟩ 5 rfl (S113 k) (congrFun e113 k)

/-- loop.example/g01402/laws.eqResS -/
def F57 (k : Nat) (a0 : List D7) (a1 : List D7) : Option (Bool) :=
  (bif (!decide ((a0.length : Int) = (a1.length : Int))) then some false else (iter (σ := Int × Unit) (fun rec5 x4 => (bif (decide (x4.1 < (a0.length : Int))) then (bif (decide (0 ≤ x4.1 ∧ x4.1 < (a0.length : Int))) then (bif (decide (0 ≤ x4.1 ∧ x4.1 < (a1.length : Int))) then ((F113 k (a0.getD x4.1.toNat Z7) (a1.getD x4.1.toNat Z7)).bind fun r6 => (bif (!r6) then some false else (rec5 ((wrap64 (x4.1 + (1 : Int))), ())))) else none) else none) else some true)) k ((0 : Int), ())))
def S57 (k : Nat) : CSpec := { params := [(.slice U7), (.slice U7)], res := [(.bool, false)], fresh := true, sem := fun x => F57 k x.1 x.2.1 }
theorem e57 : (fun k => evFn ((T (fun _ _ => ⟨[5], [], [], false⟩) k).cx [(113, S113 k)]) 5 Tryz.f57 (S57 0).params (S57 0).res true) = fun k => (S57 k).sem := by kernel_rfl
theorem ok57 {G : World → Prop} (hG : Lasts G) (k : Nat) : (S57 k).ok Tryz.prog G 57 := fn_ok (T_ok (fun _ _ => ⟨[5], [], [], false⟩) k) hG (calls := [(113, S113 k)]) ⟨ok113 hG k, trivial⟩ 5 rfl (S57 k) (congrFun e57 k)

/-- loop.example/g01402/laws.eqOrigin -/
def F18 (k : Nat) (a0 : D8) (a1 : D8) : Option (Bool) :=
  ((F57 k a0 a1).bind fun r1 => (bif (!r1) then some false else some true))
def S18 (k : Nat) : CSpec := { params := [U8, U8], res := [(.bool, false)], fresh := true, sem := fun x => F18 k x.1 x.2.1 }
theorem e18 : (fun k => evFn ((T (fun _ _ => ⟨[], [], [], false⟩) k).cx [(57, S57 k)]) 5 Tryz.f18 (S18 0).params (S18 0).res true) = fun k => (S18 k).sem := by kernel_rfl
theorem ok18 {G : World → Prop} (hG : Lasts G) (k : Nat) : (S18 k).ok Tryz.prog G 18 := fn_ok (T_ok (fun _ _ => ⟨[], [], [], false⟩) k) hG (calls := [(57, S57 k)]) ⟨ok57 hG k, trivial⟩ 5 rfl (S18 k) (congrFun e18 k)

/-- loop.example/g01402/laws.eqEvent -/
def F110 (k : Nat) (a0 : D13) (a1 : D13) : Option (Bool) :=
  (bif (!decide (a0.1 = a1.1)) then some false else (bif (!decide (a0.2.1 = a1.2.1)) then some false else (bif (!decide (a0.2.2.1 = a1.2.2.1)) then some false else (bif (!decide (a0.2.2.2.1 = a1.2.2.2.1)) then some false else (bif (!decide (a0.2.2.2.2.1 = a1.2.2.2.2.1)) then some false else (bif (!decide (a0.2.2.2.2.2 = a1.2.2.2.2.2)) then some false else some true))))))
def S110 (k : Nat) : CSpec := { params := [U13, U13], res := [(.bool, false)], fresh := true, sem := fun x => F110 k x.1 x.2.1 }
theorem e110 : (fun k => evFn ((T (fun _ _ => ⟨[], [], [], false⟩) k).cx []) 5 Tryz.f110 (S110 0).params (S110 0).res true) = fun k => (S110 k).sem := by kernel_rfl
theorem ok110 {G : World → Prop} (hG : Lasts G) (k : Nat) : (S110 k).ok Tryz.prog G 110 := fn_ok (T_ok (fun _ _ => ⟨[], [], [], false⟩) k) hG (calls := []) trivial 5 rfl (S110 k) (congrFun e110 k)

/-- loop.example/g01402/laws.eqEventS -/
def F54 (k : Nat) (a0 : List D13) (a1 : List D13) : Option (Bool) :=
  (bif (!decide ((a0.length : Int) = (a1.length : Int))) then some false else (iter (σ := Int × Unit) (fun rec5 x4 => (bif (decide (x4.1 < (a0.length : Int))) then (bif (decide (0 ≤ x4.1 ∧ x4.1 < (a0.length : Int))) then (bif (decide (0 ≤ x4.1 ∧ x4.1 < (a1.length : Int))) then ((F110 k (a0.getD x4.1.toNat Z13) (a1.getD x4.1.toNat Z13)).bind fun r6 => (bif (!r6) then some false else (rec5 ((wrap64 (x4.1 + (1 : Int))), ())))) else none) else none) else some true)) k ((0 : Int), ())))
def S54 (k : Nat) : CSpec := { params := [(.slice U13), (.slice U13)], res := [(.bool, false)], fresh := true, sem := fun x => F54 k x.1 x.2.1 }
theorem e54 : (fun k => evFn ((T (fun _ _ => ⟨[5], [], [], false⟩) k).cx [(110, S110 k)]) 5 Tryz.f54 (S54 0).params (S54 0).res true) = fun k => (S54 k).sem := by kernel_rfl
theorem ok54 {G : World → Prop} (hG : Lasts G) (k : Nat) : (S54 k).ok Tryz.prog G 54 := fn_ok (T_ok (fun _ _ => ⟨[5], [], [], false⟩) k) hG (calls := [(110, S110 k)]) ⟨ok110 hG k, trivial⟩ 5 rfl (S54 k) (congrFun e54 k)

/-- loop.example/g01402/laws.eqWorld -/
def F15 (k : Nat) (a0 : D14) (a1 : D14) : Option (Bool) :=
  (bif (!decide (a0.1 = a1.1)) then some false else (bif (!decide (a0.2.1 = a1.2.1)) then some false else ((F52 k a0.2.2.1 a1.2.2.1).bind fun r1 => (bif (!r1) then some false else ((F17 k a0.2.2.2.1 a1.2.2.2.1).bind fun r2 => (bif (!r2) then some false else ((F53 k a0.2.2.2.2.1 a1.2.2.2.2.1).bind fun r3 => (bif (!r3) then some false else ((F18 k a0.2.2.2.2.2.1 a1.2.2.2.2.2.1).bind fun r4 => (bif (!r4) then some false else ((F54 k a0.2.2.2.2.2.2 a1.2.2.2.2.2.2).bind fun r5 => (bif (!r5) then some false else some true))))))))))))
def S15 (k : Nat) : CSpec := { params := [U14, U14], res := [(.bool, false)], fresh := true, sem := fun x => F15 k x.1 x.2.1 }
theorem e15 : (fun k => evFn ((T (fun _ _ => ⟨[], [], [], false⟩) k).cx [(17, S17 k), (18, S18 k), (52, S52 k), (53, S53 k), (54, S54 k)]) 5 Tryz.f15 (S15 0).params (S15 0).res true) = fun k => (S15 k).sem := by kernel_rfl
theorem ok15 {G : World → Prop} (hG : Lasts G) (k : Nat) : (S15 k).ok Tryz.prog G 15 := fn_ok (T_ok (fun _ _ => ⟨[], [], [], false⟩) k) hG (calls := [(17, S17 k), (18, S18 k), (52, S52 k), (53, S53 k), (54, S54 k)]) ⟨ok17 hG k, ok18 hG k, ok52 hG k, ok53 hG k, ok54 hG k, trivial⟩ 5 rfl (S15 k) (congrFun e15 k)

/-- loop.example/g01402/laws.eqStringS -/
def F16 (k : Nat) (a0 : List ByteArray) (a1 : List ByteArray) : Option (Bool) :=
  (bif (!decide ((a0.length : Int) = (a1.length : Int))) then some false else (iter (σ := Int × Unit) (fun rec4 x3 => (bif (decide (x3.1 < (a0.length : Int))) then (bif (decide (0 ≤ x3.1 ∧ x3.1 < (a0.length : Int))) then (bif (decide (0 ≤ x3.1 ∧ x3.1 < (a1.length : Int))) then (bif (!decide ((a0.getD x3.1.toNat (ByteArray.mk #[])) = (a1.getD x3.1.toNat (ByteArray.mk #[])))) then some false else (rec4 ((wrap64 (x3.1 + (1 : Int))), ()))) else none) else none) else some true)) k ((0 : Int), ())))
def S16 (k : Nat) : CSpec := { params := [(.slice .str), (.slice .str)], res := [(.bool, false)], fresh := true, sem := fun x => F16 k x.1 x.2.1 }
theorem e16 : (fun k => evFn ((T (fun _ _ => ⟨[5], [], [], false⟩) k).cx []) 5 Tryz.f16 (S16 0).params (S16 0).res true) = fun k => (S16 k).sem := by kernel_rfl
theorem ok16 {G : World → Prop} (hG : Lasts G) (k : Nat) : (S16 k).ok Tryz.prog G 16 := fn_ok (T_ok (fun _ _ => ⟨[5], [], [], false⟩) k) hG (calls := []) trivial 5 rfl (S16 k) (congrFun e16 k)

/-- loop.example/g01402/laws.markText -/
def F58 (k : Nat) (a0 : Int) : Option (ByteArray) :=
  (bif (decide (a0 ≤ (0 : Int))) then some (ByteArray.mk #[109, 48]) else (iter (σ := Int × ByteArray × Unit) (fun rec4 x3 => (bif (decide ((0 : Int) < x3.1)) then (bif (decide ((10 : Int) = 0)) then none else (bif (decide ((strOf ([(wr .u8 ((wrap64 ((48 : Int) + (x3.1.tmod (10 : Int))))))] : List Int)).size + x3.2.1.size < mostText)) then (bif (decide ((10 : Int) = 0)) then none else (rec4 ((wrap64 (x3.1.tdiv (10 : Int))), ((strOf ([(wr .u8 ((wrap64 ((48 : Int) + (x3.1.tmod (10 : Int))))))] : List Int)) ++ x3.2.1), ()))) else none)) else (bif (decide ((ByteArray.mk #[109]).size + x3.2.1.size < mostText)) then some ((ByteArray.mk #[109]) ++ x3.2.1) else none))) k (a0, (ByteArray.mk #[]), ())))
def S58 (k : Nat) : CSpec := { params := [(.int .i64)], res := [(.str, false)], fresh := true, sem := fun x => F58 k x.1 }
theorem e58 : (fun k => evFn ((T (fun _ _ => ⟨[0, 3], [], [], false⟩) k).cx []) 5 Tryz.f58 (S58 0).params (S58 0).res true) = fun k => (S58 k).sem := by kernel_rfl
theorem ok58 {G : World → Prop} (hG : Lasts G) (k : Nat) : (S58 k).ok Tryz.prog G 58 := fn_ok (T_ok (fun _ _ => ⟨[0, 3], [], [], false⟩) k) hG (calls := []) trivial 5 rfl (S58 k) (congrFun e58 k)

/-- loop.example/g01402/laws.heldFieldS -/
def F117 (k : Nat) (a0 : List D0) (a1 : Int) : Option (Int) :=
  (iter (σ := Int × Int × Unit) (fun rec6 x5 => (bif (decide (x5.2.1 < (a0.length : Int))) then (bif (decide (0 ≤ x5.2.1 ∧ x5.2.1 < (a0.length : Int))) then ((F58 k x5.1).bind fun r7 => (bif (!decide ((a0.getD x5.2.1.toNat Z0).1 = r7)) then some (-1 : Int) else (bif (decide (0 ≤ x5.2.1 ∧ x5.2.1 < (a0.length : Int))) then ((F58 k (wrap64 (x5.1 + (1 : Int)))).bind fun r8 => (bif (!decide ((a0.getD x5.2.1.toNat Z0).2 = r8)) then some (-1 : Int) else (rec6 ((wrap64 ((wrap64 (x5.1 + (1 : Int))) + (1 : Int))), (wrap64 (x5.2.1 + (1 : Int))), ())))) else none))) else none) else some x5.1)) k (a1, (0 : Int), ()))
def S117 (k : Nat) : CSpec := { params := [(.slice U0), (.int .i64)], res := [((.int .i64), false)], fresh := true, sem := fun x => F117 k x.1 x.2.1 }
theorem e117 : (fun k => evFn ((T (fun _ _ => ⟨[1, 5], [], [], false⟩) k).cx [(58, S58 k)]) 5 Tryz.f117 (S117 0).params (S117 0).res true) = fun k => (S117 k).sem := by kernel_rfl
theorem ok117 {G : World → Prop} (hG : Lasts G) (k : Nat) : (S117 k).ok Tryz.prog G 117 := fn_ok (T_ok (fun _ _ => ⟨[1, 5], [], [], false⟩) k) hG (calls := [(58, S58 k)]) ⟨ok58 hG k, trivial⟩ 5 rfl (S117 k) (congrFun e117 k)

/-- loop.example/g01402/laws.heldToldS -/
def F118 (k : Nat) (a0 : List D10) (a1 : Int) : Option (Int) :=
  (iter (σ := Int × Int × Unit) (fun rec6 x5 => (bif (decide (x5.2.1 < (a0.length : Int))) then (bif (decide (0 ≤ x5.2.1 ∧ x5.2.1 < (a0.length : Int))) then (bif (!decide ((a0.getD x5.2.1.toNat Z10).1 = x5.1)) then some (-1 : Int) else (bif (decide (0 ≤ x5.2.1 ∧ x5.2.1 < (a0.length : Int))) then (bif (!decide ((a0.getD x5.2.1.toNat Z10).2.1 = (wrap64 (x5.1 + (1 : Int))))) then some (-1 : Int) else (bif (decide (0 ≤ x5.2.1 ∧ x5.2.1 < (a0.length : Int))) then ((F117 k (a0.getD x5.2.1.toNat Z10).2.2.1 (wrap64 ((wrap64 (x5.1 + (1 : Int))) + (1 : Int)))).bind fun r7 => (bif (decide (r7 < (0 : Int))) then some (-1 : Int) else (bif (decide (0 ≤ x5.2.1 ∧ x5.2.1 < (a0.length : Int))) then ((F58 k r7).bind fun r8 => (bif (!decide ((a0.getD x5.2.1.toNat Z10).2.2.2 = r8)) then some (-1 : Int) else (rec6 ((wrap64 (r7 + (1 : Int))), (wrap64 (x5.2.1 + (1 : Int))), ())))) else none))) else none)) else none)) else none) else some x5.1)) k (a1, (0 : Int), ()))
def S118 (k : Nat) : CSpec := { params := [(.slice U10), (.int .i64)], res := [((.int .i64), false)], fresh := true, sem := fun x => F118 k x.1 x.2.1 }
theorem e118 : (fun k => evFn ((T (fun _ _ => ⟨[1, 5], [], [], false⟩) k).cx [(58, S58 k), (117, S117 k)]) 5 Tryz.f118 (S118 0).params (S118 0).res true) = fun k => (S118 k).sem := by kernel_rfl
theorem ok118 {G : World → Prop} (hG : Lasts G) (k : Nat) : (S118 k).ok Tryz.prog G 118 := fn_ok (T_ok (fun _ _ => ⟨[1, 5], [], [], false⟩) k) hG (calls := [(58, S58 k), (117, S117 k)]) ⟨ok58 hG k, ok117 hG k, trivial⟩ 5 rfl (S118 k) (congrFun e118 k)

/-- loop.example/g01402/laws.heldConnS -/
def F65 (k : Nat) (a0 : List D11) (a1 : Int) : Option (Int) :=
  (iter (σ := Int × Int × Unit) (fun rec20 x19 => (bif (decide (x19.2.1 < (a0.length : Int))) then (bif (decide (0 ≤ x19.2.1 ∧ x19.2.1 < (a0.length : Int))) then (bif (!decide ((a0.getD x19.2.1.toNat Z11).1 = x19.1)) then some (-1 : Int) else (bif (decide (0 ≤ x19.2.1 ∧ x19.2.1 < (a0.length : Int))) then ((F58 k (wrap64 (x19.1 + (1 : Int)))).bind fun r21 => (bif (!decide ((a0.getD x19.2.1.toNat Z11).2.1 = r21)) then some (-1 : Int) else (bif (decide (0 ≤ x19.2.1 ∧ x19.2.1 < (a0.length : Int))) then (bif (!decide ((a0.getD x19.2.1.toNat Z11).2.2.1 = (wrap64 ((wrap64 (x19.1 + (1 : Int))) + (1 : Int))))) then some (-1 : Int) else (bif (decide (0 ≤ x19.2.1 ∧ x19.2.1 < (a0.length : Int))) then ((F58 k (wrap64 ((wrap64 ((wrap64 (x19.1 + (1 : Int))) + (1 : Int))) + (1 : Int)))).bind fun r22 => (bif (!decide ((a0.getD x19.2.1.toNat Z11).2.2.2.1.1 = r22)) then some (-1 : Int) else (bif (decide (0 ≤ x19.2.1 ∧ x19.2.1 < (a0.length : Int))) then ((F58 k (wrap64 ((wrap64 ((wrap64 ((wrap64 (x19.1 + (1 : Int))) + (1 : Int))) + (1 : Int))) + (1 : Int)))).bind fun r23 => (bif (!decide ((a0.getD x19.2.1.toNat Z11).2.2.2.1.2.1 = r23)) then some (-1 : Int) else (bif (decide (0 ≤ x19.2.1 ∧ x19.2.1 < (a0.length : Int))) then ((F117 k (a0.getD x19.2.1.toNat Z11).2.2.2.1.2.2.1 (wrap64 ((wrap64 ((wrap64 ((wrap64 ((wrap64 (x19.1 + (1 : Int))) + (1 : Int))) + (1 : Int))) + (1 : Int))) + (1 : Int)))).bind fun r24 => (bif (decide (r24 < (0 : Int))) then some (-1 : Int) else (bif (decide (0 ≤ x19.2.1 ∧ x19.2.1 < (a0.length : Int))) then ((F58 k r24).bind fun r25 => (bif (!decide ((a0.getD x19.2.1.toNat Z11).2.2.2.1.2.2.2 = r25)) then some (-1 : Int) else (bif (decide (0 ≤ x19.2.1 ∧ x19.2.1 < (a0.length : Int))) then ((F58 k (wrap64 (r24 + (1 : Int)))).bind fun r26 => (bif (!decide ((a0.getD x19.2.1.toNat Z11).2.2.2.2.1.1 = r26)) then some (-1 : Int) else (bif (decide (0 ≤ x19.2.1 ∧ x19.2.1 < (a0.length : Int))) then ((F58 k (wrap64 ((wrap64 (r24 + (1 : Int))) + (1 : Int)))).bind fun r27 => (bif (!decide ((a0.getD x19.2.1.toNat Z11).2.2.2.2.1.2.1 = r27)) then some (-1 : Int) else (bif (decide (0 ≤ x19.2.1 ∧ x19.2.1 < (a0.length : Int))) then ((F117 k (a0.getD x19.2.1.toNat Z11).2.2.2.2.1.2.2.1 (wrap64 ((wrap64 ((wrap64 (r24 + (1 : Int))) + (1 : Int))) + (1 : Int)))).bind fun r28 => (bif (decide (r28 < (0 : Int))) then some (-1 : Int) else (bif (decide (0 ≤ x19.2.1 ∧ x19.2.1 < (a0.length : Int))) then ((F58 k r28).bind fun r29 => (bif (!decide ((a0.getD x19.2.1.toNat Z11).2.2.2.2.1.2.2.2 = r29)) then some (-1 : Int) else (bif (decide (0 ≤ x19.2.1 ∧ x19.2.1 < (a0.length : Int))) then ((F58 k (wrap64 (r28 + (1 : Int)))).bind fun r30 => (bif (!decide ((a0.getD x19.2.1.toNat Z11).2.2.2.2.2.1.1 = r30)) then some (-1 : Int) else (bif (decide (0 ≤ x19.2.1 ∧ x19.2.1 < (a0.length : Int))) then ((F117 k (a0.getD x19.2.1.toNat Z11).2.2.2.2.2.1.2.1 (wrap64 ((wrap64 (r28 + (1 : Int))) + (1 : Int)))).bind fun r31 => (bif (decide (r31 < (0 : Int))) then some (-1 : Int) else (bif (decide (0 ≤ x19.2.1 ∧ x19.2.1 < (a0.length : Int))) then (bif (!decide ((a0.getD x19.2.1.toNat Z11).2.2.2.2.2.1.2.2.1.1 = r31)) then some (-1 : Int) else (bif (decide (0 ≤ x19.2.1 ∧ x19.2.1 < (a0.length : Int))) then ((F117 k (a0.getD x19.2.1.toNat Z11).2.2.2.2.2.1.2.2.1.2.1 (wrap64 (r31 + (1 : Int)))).bind fun r32 => (bif (decide (r32 < (0 : Int))) then some (-1 : Int) else (bif (decide (0 ≤ x19.2.1 ∧ x19.2.1 < (a0.length : Int))) then ((F58 k r32).bind fun r33 => (bif (!decide ((a0.getD x19.2.1.toNat Z11).2.2.2.2.2.1.2.2.1.2.2 = r33)) then some (-1 : Int) else (bif (decide (0 ≤ x19.2.1 ∧ x19.2.1 < (a0.length : Int))) then (bif (!decide ((a0.getD x19.2.1.toNat Z11).2.2.2.2.2.1.2.2.2.1 = (wrap64 (r32 + (1 : Int))))) then some (-1 : Int) else (bif (decide (0 ≤ x19.2.1 ∧ x19.2.1 < (a0.length : Int))) then (bif (!decide ((a0.getD x19.2.1.toNat Z11).2.2.2.2.2.1.2.2.2.2 = (wrap64 ((wrap64 (r32 + (1 : Int))) + (1 : Int))))) then some (-1 : Int) else (bif (decide (0 ≤ x19.2.1 ∧ x19.2.1 < (a0.length : Int))) then (bif (decide ((3 : Int) = 0)) then none else (bif (!((a0.getD x19.2.1.toNat Z11).2.2.2.2.2.2.1 == (decide (((wrap64 ((wrap64 ((wrap64 (r32 + (1 : Int))) + (1 : Int))) + (1 : Int))).tmod (3 : Int)) = (0 : Int))))) then some (-1 : Int) else (bif (decide (0 ≤ x19.2.1 ∧ x19.2.1 < (a0.length : Int))) then (bif (!decide ((a0.getD x19.2.1.toNat Z11).2.2.2.2.2.2.2.1 = (wrap64 ((wrap64 ((wrap64 ((wrap64 (r32 + (1 : Int))) + (1 : Int))) + (1 : Int))) + (1 : Int))))) then some (-1 : Int) else (bif (decide (0 ≤ x19.2.1 ∧ x19.2.1 < (a0.length : Int))) then (bif (!decide ((a0.getD x19.2.1.toNat Z11).2.2.2.2.2.2.2.2.1 = (wrap64 ((wrap64 ((wrap64 ((wrap64 ((wrap64 (r32 + (1 : Int))) + (1 : Int))) + (1 : Int))) + (1 : Int))) + (1 : Int))))) then some (-1 : Int) else (bif (decide (0 ≤ x19.2.1 ∧ x19.2.1 < (a0.length : Int))) then (bif (!decide ((a0.getD x19.2.1.toNat Z11).2.2.2.2.2.2.2.2.2.1 = (wrap64 ((wrap64 ((wrap64 ((wrap64 ((wrap64 ((wrap64 (r32 + (1 : Int))) + (1 : Int))) + (1 : Int))) + (1 : Int))) + (1 : Int))) + (1 : Int))))) then some (-1 : Int) else (bif (decide (0 ≤ x19.2.1 ∧ x19.2.1 < (a0.length : Int))) then (bif (!decide ((a0.getD x19.2.1.toNat Z11).2.2.2.2.2.2.2.2.2.2.1 = (wrap64 ((wrap64 ((wrap64 ((wrap64 ((wrap64 ((wrap64 ((wrap64 (r32 + (1 : Int))) + (1 : Int))) + (1 : Int))) + (1 : Int))) + (1 : Int))) + (1 : Int))) + (1 : Int))))) then some (-1 : Int) else (bif (decide (0 ≤ x19.2.1 ∧ x19.2.1 < (a0.length : Int))) then (bif (decide ((3 : Int) = 0)) then none else (bif (!((a0.getD x19.2.1.toNat Z11).2.2.2.2.2.2.2.2.2.2.2.1 == (decide (((wrap64 ((wrap64 ((wrap64 ((wrap64 ((wrap64 ((wrap64 ((wrap64 ((wrap64 (r32 + (1 : Int))) + (1 : Int))) + (1 : Int))) + (1 : Int))) + (1 : Int))) + (1 : Int))) + (1 : Int))) + (1 : Int))).tmod (3 : Int)) = (0 : Int))))) then some (-1 : Int) else (bif (decide (0 ≤ x19.2.1 ∧ x19.2.1 < (a0.length : Int))) then (bif (!decide ((a0.getD x19.2.1.toNat Z11).2.2.2.2.2.2.2.2.2.2.2.2.1.1 = (wrap64 ((wrap64 ((wrap64 ((wrap64 ((wrap64 ((wrap64 ((wrap64 ((wrap64 ((wrap64 (r32 + (1 : Int))) + (1 : Int))) + (1 : Int))) + (1 : Int))) + (1 : Int))) + (1 : Int))) + (1 : Int))) + (1 : Int))) + (1 : Int))))) then some (-1 : Int) else (bif (decide (0 ≤ x19.2.1 ∧ x19.2.1 < (a0.length : Int))) then ((F117 k (a0.getD x19.2.1.toNat Z11).2.2.2.2.2.2.2.2.2.2.2.2.1.2.1 (wrap64 ((wrap64 ((wrap64 ((wrap64 ((wrap64 ((wrap64 ((wrap64 ((wrap64 ((wrap64 ((wrap64 (r32 + (1 : Int))) + (1 : Int))) + (1 : Int))) + (1 : Int))) + (1 : Int))) + (1 : Int))) + (1 : Int))) + (1 : Int))) + (1 : Int))) + (1 : Int)))).bind fun r34 => (bif (decide (r34 < (0 : Int))) then some (-1 : Int) else (bif (decide (0 ≤ x19.2.1 ∧ x19.2.1 < (a0.length : Int))) then ((F58 k r34).bind fun r35 => (bif (!decide ((a0.getD x19.2.1.toNat Z11).2.2.2.2.2.2.2.2.2.2.2.2.1.2.2 = r35)) then some (-1 : Int) else (bif (decide (0 ≤ x19.2.1 ∧ x19.2.1 < (a0.length : Int))) then ((F118 k (a0.getD x19.2.1.toNat Z11).2.2.2.2.2.2.2.2.2.2.2.2.2 (wrap64 (r34 + (1 : Int)))).bind fun r36 => (bif (decide (r36 < (0 : Int))) then some (-1 : Int) else (rec20 (r36, (wrap64 (x19.2.1 + (1 : Int))), ())))) else none))) else none))) else none)) else none))) else none)) else none)) else none)) else none)) else none))) else none)) else none)) else none))) else none))) else none)) else none))) else none))) else none))) else none))) else none))) else none))) else none))) else none))) else none))) else none))) else none)) else none))) else none)) else none) else some x19.1)) k (a1, (0 : Int), ()))
def S65 (k : Nat) : CSpec := { params := [(.slice U11), (.int .i64)], res := [((.int .i64), false)], fresh := true, sem := fun x => F65 k x.1 x.2.1 }
theorem e65 : (fun k => evFn ((T (fun _ _ => ⟨[1, 5], [], [], false⟩) k).cx [(58, S58 k), (117, S117 k), (118, S118 k)]) 5 Tryz.f65 (S65 0).params (S65 0).res true) = fun k => (S65 k).sem := by kernel_rfl
theorem ok65 {G : World → Prop} (hG : Lasts G) (k : Nat) : (S65 k).ok Tryz.prog G 65 := fn_ok (T_ok (fun _ _ => ⟨[1, 5], [], [], false⟩) k) hG (calls := [(58, S58 k), (117, S117 k), (118, S118 k)]) ⟨ok58 hG k, ok117 hG k, ok118 hG k, trivial⟩ 5 rfl (S65 k) (congrFun e65 k)

/-- loop.example/g01402/laws.heldSlotS -/
def F172 (k : Nat) (a0 : List D3) (a1 : Int) : Option (Int) :=
  (iter (σ := Int × Int × Unit) (fun rec8 x7 => (bif (decide (x7.2.1 < (a0.length : Int))) then (bif (decide (0 ≤ x7.2.1 ∧ x7.2.1 < (a0.length : Int))) then ((F58 k x7.1).bind fun r9 => (bif (!decide ((a0.getD x7.2.1.toNat Z3).1.1 = r9)) then some (-1 : Int) else (bif (decide (0 ≤ x7.2.1 ∧ x7.2.1 < (a0.length : Int))) then ((F117 k (a0.getD x7.2.1.toNat Z3).1.2.1 (wrap64 (x7.1 + (1 : Int)))).bind fun r10 => (bif (decide (r10 < (0 : Int))) then some (-1 : Int) else (bif (decide (0 ≤ x7.2.1 ∧ x7.2.1 < (a0.length : Int))) then (bif (!decide ((a0.getD x7.2.1.toNat Z3).1.2.2.1.1 = r10)) then some (-1 : Int) else (bif (decide (0 ≤ x7.2.1 ∧ x7.2.1 < (a0.length : Int))) then ((F117 k (a0.getD x7.2.1.toNat Z3).1.2.2.1.2.1 (wrap64 (r10 + (1 : Int)))).bind fun r11 => (bif (decide (r11 < (0 : Int))) then some (-1 : Int) else (bif (decide (0 ≤ x7.2.1 ∧ x7.2.1 < (a0.length : Int))) then ((F58 k r11).bind fun r12 => (bif (!decide ((a0.getD x7.2.1.toNat Z3).1.2.2.1.2.2 = r12)) then some (-1 : Int) else (bif (decide (0 ≤ x7.2.1 ∧ x7.2.1 < (a0.length : Int))) then (bif (!decide ((a0.getD x7.2.1.toNat Z3).1.2.2.2.1 = (wrap64 (r11 + (1 : Int))))) then some (-1 : Int) else (bif (decide (0 ≤ x7.2.1 ∧ x7.2.1 < (a0.length : Int))) then (bif (!decide ((a0.getD x7.2.1.toNat Z3).1.2.2.2.2 = (wrap64 ((wrap64 (r11 + (1 : Int))) + (1 : Int))))) then some (-1 : Int) else (bif (decide (0 ≤ x7.2.1 ∧ x7.2.1 < (a0.length : Int))) then (bif (decide ((3 : Int) = 0)) then none else (bif (!((a0.getD x7.2.1.toNat Z3).2 == (decide (((wrap64 ((wrap64 ((wrap64 (r11 + (1 : Int))) + (1 : Int))) + (1 : Int))).tmod (3 : Int)) = (0 : Int))))) then some (-1 : Int) else (rec8 ((wrap64 ((wrap64 ((wrap64 ((wrap64 (r11 + (1 : Int))) + (1 : Int))) + (1 : Int))) + (1 : Int))), (wrap64 (x7.2.1 + (1 : Int))), ())))) else none)) else none)) else none))) else none))) else none)) else none))) else none))) else none) else some x7.1)) k (a1, (0 : Int), ()))
def S172 (k : Nat) : CSpec := { params := [(.slice U3), (.int .i64)], res := [((.int .i64), false)], fresh := true, sem := fun x => F172 k x.1 x.2.1 }
theorem e172 : (fun k => evFn ((T (fun _ _ => ⟨[1, 5], [], [], false⟩) k).cx [(58, S58 k), (117, S117 k)]) 5 Tryz.f172 (S172 0).params (S172 0).res true) = fun k => (S172 k).sem := by kernel_rfl
theorem ok172 {G : World → Prop} (hG : Lasts G) (k : Nat) : (S172 k).ok Tryz.prog G 172 := fn_ok (T_ok (fun _ _ => ⟨[1, 5], [], [], false⟩) k) hG (calls := [(58, S58 k), (117, S117 k)]) ⟨ok58 hG k, ok117 hG k, trivial⟩ 5 rfl (S172 k) (congrFun e172 k)

/-- loop.example/g01402/laws.heldShardS -/
def F119 (k : Nat) (a0 : List D4) (a1 : Int) : Option (Int) :=
  (iter (σ := Int × Int × Unit) (fun rec5 x4 => (bif (decide (x4.2.1 < (a0.length : Int))) then (bif (decide (0 ≤ x4.2.1 ∧ x4.2.1 < (a0.length : Int))) then (bif (!decide ((a0.getD x4.2.1.toNat Z4).1 = x4.1)) then some (-1 : Int) else (bif (decide (0 ≤ x4.2.1 ∧ x4.2.1 < (a0.length : Int))) then (bif (!decide ((a0.getD x4.2.1.toNat Z4).2.1 = (wrap64 (x4.1 + (1 : Int))))) then some (-1 : Int) else (bif (decide (0 ≤ x4.2.1 ∧ x4.2.1 < (a0.length : Int))) then ((F172 k (a0.getD x4.2.1.toNat Z4).2.2.1 (wrap64 ((wrap64 (x4.1 + (1 : Int))) + (1 : Int)))).bind fun r6 => (bif (decide (r6 < (0 : Int))) then some (-1 : Int) else (bif (decide (0 ≤ x4.2.1 ∧ x4.2.1 < (a0.length : Int))) then (bif (!decide ((a0.getD x4.2.1.toNat Z4).2.2.2 = r6)) then some (-1 : Int) else (rec5 ((wrap64 (r6 + (1 : Int))), (wrap64 (x4.2.1 + (1 : Int))), ()))) else none))) else none)) else none)) else none) else some x4.1)) k (a1, (0 : Int), ()))
def S119 (k : Nat) : CSpec := { params := [(.slice U4), (.int .i64)], res := [((.int .i64), false)], fresh := true, sem := fun x => F119 k x.1 x.2.1 }
theorem e119 : (fun k => evFn ((T (fun _ _ => ⟨[1, 5], [], [], false⟩) k).cx [(172, S172 k)]) 5 Tryz.f119 (S119 0).params (S119 0).res true) = fun k => (S119 k).sem := by kernel_rfl
theorem ok119 {G : World → Prop} (hG : Lasts G) (k : Nat) : (S119 k).ok Tryz.prog G 119 := fn_ok (T_ok (fun _ _ => ⟨[1, 5], [], [], false⟩) k) hG (calls := [(172, S172 k)]) ⟨ok172 hG k, trivial⟩ 5 rfl (S119 k) (congrFun e119 k)

/-- loop.example/g01402/laws.heldGenRowS -/
def F120 (k : Nat) (a0 : List D5) (a1 : Int) : Option (Int) :=
  (iter (σ := Int × Int × Unit) (fun rec5 x4 => (bif (decide (x4.2.1 < (a0.length : Int))) then (bif (decide (0 ≤ x4.2.1 ∧ x4.2.1 < (a0.length : Int))) then ((F58 k x4.1).bind fun r6 => (bif (!decide ((a0.getD x4.2.1.toNat Z5).1 = r6)) then some (-1 : Int) else (bif (decide (0 ≤ x4.2.1 ∧ x4.2.1 < (a0.length : Int))) then (bif (!decide ((a0.getD x4.2.1.toNat Z5).2 = (wrap64 (x4.1 + (1 : Int))))) then some (-1 : Int) else (rec5 ((wrap64 ((wrap64 (x4.1 + (1 : Int))) + (1 : Int))), (wrap64 (x4.2.1 + (1 : Int))), ()))) else none))) else none) else some x4.1)) k (a1, (0 : Int), ()))
def S120 (k : Nat) : CSpec := { params := [(.slice U5), (.int .i64)], res := [((.int .i64), false)], fresh := true, sem := fun x => F120 k x.1 x.2.1 }
theorem e120 : (fun k => evFn ((T (fun _ _ => ⟨[1, 5], [], [], false⟩) k).cx [(58, S58 k)]) 5 Tryz.f120 (S120 0).params (S120 0).res true) = fun k => (S120 k).sem := by kernel_rfl
theorem ok120 {G : World → Prop} (hG : Lasts G) (k : Nat) : (S120 k).ok Tryz.prog G 120 := fn_ok (T_ok (fun _ _ => ⟨[1, 5], [], [], false⟩) k) hG (calls := [(58, S58 k)]) ⟨ok58 hG k, trivial⟩ 5 rfl (S120 k) (congrFun e120 k)

/-- loop.example/g01402/laws.heldCache -/
def F66 (k : Nat) (a0 : D6) (a1 : Int) : Option (Int) :=
  ((F119 k a0.1 a1).bind fun r1 => (bif (decide (r1 < (0 : Int))) then some (-1 : Int) else ((F120 k a0.2 r1).bind fun r2 => (bif (decide (r2 < (0 : Int))) then some (-1 : Int) else some r2))))
def S66 (k : Nat) : CSpec := { params := [U6, (.int .i64)], res := [((.int .i64), false)], fresh := true, sem := fun x => F66 k x.1 x.2.1 }
theorem e66 : (fun k => evFn ((T (fun _ _ => ⟨[], [], [], false⟩) k).cx [(119, S119 k), (120, S120 k)]) 5 Tryz.f66 (S66 0).params (S66 0).res true) = fun k => (S66 k).sem := by kernel_rfl
theorem ok66 {G : World → Prop} (hG : Lasts G) (k : Nat) : (S66 k).ok Tryz.prog G 66 := fn_ok (T_ok (fun _ _ => ⟨[], [], [], false⟩) k) hG (calls := [(119, S119 k), (120, S120 k)]) ⟨ok119 hG k, ok120 hG k, trivial⟩ 5 rfl (S66 k) (congrFun e66 k)

/-- loop.example/g01402/laws.heldFlightS -/
def F67 (k : Nat) (a0 : List D12) (a1 : Int) : Option (Int) :=
  (iter (σ := Int × Int × Unit) (fun rec11 x10 => (bif (decide (x10.2.1 < (a0.length : Int))) then (bif (decide (0 ≤ x10.2.1 ∧ x10.2.1 < (a0.length : Int))) then ((F58 k x10.1).bind fun r12 => (bif (!decide ((a0.getD x10.2.1.toNat Z12).1 = r12)) then some (-1 : Int) else (bif (decide (0 ≤ x10.2.1 ∧ x10.2.1 < (a0.length : Int))) then (bif (decide ((3 : Int) = 0)) then none else (bif (!((a0.getD x10.2.1.toNat Z12).2.1 == (decide (((wrap64 (x10.1 + (1 : Int))).tmod (3 : Int)) = (0 : Int))))) then some (-1 : Int) else (bif (decide (0 ≤ x10.2.1 ∧ x10.2.1 < (a0.length : Int))) then (bif (!decide ((a0.getD x10.2.1.toNat Z12).2.2.1 = (wrap64 ((wrap64 (x10.1 + (1 : Int))) + (1 : Int))))) then some (-1 : Int) else (bif (decide (0 ≤ x10.2.1 ∧ x10.2.1 < (a0.length : Int))) then (bif (decide ((3 : Int) = 0)) then none else (bif (!((a0.getD x10.2.1.toNat Z12).2.2.2.1 == (decide (((wrap64 ((wrap64 ((wrap64 (x10.1 + (1 : Int))) + (1 : Int))) + (1 : Int))).tmod (3 : Int)) = (0 : Int))))) then some (-1 : Int) else (bif (decide (0 ≤ x10.2.1 ∧ x10.2.1 < (a0.length : Int))) then (bif (decide ((3 : Int) = 0)) then none else (bif (!((a0.getD x10.2.1.toNat Z12).2.2.2.2.1 == (decide (((wrap64 ((wrap64 ((wrap64 ((wrap64 (x10.1 + (1 : Int))) + (1 : Int))) + (1 : Int))) + (1 : Int))).tmod (3 : Int)) = (0 : Int))))) then some (-1 : Int) else (bif (decide (0 ≤ x10.2.1 ∧ x10.2.1 < (a0.length : Int))) then ((F58 k (wrap64 ((wrap64 ((wrap64 ((wrap64 ((wrap64 (x10.1 + (1 : Int))) + (1 : Int))) + (1 : Int))) + (1 : Int))) + (1 : Int)))).bind fun r13 => (bif (!decide ((a0.getD x10.2.1.toNat Z12).2.2.2.2.2.1.1 = r13)) then some (-1 : Int) else (bif (decide (0 ≤ x10.2.1 ∧ x10.2.1 < (a0.length : Int))) then ((F58 k (wrap64 ((wrap64 ((wrap64 ((wrap64 ((wrap64 ((wrap64 (x10.1 + (1 : Int))) + (1 : Int))) + (1 : Int))) + (1 : Int))) + (1 : Int))) + (1 : Int)))).bind fun r14 => (bif (!decide ((a0.getD x10.2.1.toNat Z12).2.2.2.2.2.1.2.1 = r14)) then some (-1 : Int) else (bif (decide (0 ≤ x10.2.1 ∧ x10.2.1 < (a0.length : Int))) then ((F117 k (a0.getD x10.2.1.toNat Z12).2.2.2.2.2.1.2.2.1 (wrap64 ((wrap64 ((wrap64 ((wrap64 ((wrap64 ((wrap64 ((wrap64 (x10.1 + (1 : Int))) + (1 : Int))) + (1 : Int))) + (1 : Int))) + (1 : Int))) + (1 : Int))) + (1 : Int)))).bind fun r15 => (bif (decide (r15 < (0 : Int))) then some (-1 : Int) else (bif (decide (0 ≤ x10.2.1 ∧ x10.2.1 < (a0.length : Int))) then ((F58 k r15).bind fun r16 => (bif (!decide ((a0.getD x10.2.1.toNat Z12).2.2.2.2.2.1.2.2.2 = r16)) then some (-1 : Int) else (bif (decide (0 ≤ x10.2.1 ∧ x10.2.1 < (a0.length : Int))) then (bif (!decide ((a0.getD x10.2.1.toNat Z12).2.2.2.2.2.2.1.1 = (wrap64 (r15 + (1 : Int))))) then some (-1 : Int) else (bif (decide (0 ≤ x10.2.1 ∧ x10.2.1 < (a0.length : Int))) then ((F117 k (a0.getD x10.2.1.toNat Z12).2.2.2.2.2.2.1.2.1 (wrap64 ((wrap64 (r15 + (1 : Int))) + (1 : Int)))).bind fun r17 => (bif (decide (r17 < (0 : Int))) then some (-1 : Int) else (bif (decide (0 ≤ x10.2.1 ∧ x10.2.1 < (a0.length : Int))) then ((F58 k r17).bind fun r18 => (bif (!decide ((a0.getD x10.2.1.toNat Z12).2.2.2.2.2.2.1.2.2 = r18)) then some (-1 : Int) else (bif (decide (0 ≤ x10.2.1 ∧ x10.2.1 < (a0.length : Int))) then (bif (!decide ((a0.getD x10.2.1.toNat Z12).2.2.2.2.2.2.2.1 = (wrap64 (r17 + (1 : Int))))) then some (-1 : Int) else (bif (decide (0 ≤ x10.2.1 ∧ x10.2.1 < (a0.length : Int))) then (bif (!decide ((a0.getD x10.2.1.toNat Z12).2.2.2.2.2.2.2.2 = (wrap64 ((wrap64 (r17 + (1 : Int))) + (1 : Int))))) then some (-1 : Int) else (rec11 ((wrap64 ((wrap64 ((wrap64 (r17 + (1 : Int))) + (1 : Int))) + (1 : Int))), (wrap64 (x10.2.1 + (1 : Int))), ()))) else none)) else none))) else none))) else none)) else none))) else none))) else none))) else none))) else none))) else none))) else none)) else none))) else none))) else none) else some x10.1)) k (a1, (0 : Int), ()))
def S67 (k : Nat) : CSpec := { params := [(.slice U12), (.int .i64)], res := [((.int .i64), false)], fresh := true, sem := fun x => F67 k x.1 x.2.1 }
theorem e67 : (fun k => evFn ((T (fun _ _ => ⟨[1, 5], [], [], false⟩) k).cx [(58, S58 k), (117, S117 k)]) 5 Tryz.f67 (S67 0).params (S67 0).res true) = fun k => (S67 k).sem := by kernel_rfl
theorem ok67 {G : World → Prop} (hG : Lasts G) (k : Nat) : (S67 k).ok Tryz.prog G 67 := fn_ok (T_ok (fun _ _ => ⟨[1, 5], [], [], false⟩) k) hG (calls := [(58, S58 k), (117, S117 k)]) ⟨ok58 hG k, ok117 hG k, trivial⟩ 5 rfl (S67 k) (congrFun e67 k)

/-- loop.example/g01402/laws.heldResS -/
def F121 (k : Nat) (a0 : List D7) (a1 : Int) : Option (Int) :=
  (iter (σ := Int × Int × Unit) (fun rec7 x6 => (bif (decide (x6.2.1 < (a0.length : Int))) then (bif (decide (0 ≤ x6.2.1 ∧ x6.2.1 < (a0.length : Int))) then ((F58 k x6.1).bind fun r8 => (bif (!decide ((a0.getD x6.2.1.toNat Z7).1 = r8)) then some (-1 : Int) else (bif (decide (0 ≤ x6.2.1 ∧ x6.2.1 < (a0.length : Int))) then ((F58 k (wrap64 (x6.1 + (1 : Int)))).bind fun r9 => (bif (!decide ((a0.getD x6.2.1.toNat Z7).2.1 = r9)) then some (-1 : Int) else (bif (decide (0 ≤ x6.2.1 ∧ x6.2.1 < (a0.length : Int))) then (bif (!decide ((a0.getD x6.2.1.toNat Z7).2.2.1 = (wrap64 ((wrap64 (x6.1 + (1 : Int))) + (1 : Int))))) then some (-1 : Int) else (bif (decide (0 ≤ x6.2.1 ∧ x6.2.1 < (a0.length : Int))) then (bif (!decide ((a0.getD x6.2.1.toNat Z7).2.2.2.1 = (wrap64 ((wrap64 ((wrap64 (x6.1 + (1 : Int))) + (1 : Int))) + (1 : Int))))) then some (-1 : Int) else (bif (decide (0 ≤ x6.2.1 ∧ x6.2.1 < (a0.length : Int))) then (bif (decide ((3 : Int) = 0)) then none else (bif (!((a0.getD x6.2.1.toNat Z7).2.2.2.2.1 == (decide (((wrap64 ((wrap64 ((wrap64 ((wrap64 (x6.1 + (1 : Int))) + (1 : Int))) + (1 : Int))) + (1 : Int))).tmod (3 : Int)) = (0 : Int))))) then some (-1 : Int) else (bif (decide (0 ≤ x6.2.1 ∧ x6.2.1 < (a0.length : Int))) then (bif (decide ((3 : Int) = 0)) then none else (bif (!((a0.getD x6.2.1.toNat Z7).2.2.2.2.2.1 == (decide (((wrap64 ((wrap64 ((wrap64 ((wrap64 ((wrap64 (x6.1 + (1 : Int))) + (1 : Int))) + (1 : Int))) + (1 : Int))) + (1 : Int))).tmod (3 : Int)) = (0 : Int))))) then some (-1 : Int) else (bif (decide (0 ≤ x6.2.1 ∧ x6.2.1 < (a0.length : Int))) then ((F117 k (a0.getD x6.2.1.toNat Z7).2.2.2.2.2.2 (wrap64 ((wrap64 ((wrap64 ((wrap64 ((wrap64 ((wrap64 (x6.1 + (1 : Int))) + (1 : Int))) + (1 : Int))) + (1 : Int))) + (1 : Int))) + (1 : Int)))).bind fun r10 => (bif (decide (r10 < (0 : Int))) then some (-1 : Int) else (rec7 (r10, (wrap64 (x6.2.1 + (1 : Int))), ())))) else none))) else none))) else none)) else none)) else none))) else none))) else none) else some x6.1)) k (a1, (0 : Int), ()))
def S121 (k : Nat) : CSpec := { params := [(.slice U7), (.int .i64)], res := [((.int .i64), false)], fresh := true, sem := fun x => F121 k x.1 x.2.1 }
theorem e121 : (fun k => evFn ((T (fun _ _ => ⟨[1, 5], [], [], false⟩) k).cx [(58, S58 k), (117, S117 k)]) 5 Tryz.f121 (S121 0).params (S121 0).res true) = fun k => (S121 k).sem := by kernel_rfl
theorem ok121 {G : World → Prop} (hG : Lasts G) (k : Nat) : (S121 k).ok Tryz.prog G 121 := fn_ok (T_ok (fun _ _ => ⟨[1, 5], [], [], false⟩) k) hG (calls := [(58, S58 k), (117, S117 k)]) ⟨ok58 hG k, ok117 hG k, trivial⟩ 5 rfl (S121 k) (congrFun e121 k)

/-- loop.example/g01402/laws.heldOrigin -/
def F68 (k : Nat) (a0 : D8) (a1 : Int) : Option (Int) :=
  ((F121 k a0 a1).bind fun r1 => (bif (decide (r1 < (0 : Int))) then some (-1 : Int) else some r1))
def S68 (k : Nat) : CSpec := { params := [U8, (.int .i64)], res := [((.int .i64), false)], fresh := true, sem := fun x => F68 k x.1 x.2.1 }
theorem e68 : (fun k => evFn ((T (fun _ _ => ⟨[], [], [], false⟩) k).cx [(121, S121 k)]) 5 Tryz.f68 (S68 0).params (S68 0).res true) = fun k => (S68 k).sem := by kernel_rfl
theorem ok68 {G : World → Prop} (hG : Lasts G) (k : Nat) : (S68 k).ok Tryz.prog G 68 := fn_ok (T_ok (fun _ _ => ⟨[], [], [], false⟩) k) hG (calls := [(121, S121 k)]) ⟨ok121 hG k, trivial⟩ 5 rfl (S68 k) (congrFun e68 k)

/-- loop.example/g01402/laws.heldEventS -/
def F69 (k : Nat) (a0 : List D13) (a1 : Int) : Option (Int) :=
  (iter (σ := Int × Int × Unit) (fun rec5 x4 => (bif (decide (x4.2.1 < (a0.length : Int))) then (bif (decide (0 ≤ x4.2.1 ∧ x4.2.1 < (a0.length : Int))) then (bif (!decide ((a0.getD x4.2.1.toNat Z13).1 = x4.1)) then some (-1 : Int) else (bif (decide (0 ≤ x4.2.1 ∧ x4.2.1 < (a0.length : Int))) then (bif (!decide ((a0.getD x4.2.1.toNat Z13).2.1 = (wrap64 (x4.1 + (1 : Int))))) then some (-1 : Int) else (bif (decide (0 ≤ x4.2.1 ∧ x4.2.1 < (a0.length : Int))) then (bif (!decide ((a0.getD x4.2.1.toNat Z13).2.2.1 = (wrap64 ((wrap64 (x4.1 + (1 : Int))) + (1 : Int))))) then some (-1 : Int) else (bif (decide (0 ≤ x4.2.1 ∧ x4.2.1 < (a0.length : Int))) then ((F58 k (wrap64 ((wrap64 ((wrap64 (x4.1 + (1 : Int))) + (1 : Int))) + (1 : Int)))).bind fun r6 => (bif (!decide ((a0.getD x4.2.1.toNat Z13).2.2.2.1 = r6)) then some (-1 : Int) else (bif (decide (0 ≤ x4.2.1 ∧ x4.2.1 < (a0.length : Int))) then (bif (!decide ((a0.getD x4.2.1.toNat Z13).2.2.2.2.1 = (wrap64 ((wrap64 ((wrap64 ((wrap64 (x4.1 + (1 : Int))) + (1 : Int))) + (1 : Int))) + (1 : Int))))) then some (-1 : Int) else (bif (decide (0 ≤ x4.2.1 ∧ x4.2.1 < (a0.length : Int))) then (bif (!decide ((a0.getD x4.2.1.toNat Z13).2.2.2.2.2 = (wrap64 ((wrap64 ((wrap64 ((wrap64 ((wrap64 (x4.1 + (1 : Int))) + (1 : Int))) + (1 : Int))) + (1 : Int))) + (1 : Int))))) then some (-1 : Int) else (rec5 ((wrap64 ((wrap64 ((wrap64 ((wrap64 ((wrap64 ((wrap64 (x4.1 + (1 : Int))) + (1 : Int))) + (1 : Int))) + (1 : Int))) + (1 : Int))) + (1 : Int))), (wrap64 (x4.2.1 + (1 : Int))), ()))) else none)) else none))) else none)) else none)) else none)) else none) else some x4.1)) k (a1, (0 : Int), ()))
def S69 (k : Nat) : CSpec := { params := [(.slice U13), (.int .i64)], res := [((.int .i64), false)], fresh := true, sem := fun x => F69 k x.1 x.2.1 }
theorem e69 : (fun k => evFn ((T (fun _ _ => ⟨[1, 5], [], [], false⟩) k).cx [(58, S58 k)]) 5 Tryz.f69 (S69 0).params (S69 0).res true) = fun k => (S69 k).sem := by kernel_rfl
theorem ok69 {G : World → Prop} (hG : Lasts G) (k : Nat) : (S69 k).ok Tryz.prog G 69 := fn_ok (T_ok (fun _ _ => ⟨[1, 5], [], [], false⟩) k) hG (calls := [(58, S58 k)]) ⟨ok58 hG k, trivial⟩ 5 rfl (S69 k) (congrFun e69 k)

/-- loop.example/g01402/laws.heldWorld -/
def F23 (k : Nat) (a0 : D14) (a1 : Int) : Option (Int) :=
  ((F65 k a0.2.2.1 a1).bind fun r1 => (bif (decide (r1 < (0 : Int))) then some (-1 : Int) else ((F66 k a0.2.2.2.1 r1).bind fun r2 => (bif (decide (r2 < (0 : Int))) then some (-1 : Int) else ((F67 k a0.2.2.2.2.1 r2).bind fun r3 => (bif (decide (r3 < (0 : Int))) then some (-1 : Int) else ((F68 k a0.2.2.2.2.2.1 r3).bind fun r4 => (bif (decide (r4 < (0 : Int))) then some (-1 : Int) else ((F69 k a0.2.2.2.2.2.2 r4).bind fun r5 => (bif (decide (r5 < (0 : Int))) then some (-1 : Int) else some r5))))))))))
def S23 (k : Nat) : CSpec := { params := [U14, (.int .i64)], res := [((.int .i64), false)], fresh := true, sem := fun x => F23 k x.1 x.2.1 }
theorem e23 : (fun k => evFn ((T (fun _ _ => ⟨[], [], [], false⟩) k).cx [(65, S65 k), (66, S66 k), (67, S67 k), (68, S68 k), (69, S69 k)]) 5 Tryz.f23 (S23 0).params (S23 0).res true) = fun k => (S23 k).sem := by kernel_rfl
theorem ok23 {G : World → Prop} (hG : Lasts G) (k : Nat) : (S23 k).ok Tryz.prog G 23 := fn_ok (T_ok (fun _ _ => ⟨[], [], [], false⟩) k) hG (calls := [(65, S65 k), (66, S66 k), (67, S67 k), (68, S68 k), (69, S69 k)]) ⟨ok65 hG k, ok66 hG k, ok67 hG k, ok68 hG k, ok69 hG k, trivial⟩ 5 rfl (S23 k) (congrFun e23 k)

/-- loop.example/g01402/laws.szRequest -/
def F174 (k : Nat) (a0 : D9) (a1 : Int) : Option (Int) :=
  (bif (decide ((wrap64 (a1 - (a0.1.size : Int))) < (0 : Int))) then some (-1 : Int) else (bif (decide ((wrap64 ((wrap64 (a1 - (a0.1.size : Int))) - (a0.2.1.size : Int))) < (0 : Int))) then some (-1 : Int) else ((F147 k a0.2.2.1 (wrap64 ((wrap64 (a1 - (a0.1.size : Int))) - (a0.2.1.size : Int)))).bind fun r1 => (bif (decide (r1 < (0 : Int))) then some (-1 : Int) else (bif (decide ((wrap64 (r1 - (a0.2.2.2.size : Int))) < (0 : Int))) then some (-1 : Int) else some (wrap64 (r1 - (a0.2.2.2.size : Int))))))))
def S174 (k : Nat) : CSpec := { params := [U9, (.int .i64)], res := [((.int .i64), false)], fresh := true, sem := fun x => F174 k x.1 x.2.1 }
theorem e174 : (fun k => evFn ((T (fun _ _ => ⟨[], [], [], false⟩) k).cx [(147, S147 k)]) 5 Tryz.f174 (S174 0).params (S174 0).res true) = fun k => (S174 k).sem := by kernel_rfl
theorem ok174 {G : World → Prop} (hG : Lasts G) (k : Nat) : (S174 k).ok Tryz.prog G 174 := fn_ok (T_ok (fun _ _ => ⟨[], [], [], false⟩) k) hG (calls := [(147, S147 k)]) ⟨ok147 hG k, trivial⟩ 5 rfl (S174 k) (congrFun e174 k)

/-- loop.example/g01402/laws.szTold -/
def F206 (k : Nat) (a0 : D10) (a1 : Int) : Option (Int) :=
  ((F176 k a0.2 a1).bind fun r1 => (bif (decide (r1 < (0 : Int))) then some (-1 : Int) else some r1))
def S206 (k : Nat) : CSpec := { params := [U10, (.int .i64)], res := [((.int .i64), false)], fresh := true, sem := fun x => F206 k x.1 x.2.1 }
theorem e206 : (fun k => evFn ((T (fun _ _ => ⟨[], [], [], false⟩) k).cx [(176, S176 k)]) 5 Tryz.f206 (S206 0).params (S206 0).res true) = fun k => (S206 k).sem := by kernel_rfl
theorem ok206 {G : World → Prop} (hG : Lasts G) (k : Nat) : (S206 k).ok Tryz.prog G 206 := fn_ok (T_ok (fun _ _ => ⟨[], [], [], false⟩) k) hG (calls := [(176, S176 k)]) ⟨ok176 hG k, trivial⟩ 5 rfl (S206 k) (congrFun e206 k)

/-- loop.example/g01402/laws.szToldS -/
def F177 (k : Nat) (a0 : List D10) (a1 : Int) : Option (Int) :=
  (bif (decide ((wrap64 (a1 - (a0.length : Int))) < (0 : Int))) then some (-1 : Int) else (iter (σ := Int × Int × Unit) (fun rec5 x4 => (bif (decide (x4.2.1 < (a0.length : Int))) then (bif (decide (0 ≤ x4.2.1 ∧ x4.2.1 < (a0.length : Int))) then ((F206 k (a0.getD x4.2.1.toNat Z10) x4.1).bind fun r6 => (bif (decide (r6 < (0 : Int))) then some (-1 : Int) else (rec5 (r6, (wrap64 (x4.2.1 + (1 : Int))), ())))) else none) else some x4.1)) k ((wrap64 (a1 - (a0.length : Int))), (0 : Int), ())))
def S177 (k : Nat) : CSpec := { params := [(.slice U10), (.int .i64)], res := [((.int .i64), false)], fresh := true, sem := fun x => F177 k x.1 x.2.1 }
theorem e177 : (fun k => evFn ((T (fun _ _ => ⟨[1, 5], [], [], false⟩) k).cx [(206, S206 k)]) 5 Tryz.f177 (S177 0).params (S177 0).res true) = fun k => (S177 k).sem := by kernel_rfl
theorem ok177 {G : World → Prop} (hG : Lasts G) (k : Nat) : (S177 k).ok Tryz.prog G 177 := fn_ok (T_ok (fun _ _ => ⟨[1, 5], [], [], false⟩) k) hG (calls := [(206, S206 k)]) ⟨ok206 hG k, trivial⟩ 5 rfl (S177 k) (congrFun e177 k)

/-- loop.example/g01402/laws.szConn -/
def F129 (k : Nat) (a0 : D11) (a1 : Int) : Option (Int) :=
  (bif (decide ((wrap64 (a1 - (a0.2.1.size : Int))) < (0 : Int))) then some (-1 : Int) else ((F174 k a0.2.2.2.1 (wrap64 (a1 - (a0.2.1.size : Int)))).bind fun r1 => (bif (decide (r1 < (0 : Int))) then some (-1 : Int) else ((F174 k a0.2.2.2.2.1 r1).bind fun r2 => (bif (decide (r2 < (0 : Int))) then some (-1 : Int) else ((F175 k a0.2.2.2.2.2.1 r2).bind fun r3 => (bif (decide (r3 < (0 : Int))) then some (-1 : Int) else ((F176 k a0.2.2.2.2.2.2.2.2.2.2.2.2.1 r3).bind fun r4 => (bif (decide (r4 < (0 : Int))) then some (-1 : Int) else ((F177 k a0.2.2.2.2.2.2.2.2.2.2.2.2.2 r4).bind fun r5 => (bif (decide (r5 < (0 : Int))) then some (-1 : Int) else some r5)))))))))))
def S129 (k : Nat) : CSpec := { params := [U11, (.int .i64)], res := [((.int .i64), false)], fresh := true, sem := fun x => F129 k x.1 x.2.1 }
theorem e129 : (fun k => evFn ((T (fun _ _ => ⟨[], [], [], false⟩) k).cx [(174, S174 k), (175, S175 k), (176, S176 k), (177, S177 k)]) 5 Tryz.f129 (S129 0).params (S129 0).res true) = fun k => (S129 k).sem := by kernel_rfl
theorem ok129 {G : World → Prop} (hG : Lasts G) (k : Nat) : (S129 k).ok Tryz.prog G 129 := fn_ok (T_ok (fun _ _ => ⟨[], [], [], false⟩) k) hG (calls := [(174, S174 k), (175, S175 k), (176, S176 k), (177, S177 k)]) ⟨ok174 hG k, ok175 hG k, ok176 hG k, ok177 hG k, trivial⟩ 5 rfl (S129 k) (congrFun e129 k)

/-- loop.example/g01402/laws.szConnS -/
def F76 (k : Nat) (a0 : List D11) (a1 : Int) : Option (Int) :=
  (bif (decide ((wrap64 (a1 - (a0.length : Int))) < (0 : Int))) then some (-1 : Int) else (iter (σ := Int × Int × Unit) (fun rec5 x4 => (bif (decide (x4.2.1 < (a0.length : Int))) then (bif (decide (0 ≤ x4.2.1 ∧ x4.2.1 < (a0.length : Int))) then ((F129 k (a0.getD x4.2.1.toNat Z11) x4.1).bind fun r6 => (bif (decide (r6 < (0 : Int))) then some (-1 : Int) else (rec5 (r6, (wrap64 (x4.2.1 + (1 : Int))), ())))) else none) else some x4.1)) k ((wrap64 (a1 - (a0.length : Int))), (0 : Int), ())))
def S76 (k : Nat) : CSpec := { params := [(.slice U11), (.int .i64)], res := [((.int .i64), false)], fresh := true, sem := fun x => F76 k x.1 x.2.1 }
theorem e76 : (fun k => evFn ((T (fun _ _ => ⟨[1, 5], [], [], false⟩) k).cx [(129, S129 k)]) 5 Tryz.f76 (S76 0).params (S76 0).res true) = fun k => (S76 k).sem := by kernel_rfl
theorem ok76 {G : World → Prop} (hG : Lasts G) (k : Nat) : (S76 k).ok Tryz.prog G 76 := fn_ok (T_ok (fun _ _ => ⟨[1, 5], [], [], false⟩) k) hG (calls := [(129, S129 k)]) ⟨ok129 hG k, trivial⟩ 5 rfl (S76 k) (congrFun e76 k)

/-- loop.example/g01402/laws.szFlight -/
def F130 (k : Nat) (a0 : D12) (a1 : Int) : Option (Int) :=
  (bif (decide ((wrap64 (a1 - (a0.1.size : Int))) < (0 : Int))) then some (-1 : Int) else ((F174 k a0.2.2.2.2.2.1 (wrap64 (a1 - (a0.1.size : Int)))).bind fun r1 => (bif (decide (r1 < (0 : Int))) then some (-1 : Int) else ((F176 k a0.2.2.2.2.2.2.1 r1).bind fun r2 => (bif (decide (r2 < (0 : Int))) then some (-1 : Int) else some r2)))))
def S130 (k : Nat) : CSpec := { params := [U12, (.int .i64)], res := [((.int .i64), false)], fresh := true, sem := fun x => F130 k x.1 x.2.1 }
theorem e130 : (fun k => evFn ((T (fun _ _ => ⟨[], [], [], false⟩) k).cx [(174, S174 k), (176, S176 k)]) 5 Tryz.f130 (S130 0).params (S130 0).res true) = fun k => (S130 k).sem := by kernel_rfl
theorem ok130 {G : World → Prop} (hG : Lasts G) (k : Nat) : (S130 k).ok Tryz.prog G 130 := fn_ok (T_ok (fun _ _ => ⟨[], [], [], false⟩) k) hG (calls := [(174, S174 k), (176, S176 k)]) ⟨ok174 hG k, ok176 hG k, trivial⟩ 5 rfl (S130 k) (congrFun e130 k)

/-- loop.example/g01402/laws.szFlightS -/
def F77 (k : Nat) (a0 : List D12) (a1 : Int) : Option (Int) :=
  (bif (decide ((wrap64 (a1 - (a0.length : Int))) < (0 : Int))) then some (-1 : Int) else (iter (σ := Int × Int × Unit) (fun rec5 x4 => (bif (decide (x4.2.1 < (a0.length : Int))) then (bif (decide (0 ≤ x4.2.1 ∧ x4.2.1 < (a0.length : Int))) then ((F130 k (a0.getD x4.2.1.toNat Z12) x4.1).bind fun r6 => (bif (decide (r6 < (0 : Int))) then some (-1 : Int) else (rec5 (r6, (wrap64 (x4.2.1 + (1 : Int))), ())))) else none) else some x4.1)) k ((wrap64 (a1 - (a0.length : Int))), (0 : Int), ())))
def S77 (k : Nat) : CSpec := { params := [(.slice U12), (.int .i64)], res := [((.int .i64), false)], fresh := true, sem := fun x => F77 k x.1 x.2.1 }
theorem e77 : (fun k => evFn ((T (fun _ _ => ⟨[1, 5], [], [], false⟩) k).cx [(130, S130 k)]) 5 Tryz.f77 (S77 0).params (S77 0).res true) = fun k => (S77 k).sem := by kernel_rfl
theorem ok77 {G : World → Prop} (hG : Lasts G) (k : Nat) : (S77 k).ok Tryz.prog G 77 := fn_ok (T_ok (fun _ _ => ⟨[1, 5], [], [], false⟩) k) hG (calls := [(130, S130 k)]) ⟨ok130 hG k, trivial⟩ 5 rfl (S77 k) (congrFun e77 k)

/-- loop.example/g01402/laws.szEvent -/
def F131 (k : Nat) (a0 : D13) (a1 : Int) : Option (Int) :=
  (bif (decide ((wrap64 (a1 - (a0.2.2.2.1.size : Int))) < (0 : Int))) then some (-1 : Int) else some (wrap64 (a1 - (a0.2.2.2.1.size : Int))))
def S131 (k : Nat) : CSpec := { params := [U13, (.int .i64)], res := [((.int .i64), false)], fresh := true, sem := fun x => F131 k x.1 x.2.1 }
theorem e131 : (fun k => evFn ((T (fun _ _ => ⟨[], [], [], false⟩) k).cx []) 5 Tryz.f131 (S131 0).params (S131 0).res true) = fun k => (S131 k).sem := by kernel_rfl
theorem ok131 {G : World → Prop} (hG : Lasts G) (k : Nat) : (S131 k).ok Tryz.prog G 131 := fn_ok (T_ok (fun _ _ => ⟨[], [], [], false⟩) k) hG (calls := []) trivial 5 rfl (S131 k) (congrFun e131 k)

/-- loop.example/g01402/laws.szEventS -/
def F78 (k : Nat) (a0 : List D13) (a1 : Int) : Option (Int) :=
  (bif (decide ((wrap64 (a1 - (a0.length : Int))) < (0 : Int))) then some (-1 : Int) else (iter (σ := Int × Int × Unit) (fun rec5 x4 => (bif (decide (x4.2.1 < (a0.length : Int))) then (bif (decide (0 ≤ x4.2.1 ∧ x4.2.1 < (a0.length : Int))) then ((F131 k (a0.getD x4.2.1.toNat Z13) x4.1).bind fun r6 => (bif (decide (r6 < (0 : Int))) then some (-1 : Int) else (rec5 (r6, (wrap64 (x4.2.1 + (1 : Int))), ())))) else none) else some x4.1)) k ((wrap64 (a1 - (a0.length : Int))), (0 : Int), ())))
def S78 (k : Nat) : CSpec := { params := [(.slice U13), (.int .i64)], res := [((.int .i64), false)], fresh := true, sem := fun x => F78 k x.1 x.2.1 }
theorem e78 : (fun k => evFn ((T (fun _ _ => ⟨[1, 5], [], [], false⟩) k).cx [(131, S131 k)]) 5 Tryz.f78 (S78 0).params (S78 0).res true) = fun k => (S78 k).sem := by kernel_rfl
theorem ok78 {G : World → Prop} (hG : Lasts G) (k : Nat) : (S78 k).ok Tryz.prog G 78 := fn_ok (T_ok (fun _ _ => ⟨[1, 5], [], [], false⟩) k) hG (calls := [(131, S131 k)]) ⟨ok131 hG k, trivial⟩ 5 rfl (S78 k) (congrFun e78 k)

/-- loop.example/g01402/laws.szWorld -/
def F30 (k : Nat) (a0 : D14) (a1 : Int) : Option (Int) :=
  ((F76 k a0.2.2.1 a1).bind fun r1 => (bif (decide (r1 < (0 : Int))) then some (-1 : Int) else ((F8 k a0.2.2.2.1 r1).bind fun r2 => (bif (decide (r2 < (0 : Int))) then some (-1 : Int) else ((F77 k a0.2.2.2.2.1 r2).bind fun r3 => (bif (decide (r3 < (0 : Int))) then some (-1 : Int) else ((F9 k a0.2.2.2.2.2.1 r3).bind fun r4 => (bif (decide (r4 < (0 : Int))) then some (-1 : Int) else ((F78 k a0.2.2.2.2.2.2 r4).bind fun r5 => (bif (decide (r5 < (0 : Int))) then some (-1 : Int) else some r5))))))))))
def S30 (k : Nat) : CSpec := { params := [U14, (.int .i64)], res := [((.int .i64), false)], fresh := true, sem := fun x => F30 k x.1 x.2.1 }
theorem e30 : (fun k => evFn ((T (fun _ _ => ⟨[], [], [], false⟩) k).cx [(8, S8 k), (9, S9 k), (76, S76 k), (77, S77 k), (78, S78 k)]) 5 Tryz.f30 (S30 0).params (S30 0).res true) = fun k => (S30 k).sem := by kernel_rfl
theorem ok30 {G : World → Prop} (hG : Lasts G) (k : Nat) : (S30 k).ok Tryz.prog G 30 := fn_ok (T_ok (fun _ _ => ⟨[], [], [], false⟩) k) hG (calls := [(8, S8 k), (9, S9 k), (76, S76 k), (77, S77 k), (78, S78 k)]) ⟨ok8 hG k, ok9 hG k, ok76 hG k, ok77 hG k, ok78 hG k, trivial⟩ 5 rfl (S30 k) (congrFun e30 k)

/-- loop.example/g01402/laws.toRequest -/
def F180 (k : Nat) (a0 : D9) : Option (D9) :=
  ((F156 k a0.2.2.1).bind fun r1 => some (a0.1, a0.2.1, r1, a0.2.2.2))
def S180 (k : Nat) : CSpec := { params := [U9], res := [(U9, true)], fresh := true, sem := fun x => F180 k x.1 }
theorem e180 : (fun k => evFn ((T (fun _ _ => ⟨[], [], [], false⟩) k).cx [(156, S156 k)]) 5 Tryz.f180 (S180 0).params (S180 0).res true) = fun k => (S180 k).sem := by kernel_rfl
theorem ok180 {G : World → Prop} (hG : Lasts G) (k : Nat) : (S180 k).ok Tryz.prog G 180 := fn_ok (T_ok (fun _ _ => ⟨[], [], [], false⟩) k) hG (calls := [(156, S156 k)]) ⟨ok156 hG k, trivial⟩ 5 rfl (S180 k) (congrFun e180 k)

/-- loop.example/g01402/laws.toTold -/
def F208 (k : Nat) (a0 : D10) : Option (D10) :=
  ((F182 k a0.2).bind fun r1 => some (a0.1, r1))
def S208 (k : Nat) : CSpec := { params := [U10], res := [(U10, true)], fresh := true, sem := fun x => F208 k x.1 }
theorem e208 : (fun k => evFn ((T (fun _ _ => ⟨[], [], [], false⟩) k).cx [(182, S182 k)]) 5 Tryz.f208 (S208 0).params (S208 0).res true) = fun k => (S208 k).sem := by kernel_rfl
theorem ok208 {G : World → Prop} (hG : Lasts G) (k : Nat) : (S208 k).ok Tryz.prog G 208 := fn_ok (T_ok (fun _ _ => ⟨[], [], [], false⟩) k) hG (calls := [(182, S182 k)]) ⟨ok182 hG k, trivial⟩ 5 rfl (S208 k) (congrFun e208 k)

/-- loop.example/g01402/laws.toToldS -/
def F183 (k : Nat) (a0 : List D10) : Option ((List D10)) :=
  (bif (decide (0 ≤ (a0.length : Int) ∧ (a0.length : Int) = (a0.length : Int) ∧ (a0.length : Int) < (most : Int))) then (iter (σ := Int × List D10 × Unit) (fun rec5 x4 => (bif (decide (x4.1 < (a0.length : Int))) then (bif (decide (0 ≤ x4.1 ∧ x4.1 < (a0.length : Int))) then ((F208 k (a0.getD x4.1.toNat Z10)).bind fun r6 => (bif (decide (0 ≤ x4.1 ∧ x4.1 < (x4.2.1.length : Int))) then (rec5 ((wrap64 (x4.1 + (1 : Int))), (x4.2.1.set x4.1.toNat r6), ())) else none)) else none) else some x4.2.1)) k ((0 : Int), (List.replicate (a0.length : Int).toNat Z10), ())) else none)
def S183 (k : Nat) : CSpec := { params := [(.slice U10)], res := [((.slice U10), true)], fresh := true, sem := fun x => F183 k x.1 }
theorem e183 : (fun k => evFn ((T (fun _ _ => ⟨[4], [1], [], false⟩) k).cx [(208, S208 k)]) 5 Tryz.f183 (S183 0).params (S183 0).res true) = fun k => (S183 k).sem := by kernel_rfl
theorem ok183 {G : World → Prop} (hG : Lasts G) (k : Nat) : (S183 k).ok Tryz.prog G 183 := fn_ok (T_ok (fun _ _ => ⟨[4], [1], [], false⟩) k) hG (calls := [(208, S208 k)]) ⟨ok208 hG k, trivial⟩ 5 rfl (S183 k) (congrFun e183 k)

/-- loop.example/g01402/laws.toConn -/
def F136 (k : Nat) (a0 : D11) : Option (D11) :=
  ((F180 k a0.2.2.2.1).bind fun r1 => ((F180 k a0.2.2.2.2.1).bind fun r2 => ((F181 k a0.2.2.2.2.2.1).bind fun r3 => ((F182 k a0.2.2.2.2.2.2.2.2.2.2.2.2.1).bind fun r4 => ((F183 k a0.2.2.2.2.2.2.2.2.2.2.2.2.2).bind fun r5 => some (a0.1, a0.2.1, a0.2.2.1, r1, r2, r3, a0.2.2.2.2.2.2.1, a0.2.2.2.2.2.2.2.1, a0.2.2.2.2.2.2.2.2.1, a0.2.2.2.2.2.2.2.2.2.1, a0.2.2.2.2.2.2.2.2.2.2.1, a0.2.2.2.2.2.2.2.2.2.2.2.1, r4, r5))))))
def S136 (k : Nat) : CSpec := { params := [U11], res := [(U11, true)], fresh := true, sem := fun x => F136 k x.1 }
theorem e136 : (fun k => evFn ((T (fun _ _ => ⟨[], [], [], false⟩) k).cx [(180, S180 k), (181, S181 k), (182, S182 k), (183, S183 k)]) 5 Tryz.f136 (S136 0).params (S136 0).res true) = fun k => (S136 k).sem := by kernel_rfl
theorem ok136 {G : World → Prop} (hG : Lasts G) (k : Nat) : (S136 k).ok Tryz.prog G 136 := fn_ok (T_ok (fun _ _ => ⟨[], [], [], false⟩) k) hG (calls := [(180, S180 k), (181, S181 k), (182, S182 k), (183, S183 k)]) ⟨ok180 hG k, ok181 hG k, ok182 hG k, ok183 hG k, trivial⟩ 5 rfl (S136 k) (congrFun e136 k)

/-- loop.example/g01402/laws.toConnS -/
def F82 (k : Nat) (a0 : List D11) : Option ((List D11)) :=
  (bif (decide (0 ≤ (a0.length : Int) ∧ (a0.length : Int) = (a0.length : Int) ∧ (a0.length : Int) < (most : Int))) then (iter (σ := Int × List D11 × Unit) (fun rec5 x4 => (bif (decide (x4.1 < (a0.length : Int))) then (bif (decide (0 ≤ x4.1 ∧ x4.1 < (a0.length : Int))) then ((F136 k (a0.getD x4.1.toNat Z11)).bind fun r6 => (bif (decide (0 ≤ x4.1 ∧ x4.1 < (x4.2.1.length : Int))) then (rec5 ((wrap64 (x4.1 + (1 : Int))), (x4.2.1.set x4.1.toNat r6), ())) else none)) else none) else some x4.2.1)) k ((0 : Int), (List.replicate (a0.length : Int).toNat Z11), ())) else none)
def S82 (k : Nat) : CSpec := { params := [(.slice U11)], res := [((.slice U11), true)], fresh := true, sem := fun x => F82 k x.1 }
theorem e82 : (fun k => evFn ((T (fun _ _ => ⟨[4], [1], [], false⟩) k).cx [(136, S136 k)]) 5 Tryz.f82 (S82 0).params (S82 0).res true) = fun k => (S82 k).sem := by kernel_rfl
theorem ok82 {G : World → Prop} (hG : Lasts G) (k : Nat) : (S82 k).ok Tryz.prog G 82 := fn_ok (T_ok (fun _ _ => ⟨[4], [1], [], false⟩) k) hG (calls := [(136, S136 k)]) ⟨ok136 hG k, trivial⟩ 5 rfl (S82 k) (congrFun e82 k)

/-- loop.example/g01402/laws.toFlight -/
def F137 (k : Nat) (a0 : D12) : Option (D12) :=
  ((F180 k a0.2.2.2.2.2.1).bind fun r1 => ((F182 k a0.2.2.2.2.2.2.1).bind fun r2 => some (a0.1, a0.2.1, a0.2.2.1, a0.2.2.2.1, a0.2.2.2.2.1, r1, r2, a0.2.2.2.2.2.2.2.1, a0.2.2.2.2.2.2.2.2)))
def S137 (k : Nat) : CSpec := { params := [U12], res := [(U12, true)], fresh := true, sem := fun x => F137 k x.1 }
theorem e137 : (fun k => evFn ((T (fun _ _ => ⟨[], [], [], false⟩) k).cx [(180, S180 k), (182, S182 k)]) 5 Tryz.f137 (S137 0).params (S137 0).res true) = fun k => (S137 k).sem := by kernel_rfl
theorem ok137 {G : World → Prop} (hG : Lasts G) (k : Nat) : (S137 k).ok Tryz.prog G 137 := fn_ok (T_ok (fun _ _ => ⟨[], [], [], false⟩) k) hG (calls := [(180, S180 k), (182, S182 k)]) ⟨ok180 hG k, ok182 hG k, trivial⟩ 5 rfl (S137 k) (congrFun e137 k)

/-- loop.example/g01402/laws.toFlightS -/
def F83 (k : Nat) (a0 : List D12) : Option ((List D12)) :=
  (bif (decide (0 ≤ (a0.length : Int) ∧ (a0.length : Int) = (a0.length : Int) ∧ (a0.length : Int) < (most : Int))) then (iter (σ := Int × List D12 × Unit) (fun rec5 x4 => (bif (decide (x4.1 < (a0.length : Int))) then (bif (decide (0 ≤ x4.1 ∧ x4.1 < (a0.length : Int))) then ((F137 k (a0.getD x4.1.toNat Z12)).bind fun r6 => (bif (decide (0 ≤ x4.1 ∧ x4.1 < (x4.2.1.length : Int))) then (rec5 ((wrap64 (x4.1 + (1 : Int))), (x4.2.1.set x4.1.toNat r6), ())) else none)) else none) else some x4.2.1)) k ((0 : Int), (List.replicate (a0.length : Int).toNat Z12), ())) else none)
def S83 (k : Nat) : CSpec := { params := [(.slice U12)], res := [((.slice U12), true)], fresh := true, sem := fun x => F83 k x.1 }
theorem e83 : (fun k => evFn ((T (fun _ _ => ⟨[4], [1], [], false⟩) k).cx [(137, S137 k)]) 5 Tryz.f83 (S83 0).params (S83 0).res true) = fun k => (S83 k).sem := by kernel_rfl
theorem ok83 {G : World → Prop} (hG : Lasts G) (k : Nat) : (S83 k).ok Tryz.prog G 83 := fn_ok (T_ok (fun _ _ => ⟨[4], [1], [], false⟩) k) hG (calls := [(137, S137 k)]) ⟨ok137 hG k, trivial⟩ 5 rfl (S83 k) (congrFun e83 k)

/-- loop.example/g01402/laws.toEvent -/
def F138 (k : Nat) (a0 : D13) : Option (D13) :=
  some a0
def S138 (k : Nat) : CSpec := { params := [U13], res := [(U13, false)], fresh := true, sem := fun x => F138 k x.1 }
theorem e138 : (fun k => evFn ((T (fun _ _ => ⟨[], [], [], false⟩) k).cx []) 5 Tryz.f138 (S138 0).params (S138 0).res true) = fun k => (S138 k).sem := by kernel_rfl
theorem ok138 {G : World → Prop} (hG : Lasts G) (k : Nat) : (S138 k).ok Tryz.prog G 138 := fn_ok (T_ok (fun _ _ => ⟨[], [], [], false⟩) k) hG (calls := []) trivial 5 rfl (S138 k) (congrFun e138 k)

/-- loop.example/g01402/laws.toEventS -/
def F84 (k : Nat) (a0 : List D13) : Option ((List D13)) :=
  (bif (decide (0 ≤ (a0.length : Int) ∧ (a0.length : Int) = (a0.length : Int) ∧ (a0.length : Int) < (most : Int))) then (iter (σ := Int × List D13 × Unit) (fun rec5 x4 => (bif (decide (x4.1 < (a0.length : Int))) then (bif (decide (0 ≤ x4.1 ∧ x4.1 < (a0.length : Int))) then ((F138 k (a0.getD x4.1.toNat Z13)).bind fun r6 => (bif (decide (0 ≤ x4.1 ∧ x4.1 < (x4.2.1.length : Int))) then (rec5 ((wrap64 (x4.1 + (1 : Int))), (x4.2.1.set x4.1.toNat r6), ())) else none)) else none) else some x4.2.1)) k ((0 : Int), (List.replicate (a0.length : Int).toNat Z13), ())) else none)
def S84 (k : Nat) : CSpec := { params := [(.slice U13)], res := [((.slice U13), true)], fresh := true, sem := fun x => F84 k x.1 }
theorem e84 : (fun k => evFn ((T (fun _ _ => ⟨[4], [1], [], false⟩) k).cx [(138, S138 k)]) 5 Tryz.f84 (S84 0).params (S84 0).res true) = fun k => (S84 k).sem := by kernel_rfl
theorem ok84 {G : World → Prop} (hG : Lasts G) (k : Nat) : (S84 k).ok Tryz.prog G 84 := fn_ok (T_ok (fun _ _ => ⟨[4], [1], [], false⟩) k) hG (calls := [(138, S138 k)]) ⟨ok138 hG k, trivial⟩ 5 rfl (S84 k) (congrFun e84 k)

/-- loop.example/g01402/laws.toWorld -/
def F32 (k : Nat) (a0 : D14) : Option (D14) :=
  ((F82 k a0.2.2.1).bind fun r1 => ((F12 k a0.2.2.2.1).bind fun r2 => ((F83 k a0.2.2.2.2.1).bind fun r3 => ((F13 k a0.2.2.2.2.2.1).bind fun r4 => ((F84 k a0.2.2.2.2.2.2).bind fun r5 => some (a0.1, a0.2.1, r1, r2, r3, r4, r5))))))
def S32 (k : Nat) : CSpec := { params := [U14], res := [(U14, true)], fresh := true, sem := fun x => F32 k x.1 }
theorem e32 : (fun k => evFn ((T (fun _ _ => ⟨[], [], [], false⟩) k).cx [(12, S12 k), (13, S13 k), (82, S82 k), (83, S83 k), (84, S84 k)]) 5 Tryz.f32 (S32 0).params (S32 0).res true) = fun k => (S32 k).sem := by kernel_rfl
theorem ok32 {G : World → Prop} (hG : Lasts G) (k : Nat) : (S32 k).ok Tryz.prog G 32 := fn_ok (T_ok (fun _ _ => ⟨[], [], [], false⟩) k) hG (calls := [(12, S12 k), (13, S13 k), (82, S82 k), (83, S83 k), (84, S84 k)]) ⟨ok12 hG k, ok13 hG k, ok82 hG k, ok83 hG k, ok84 hG k, trivial⟩ 5 rfl (S32 k) (congrFun e32 k)

/-- loop.example/g01402/spec.l12Req -/
def F133 (k : Nat) (a0 : D9) : Option (D9) :=
  (bif (decide (([] : List D0).length + a0.2.2.1.length < most)) then some (a0.1, a0.2.1, (([] : List D0) ++ a0.2.2.1), a0.2.2.2) else none)
def S133 (k : Nat) : CSpec := { params := [U9], res := [(U9, true)], fresh := true, sem := fun x => F133 k x.1 }
theorem e133 : (fun k => evFn ((T (fun _ _ => ⟨[], [], [], false⟩) k).cx []) 5 Tryz.f133 (S133 0).params (S133 0).res true) = fun k => (S133 k).sem := by kernel_rfl
theorem ok133 {G : World → Prop} (hG : Lasts G) (k : Nat) : (S133 k).ok Tryz.prog G 133 := fn_ok (T_ok (fun _ _ => ⟨[], [], [], false⟩) k) hG (calls := []) trivial 5 rfl (S133 k) (congrFun e133 k)

/-- loop.example/g01402/spec.l15Told -/
def F178 (k : Nat) (a0 : List D10) : Option ((List D10)) :=
  (iter (σ := Int × List D10 × Unit) (fun rec5 x4 => (bif (decide (x4.1 < (a0.length : Int))) then (bif (decide (0 ≤ x4.1 ∧ x4.1 < (a0.length : Int))) then (bif (decide (0 ≤ x4.1 ∧ x4.1 < (a0.length : Int))) then ((F134 k (a0.getD x4.1.toNat Z10).2).bind fun r6 => (bif (decide (x4.2.1.length + ([((a0.getD x4.1.toNat Z10).1, r6)] : List D10).length < most)) then (rec5 ((wrap64 (x4.1 + (1 : Int))), (x4.2.1 ++ ([((a0.getD x4.1.toNat Z10).1, r6)] : List D10)), ())) else none)) else none) else none) else some x4.2.1)) k ((0 : Int), ([] : List D10), ()))
def S178 (k : Nat) : CSpec := { params := [(.slice U10)], res := [((.slice U10), true)], fresh := true, sem := fun x => F178 k x.1 }
theorem e178 : (fun k => evFn ((T (fun _ _ => ⟨[3, 4], [], [1], false⟩) k).cx [(134, S134 k)]) 5 Tryz.f178 (S178 0).params (S178 0).res true) = fun k => (S178 k).sem := by kernel_rfl
theorem ok178 {G : World → Prop} (hG : Lasts G) (k : Nat) : (S178 k).ok Tryz.prog G 178 := fn_ok (T_ok (fun _ _ => ⟨[3, 4], [], [1], false⟩) k) hG (calls := [(134, S134 k)]) ⟨ok134 hG k, trivial⟩ 5 rfl (S178 k) (congrFun e178 k)

/-- loop.example/g01402/spec.l15Copy -/
def F132 (k : Nat) (a0 : D11) : Option (D11) :=
  ((F133 k a0.2.2.2.1).bind fun r1 => ((F133 k a0.2.2.2.2.1).bind fun r2 => ((F154 k a0.2.2.2.2.2.1).bind fun r3 => ((F134 k a0.2.2.2.2.2.2.2.2.2.2.2.2.1).bind fun r4 => ((F178 k a0.2.2.2.2.2.2.2.2.2.2.2.2.2).bind fun r5 => some (a0.1, a0.2.1, a0.2.2.1, r1, r2, r3, a0.2.2.2.2.2.2.1, a0.2.2.2.2.2.2.2.1, a0.2.2.2.2.2.2.2.2.1, a0.2.2.2.2.2.2.2.2.2.1, a0.2.2.2.2.2.2.2.2.2.2.1, a0.2.2.2.2.2.2.2.2.2.2.2.1, r4, r5))))))
def S132 (k : Nat) : CSpec := { params := [U11], res := [(U11, true)], fresh := true, sem := fun x => F132 k x.1 }
theorem e132 : (fun k => evFn ((T (fun _ _ => ⟨[], [], [], false⟩) k).cx [(133, S133 k), (134, S134 k), (154, S154 k), (178, S178 k)]) 5 Tryz.f132 (S132 0).params (S132 0).res true) = fun k => (S132 k).sem := by kernel_rfl
theorem ok132 {G : World → Prop} (hG : Lasts G) (k : Nat) : (S132 k).ok Tryz.prog G 132 := fn_ok (T_ok (fun _ _ => ⟨[], [], [], false⟩) k) hG (calls := [(133, S133 k), (134, S134 k), (154, S154 k), (178, S178 k)]) ⟨ok133 hG k, ok134 hG k, ok154 hG k, ok178 hG k, trivial⟩ 5 rfl (S132 k) (congrFun e132 k)

/-- loop.example/g01402/spec.l16Copy -/
def F79 (k : Nat) (a0 : D14) : Option (D14) :=
  (iter (σ := Int × Int × Int × List D4 × List D5 × List D12 × List D7 × List D13 × List D11 × Unit) (fun rec5 x4 => (bif (decide (x4.1 < (a0.2.2.1.length : Int))) then (bif (decide (0 ≤ x4.1 ∧ x4.1 < (a0.2.2.1.length : Int))) then ((F132 k (a0.2.2.1.getD x4.1.toNat Z11)).bind fun r6 => (bif (decide (x4.2.2.2.2.2.2.2.2.1.length + ([r6] : List D11).length < most)) then (rec5 ((wrap64 (x4.1 + (1 : Int))), x4.2.1, x4.2.2.1, x4.2.2.2.1, x4.2.2.2.2.1, x4.2.2.2.2.2.1, x4.2.2.2.2.2.2.1, x4.2.2.2.2.2.2.2.1, (x4.2.2.2.2.2.2.2.2.1 ++ ([r6] : List D11)), ())) else none)) else none) else ((F41 k a0.2.2.2.1).bind fun r7 => (iter (σ := Int × Int × Int × List D7 × List D13 × List D12 × Unit) (fun rec13 x12 => (bif (decide (x12.1 < (a0.2.2.2.2.1.length : Int))) then (bif (decide (0 ≤ x12.1 ∧ x12.1 < (a0.2.2.2.2.1.length : Int))) then ((F133 k (a0.2.2.2.2.1.getD x12.1.toNat Z12).2.2.2.2.2.1).bind fun r14 => ((F134 k (a0.2.2.2.2.1.getD x12.1.toNat Z12).2.2.2.2.2.2.1).bind fun r15 => (bif (decide (x12.2.2.2.2.2.1.length + ([((a0.2.2.2.2.1.getD x12.1.toNat Z12).1, (a0.2.2.2.2.1.getD x12.1.toNat Z12).2.1, (a0.2.2.2.2.1.getD x12.1.toNat Z12).2.2.1, (a0.2.2.2.2.1.getD x12.1.toNat Z12).2.2.2.1, (a0.2.2.2.2.1.getD x12.1.toNat Z12).2.2.2.2.1, r14, r15, (a0.2.2.2.2.1.getD x12.1.toNat Z12).2.2.2.2.2.2.2.1, (a0.2.2.2.2.1.getD x12.1.toNat Z12).2.2.2.2.2.2.2.2)] : List D12).length < most)) then (rec13 ((wrap64 (x12.1 + (1 : Int))), x12.2.1, x12.2.2.1, x12.2.2.2.1, x12.2.2.2.2.1, (x12.2.2.2.2.2.1 ++ ([((a0.2.2.2.2.1.getD x12.1.toNat Z12).1, (a0.2.2.2.2.1.getD x12.1.toNat Z12).2.1, (a0.2.2.2.2.1.getD x12.1.toNat Z12).2.2.1, (a0.2.2.2.2.1.getD x12.1.toNat Z12).2.2.2.1, (a0.2.2.2.2.1.getD x12.1.toNat Z12).2.2.2.2.1, r14, r15, (a0.2.2.2.2.1.getD x12.1.toNat Z12).2.2.2.2.2.2.2.1, (a0.2.2.2.2.1.getD x12.1.toNat Z12).2.2.2.2.2.2.2.2)] : List D12)), ())) else none))) else none) else ((F42 k a0.2.2.2.2.2.1).bind fun r16 => (bif (decide (([] : List D13).length + a0.2.2.2.2.2.2.length < most)) then some (x12.2.1, x12.2.2.1, x4.2.2.2.2.2.2.2.2.1, r7, x12.2.2.2.2.2.1, r16, (([] : List D13) ++ a0.2.2.2.2.2.2)) else none)))) k ((0 : Int), x4.2.1, x4.2.2.1, x4.2.2.2.2.2.2.1, x4.2.2.2.2.2.2.2.1, ([] : List D12), ()))))) k ((0 : Int), a0.1, a0.2.1, a0.2.2.2.1.1, a0.2.2.2.1.2, a0.2.2.2.2.1, a0.2.2.2.2.2.1, a0.2.2.2.2.2.2, ([] : List D11), ()))
def S79 (k : Nat) : CSpec := { params := [U14], res := [(U14, true)], fresh := true, sem := fun x => F79 k x.1 }
theorem e79 : (fun k => evFn ((T (kp [(([], 4), ⟨[4], [14], [15], false⟩), (([], 10), ⟨[5], [14], [18], false⟩)]) k).cx [(41, S41 k), (42, S42 k), (132, S132 k), (133, S133 k), (134, S134 k)]) 5 Tryz.f79 (S79 0).params (S79 0).res true) = fun k => (S79 k).sem := by kernel_rfl
theorem ok79 {G : World → Prop} (hG : Lasts G) (k : Nat) : (S79 k).ok Tryz.prog G 79 := fn_ok (T_ok (kp [(([], 4), ⟨[4], [14], [15], false⟩), (([], 10), ⟨[5], [14], [18], false⟩)]) k) hG (calls := [(41, S41 k), (42, S42 k), (132, S132 k), (133, S133 k), (134, S134 k)]) ⟨ok41 hG k, ok42 hG k, ok132 hG k, ok133 hG k, ok134 hG k, trivial⟩ 5 rfl (S79 k) (congrFun e79 k)

/-- loop.example/g01402/spec.RequestOk -/
def F135 (k : Nat) (a0 : D9) : Option (Bool) :=
  ((F179 k a0.1).bind fun r1 => (bif r1 then (bif (decide ((a0.1.size : Int) ≤ (10 : Int))) then ((F93 k a0.2.1).bind fun r2 => (bif r2 then ((F94 k a0.2.2.1).bind fun r3 => (bif r3 then some (decide ((a0.2.2.2.size : Int) ≤ (60 : Int))) else some false)) else some false)) else some false) else some false))
def S135 (k : Nat) : CSpec := { params := [U9], res := [(.bool, false)], fresh := true, sem := fun x => F135 k x.1 }
theorem e135 : (fun k => evFn ((T (fun _ _ => ⟨[], [], [], false⟩) k).cx [(93, S93 k), (94, S94 k), (179, S179 k)]) 5 Tryz.f135 (S135 0).params (S135 0).res true) = fun k => (S135 k).sem := by kernel_rfl
theorem ok135 {G : World → Prop} (hG : Lasts G) (k : Nat) : (S135 k).ok Tryz.prog G 135 := fn_ok (T_ok (fun _ _ => ⟨[], [], [], false⟩) k) hG (calls := [(93, S93 k), (94, S94 k), (179, S179 k)]) ⟨ok93 hG k, ok94 hG k, ok179 hG k, trivial⟩ 5 rfl (S135 k) (congrFun e135 k)

/-- loop.example/g01402/spec.WorldOk -/
def F80 (k : Nat) (a0 : D14) : Option (Bool) :=
  ((F39 k a0.2.2.2.1).bind fun r1 => (bif (!r1) then some false else ((F40 k a0.2.2.2.2.2.1).bind fun r2 => (bif (!r2) then some false else ((F81 k a0.1 (0 : Int) (2000000000 : Int)).bind fun r3 => (bif (!r3) then some false else (bif (decide ((4 : Int) < (a0.2.2.1.length : Int))) then some false else (bif (decide (a0.2.1 < (0 : Int))) then some false else (iter (σ := Int × Unit) (fun rec11 x10 => (bif (decide (x10.1 < (a0.2.2.1.length : Int))) then (bif (decide (0 ≤ x10.1 ∧ x10.1 < (a0.2.2.1.length : Int))) then ((F81 k (a0.2.2.1.getD x10.1.toNat Z11).1 (0 : Int) (7 : Int)).bind fun r12 => (bif (!r12) then some false else ((F81 k (a0.2.2.1.getD x10.1.toNat Z11).2.2.2.2.2.2.2.1 (-1 : Int) (wrap64 ((a0.2.2.2.2.1.length : Int) - (1 : Int)))).bind fun r13 => (bif (!r13) then some false else (bif (decide ((a0.2.2.1.getD x10.1.toNat Z11).1 = (5 : Int))) then (bif (decide ((a0.2.2.1.getD x10.1.toNat Z11).2.2.2.2.2.2.2.1 < (0 : Int))) then some false else (bif (decide ((1500 : Int) < ((a0.2.2.1.getD x10.1.toNat Z11).2.1.size : Int))) then some false else (bif (decide ((1 : Int) ≤ (a0.2.2.1.getD x10.1.toNat Z11).1)) then (bif (decide ((a0.2.2.1.getD x10.1.toNat Z11).1 ≤ (6 : Int))) then ((F135 k (a0.2.2.1.getD x10.1.toNat Z11).2.2.2.1).bind fun r14 => (bif (!r14) then some false else (rec11 ((wrap64 (x10.1 + (1 : Int))), ())))) else (rec11 ((wrap64 (x10.1 + (1 : Int))), ()))) else (rec11 ((wrap64 (x10.1 + (1 : Int))), ()))))) else (bif (decide ((1500 : Int) < ((a0.2.2.1.getD x10.1.toNat Z11).2.1.size : Int))) then some false else (bif (decide ((1 : Int) ≤ (a0.2.2.1.getD x10.1.toNat Z11).1)) then (bif (decide ((a0.2.2.1.getD x10.1.toNat Z11).1 ≤ (6 : Int))) then ((F135 k (a0.2.2.1.getD x10.1.toNat Z11).2.2.2.1).bind fun r15 => (bif (!r15) then some false else (rec11 ((wrap64 (x10.1 + (1 : Int))), ())))) else (rec11 ((wrap64 (x10.1 + (1 : Int))), ()))) else (rec11 ((wrap64 (x10.1 + (1 : Int))), ()))))))))) else none) else some true)) k ((0 : Int), ()))))))))))
def S80 (k : Nat) : CSpec := { params := [U14], res := [(.bool, false)], fresh := true, sem := fun x => F80 k x.1 }
theorem e80 : (fun k => evFn ((T (fun _ _ => ⟨[3], [], [], false⟩) k).cx [(39, S39 k), (40, S40 k), (81, S81 k), (135, S135 k)]) 5 Tryz.f80 (S80 0).params (S80 0).res true) = fun k => (S80 k).sem := by kernel_rfl
theorem ok80 {G : World → Prop} (hG : Lasts G) (k : Nat) : (S80 k).ok Tryz.prog G 80 := fn_ok (T_ok (fun _ _ => ⟨[3], [], [], false⟩) k) hG (calls := [(39, S39 k), (40, S40 k), (81, S81 k), (135, S135 k)]) ⟨ok39 hG k, ok40 hG k, ok81 hG k, ok135 hG k, trivial⟩ 5 rfl (S80 k) (congrFun e80 k)

/-- loop.example/g01402/spec.WorldTick -/
def F31 (k : Nat) (a0 : D14) (a1 : Int) : Option (D14) :=
  ((F79 k a0).bind fun r1 => ((F80 k a0).bind fun r2 => (bif r2 then ((F81 k a1 (0 : Int) (1000 : Int)).bind fun r3 => (bif r3 then (bif (decide ((wrap64 (a0.1 + a1)) ≤ (2000000000 : Int))) then some ((wrap64 (a0.1 + a1)), r1.2.1, r1.2.2.1, r1.2.2.2.1, r1.2.2.2.2.1, r1.2.2.2.2.2.1, r1.2.2.2.2.2.2) else some r1) else some r1)) else some r1)))
def S31 (k : Nat) : CSpec := { params := [U14, (.int .i64)], res := [(U14, true)], fresh := true, sem := fun x => F31 k x.1 x.2.1 }
theorem e31 : (fun k => evFn ((T (fun _ _ => ⟨[], [], [], false⟩) k).cx [(79, S79 k), (80, S80 k), (81, S81 k)]) 5 Tryz.f31 (S31 0).params (S31 0).res true) = fun k => (S31 k).sem := by kernel_rfl
theorem ok31 {G : World → Prop} (hG : Lasts G) (k : Nat) : (S31 k).ok Tryz.prog G 31 := fn_ok (T_ok (fun _ _ => ⟨[], [], [], false⟩) k) hG (calls := [(79, S79 k), (80, S80 k), (81, S81 k)]) ⟨ok79 hG k, ok80 hG k, ok81 hG k, trivial⟩ 5 rfl (S31 k) (congrFun e31 k)

/-- slices.Clone[[]loop.example/g01402/impl.Conn,loop.example/g01402/impl.Conn] -/
def S184 (k : Nat) : CSpec := { params := [.slice U11], res := [(.slice U11, true)], fresh := false, sem := fun x => semClone x.1 }
theorem ok184 {G : World → Prop} (hG : Lasts G) (k : Nat) : (S184 k).ok Tryz.prog G 184 := ok_Clone Tryz.lClone184 Tryz.func184 (by kernel_rfl) (by kernel_rfl) (by kernel_rfl)

/-- loop.example/g01402/impl.cloneRequest -/
def F141 (k : Nat) (a0 : D9) : Option (D9) :=
  ((semClone a0.2.2.1).bind fun r1 => some (a0.1, a0.2.1, r1, a0.2.2.2))
def S141 (k : Nat) : CSpec := { params := [U9], res := [(U9, true)], fresh := true, sem := fun x => F141 k x.1 }
theorem e141 : (fun k => evFn ((T (fun _ _ => ⟨[], [], [], false⟩) k).cx [(107, S107 k)]) 5 Tryz.f141 (S141 0).params (S141 0).res true) = fun k => (S141 k).sem := by kernel_rfl
theorem ok141 {G : World → Prop} (hG : Lasts G) (k : Nat) : (S141 k).ok Tryz.prog G 141 := fn_ok (T_ok (fun _ _ => ⟨[], [], [], false⟩) k) hG (calls := [(107, S107 k)]) ⟨ok107 hG k, trivial⟩ 5 rfl (S141 k) (congrFun e141 k)

/-- loop.example/g01402/impl.cloneTold -/
def F209 (k : Nat) (a0 : List D10) : Option ((List D10)) :=
  (iter (σ := Int × List D10 × Unit) (fun rec5 x4 => (bif (decide (x4.1 < (a0.length : Int))) then (bif (decide (0 ≤ x4.1 ∧ x4.1 < (a0.length : Int))) then ((F142 k (a0.getD x4.1.toNat Z10).2).bind fun r6 => (bif (decide (x4.2.1.length + ([((a0.getD x4.1.toNat Z10).1, r6)] : List D10).length < most)) then (rec5 ((wrap64 (x4.1 + (1 : Int))), (x4.2.1 ++ ([((a0.getD x4.1.toNat Z10).1, r6)] : List D10)), ())) else none)) else none) else some x4.2.1)) k ((0 : Int), ([] : List D10), ()))
def S209 (k : Nat) : CSpec := { params := [(.slice U10)], res := [((.slice U10), true)], fresh := true, sem := fun x => F209 k x.1 }
theorem e209 : (fun k => evFn ((T (fun _ _ => ⟨[3, 8], [], [1], false⟩) k).cx [(142, S142 k)]) 5 Tryz.f209 (S209 0).params (S209 0).res true) = fun k => (S209 k).sem := by kernel_rfl
theorem ok209 {G : World → Prop} (hG : Lasts G) (k : Nat) : (S209 k).ok Tryz.prog G 209 := fn_ok (T_ok (fun _ _ => ⟨[3, 8], [], [1], false⟩) k) hG (calls := [(142, S142 k)]) ⟨ok142 hG k, trivial⟩ 5 rfl (S209 k) (congrFun e209 k)

/-- loop.example/g01402/impl.cloneConn -/
def F185 (k : Nat) (a0 : D11) : Option (D11) :=
  ((F141 k a0.2.2.2.1).bind fun r1 => ((F141 k a0.2.2.2.2.1).bind fun r2 => ((F165 k a0.2.2.2.2.2.1).bind fun r3 => ((F142 k a0.2.2.2.2.2.2.2.2.2.2.2.2.1).bind fun r4 => ((F209 k a0.2.2.2.2.2.2.2.2.2.2.2.2.2).bind fun r5 => some (a0.1, a0.2.1, a0.2.2.1, r1, r2, r3, a0.2.2.2.2.2.2.1, a0.2.2.2.2.2.2.2.1, a0.2.2.2.2.2.2.2.2.1, a0.2.2.2.2.2.2.2.2.2.1, a0.2.2.2.2.2.2.2.2.2.2.1, a0.2.2.2.2.2.2.2.2.2.2.2.1, r4, r5))))))
def S185 (k : Nat) : CSpec := { params := [U11], res := [(U11, true)], fresh := true, sem := fun x => F185 k x.1 }
theorem e185 : (fun k => evFn ((T (fun _ _ => ⟨[], [], [], false⟩) k).cx [(141, S141 k), (142, S142 k), (165, S165 k), (209, S209 k)]) 5 Tryz.f185 (S185 0).params (S185 0).res true) = fun k => (S185 k).sem := by kernel_rfl
theorem ok185 {G : World → Prop} (hG : Lasts G) (k : Nat) : (S185 k).ok Tryz.prog G 185 := fn_ok (T_ok (fun _ _ => ⟨[], [], [], false⟩) k) hG (calls := [(141, S141 k), (142, S142 k), (165, S165 k), (209, S209 k)]) ⟨ok141 hG k, ok142 hG k, ok165 hG k, ok209 hG k, trivial⟩ 5 rfl (S185 k) (congrFun e185 k)

/-- loop.example/g01402/impl.cloneConns -/
def F139 (k : Nat) (a0 : List D11) : Option ((List D11)) :=
  ((semClone a0).bind fun r1 => (iter (σ := Int × List D11 × Unit) (fun rec3 x2 => (bif (decide (x2.1 < (a0.length : Int))) then (bif (decide (0 ≤ x2.1 ∧ x2.1 < (a0.length : Int))) then ((F185 k (a0.getD x2.1.toNat Z11)).bind fun r4 => (bif (decide (x2.1 = (x2.2.1.length : Int) ∧ x2.2.1.length < r1.length)) then (rec3 ((wrap64 (x2.1 + (1 : Int))), (x2.2.1 ++ [r4]), ())) else none)) else none) else (bif (decide (x2.2.1.length = r1.length)) then some x2.2.1 else none))) k ((0 : Int), ([] : List D11), ())))
def S139 (k : Nat) : CSpec := { params := [(.slice U11)], res := [((.slice U11), true)], fresh := true, sem := fun x => F139 k x.1 }
theorem e139 : (fun k => evFill ((T (fun _ _ => ⟨[], [], [], false⟩) k).cx [(184, S184 k), (185, S185 k)]) 5 3 10 Tryz.f139 (S139 0).params (S139 0).res true) = fun k => (S139 k).sem := by kernel_rfl
theorem ok139 {G : World → Prop} (hG : Lasts G) (k : Nat) : (S139 k).ok Tryz.prog G 139 := fill_ok (T_ok (fun _ _ => ⟨[], [], [], false⟩) k) hG (calls := [(184, S184 k), (185, S185 k)]) ⟨ok184 hG k, ok185 hG k, trivial⟩ 5 3 10 rfl (S139 k) (congrFun e139 k)

/-- slices.Clone[[]loop.example/g01402/impl.Event,loop.example/g01402/impl.Event] -/
def S140 (k : Nat) : CSpec := { params := [.slice U13], res := [(.slice U13, true)], fresh := true, sem := fun x => semClone x.1 }
theorem ok140 {G : World → Prop} (hG : Lasts G) (k : Nat) : (S140 k).ok Tryz.prog G 140 := ok_Clone Tryz.lClone140 Tryz.func140 (by kernel_rfl) (by kernel_rfl) (by kernel_rfl)

/-- loop.example/g01402/impl.cloneWorld -/
def F85 (k : Nat) (a0 : D14) : Option (D14) :=
  ((F139 k a0.2.2.1).bind fun r1 => ((F49 k a0.2.2.2.1).bind fun r2 => ((F50 k a0.2.2.2.2.2.1).bind fun r3 => ((semClone a0.2.2.2.2.2.2).bind fun r4 => (iter (σ := Int × Int × Int × List D12 × Unit) (fun rec10 x9 => (bif (decide (x9.1 < (a0.2.2.2.2.1.length : Int))) then (bif (decide (0 ≤ x9.1 ∧ x9.1 < (a0.2.2.2.2.1.length : Int))) then ((F141 k (a0.2.2.2.2.1.getD x9.1.toNat Z12).2.2.2.2.2.1).bind fun r11 => ((F142 k (a0.2.2.2.2.1.getD x9.1.toNat Z12).2.2.2.2.2.2.1).bind fun r12 => (bif (decide (x9.2.2.2.1.length + ([((a0.2.2.2.2.1.getD x9.1.toNat Z12).1, (a0.2.2.2.2.1.getD x9.1.toNat Z12).2.1, (a0.2.2.2.2.1.getD x9.1.toNat Z12).2.2.1, (a0.2.2.2.2.1.getD x9.1.toNat Z12).2.2.2.1, (a0.2.2.2.2.1.getD x9.1.toNat Z12).2.2.2.2.1, r11, r12, (a0.2.2.2.2.1.getD x9.1.toNat Z12).2.2.2.2.2.2.2.1, (a0.2.2.2.2.1.getD x9.1.toNat Z12).2.2.2.2.2.2.2.2)] : List D12).length < most)) then (rec10 ((wrap64 (x9.1 + (1 : Int))), x9.2.1, x9.2.2.1, (x9.2.2.2.1 ++ ([((a0.2.2.2.2.1.getD x9.1.toNat Z12).1, (a0.2.2.2.2.1.getD x9.1.toNat Z12).2.1, (a0.2.2.2.2.1.getD x9.1.toNat Z12).2.2.1, (a0.2.2.2.2.1.getD x9.1.toNat Z12).2.2.2.1, (a0.2.2.2.2.1.getD x9.1.toNat Z12).2.2.2.2.1, r11, r12, (a0.2.2.2.2.1.getD x9.1.toNat Z12).2.2.2.2.2.2.2.1, (a0.2.2.2.2.1.getD x9.1.toNat Z12).2.2.2.2.2.2.2.2)] : List D12)), ())) else none))) else none) else some (x9.2.1, x9.2.2.1, r1, r2, x9.2.2.2.1, r3, r4))) k ((0 : Int), a0.1, a0.2.1, ([] : List D12), ()))))))
def S85 (k : Nat) : CSpec := { params := [U14], res := [(U14, true)], fresh := true, sem := fun x => F85 k x.1 }
theorem e85 : (fun k => evFn ((T (fun _ _ => ⟨[26], [19], [20], false⟩) k).cx [(49, S49 k), (50, S50 k), (139, S139 k), (140, S140 k), (141, S141 k), (142, S142 k)]) 5 Tryz.f85 (S85 0).params (S85 0).res true) = fun k => (S85 k).sem := by kernel_rfl
theorem ok85 {G : World → Prop} (hG : Lasts G) (k : Nat) : (S85 k).ok Tryz.prog G 85 := fn_ok (T_ok (fun _ _ => ⟨[26], [19], [20], false⟩) k) hG (calls := [(49, S49 k), (50, S50 k), (139, S139 k), (140, S140 k), (141, S141 k), (142, S142 k)]) ⟨ok49 hG k, ok50 hG k, ok139 hG k, ok140 hG k, ok141 hG k, ok142 hG k, trivial⟩ 5 rfl (S85 k) (congrFun e85 k)

/-- loop.example/g01402/impl.RequestOk -/
def F187 (k : Nat) (a0 : D9) : Option (Bool) :=
  ((F210 k a0.1).bind fun r1 => (bif r1 then (bif (decide ((a0.1.size : Int) ≤ (10 : Int))) then ((F103 k a0.2.1).bind fun r2 => (bif r2 then ((F104 k a0.2.2.1).bind fun r3 => (bif r3 then some (decide ((a0.2.2.2.size : Int) ≤ (60 : Int))) else some false)) else some false)) else some false) else some false))
def S187 (k : Nat) : CSpec := { params := [U9], res := [(.bool, false)], fresh := true, sem := fun x => F187 k x.1 }
theorem e187 : (fun k => evFn ((T (fun _ _ => ⟨[], [], [], false⟩) k).cx [(103, S103 k), (104, S104 k), (210, S210 k)]) 5 Tryz.f187 (S187 0).params (S187 0).res true) = fun k => (S187 k).sem := by kernel_rfl
theorem ok187 {G : World → Prop} (hG : Lasts G) (k : Nat) : (S187 k).ok Tryz.prog G 187 := fn_ok (T_ok (fun _ _ => ⟨[], [], [], false⟩) k) hG (calls := [(103, S103 k), (104, S104 k), (210, S210 k)]) ⟨ok103 hG k, ok104 hG k, ok210 hG k, trivial⟩ 5 rfl (S187 k) (congrFun e187 k)

/-- loop.example/g01402/impl.connOk -/
def F145 (k : Nat) (a0 : D11) (a1 : Int) : Option (Bool) :=
  ((F87 k a0.1 (0 : Int) (7 : Int)).bind fun r1 => (bif (!r1) then some false else (bif (decide ((1500 : Int) < (a0.2.1.size : Int))) then some false else ((F87 k a0.1 (1 : Int) (6 : Int)).bind fun r2 => (bif r2 then ((F187 k a0.2.2.2.1).bind fun r3 => (bif (!r3) then some false else ((F87 k a0.2.2.2.2.2.2.2.1 (0 : Int) (wrap64 (a1 - (1 : Int)))).bind fun r4 => (bif r4 then some true else (bif (decide (a0.2.2.2.2.2.2.2.1 = (-1 : Int))) then some (!decide (a0.1 = (5 : Int))) else some false))))) else ((F87 k a0.2.2.2.2.2.2.2.1 (0 : Int) (wrap64 (a1 - (1 : Int)))).bind fun r5 => (bif r5 then some true else (bif (decide (a0.2.2.2.2.2.2.2.1 = (-1 : Int))) then some (!decide (a0.1 = (5 : Int))) else some false))))))))
def S145 (k : Nat) : CSpec := { params := [U11, (.int .i64)], res := [(.bool, false)], fresh := true, sem := fun x => F145 k x.1 x.2.1 }
theorem e145 : (fun k => evFn ((T (fun _ _ => ⟨[], [], [], false⟩) k).cx [(87, S87 k), (187, S187 k)]) 5 Tryz.f145 (S145 0).params (S145 0).res true) = fun k => (S145 k).sem := by kernel_rfl
theorem ok145 {G : World → Prop} (hG : Lasts G) (k : Nat) : (S145 k).ok Tryz.prog G 145 := fn_ok (T_ok (fun _ _ => ⟨[], [], [], false⟩) k) hG (calls := [(87, S87 k), (187, S187 k)]) ⟨ok87 hG k, ok187 hG k, trivial⟩ 5 rfl (S145 k) (congrFun e145 k)

/-- loop.example/g01402/impl.WorldOk -/
def F86 (k : Nat) (a0 : D14) : Option (Bool) :=
  ((F47 k a0.2.2.2.1).bind fun r1 => (bif (!r1) then some false else ((F48 k a0.2.2.2.2.2.1).bind fun r2 => (bif (!r2) then some false else ((F87 k a0.1 (0 : Int) (2000000000 : Int)).bind fun r3 => (bif (!r3) then some false else (bif (decide ((4 : Int) < (a0.2.2.1.length : Int))) then some false else (bif (decide (a0.2.1 < (0 : Int))) then some false else (iter (σ := Int × Unit) (fun rec8 x7 => (bif (decide (x7.1 < (a0.2.2.1.length : Int))) then (bif (decide (0 ≤ x7.1 ∧ x7.1 < (a0.2.2.1.length : Int))) then ((F145 k (a0.2.2.1.getD x7.1.toNat Z11) (a0.2.2.2.2.1.length : Int)).bind fun r9 => (bif (!r9) then some (!(decide ((0 : Int) ≤ x7.1))) else (rec8 ((wrap64 (x7.1 + (1 : Int))), ())))) else none) else some (!(decide ((0 : Int) ≤ (-1 : Int)))))) k ((0 : Int), ()))))))))))
def S86 (k : Nat) : CSpec := { params := [U14], res := [(.bool, false)], fresh := true, sem := fun x => F86 k x.1 }
theorem e86 : (fun k => evFn ((T (fun _ _ => ⟨[8], [], [], false⟩) k).cx [(47, S47 k), (48, S48 k), (87, S87 k), (145, S145 k)]) 5 Tryz.f86 (S86 0).params (S86 0).res true) = fun k => (S86 k).sem := by kernel_rfl
theorem ok86 {G : World → Prop} (hG : Lasts G) (k : Nat) : (S86 k).ok Tryz.prog G 86 := fn_ok (T_ok (fun _ _ => ⟨[8], [], [], false⟩) k) hG (calls := [(47, S47 k), (48, S48 k), (87, S87 k), (145, S145 k)]) ⟨ok47 hG k, ok48 hG k, ok87 hG k, ok145 hG k, trivial⟩ 5 rfl (S86 k) (congrFun e86 k)

/-- loop.example/g01402/impl.WorldTick -/
def F33 (k : Nat) (a0 : D14) (a1 : Int) : Option (D14) :=
  ((F85 k a0).bind fun r1 => ((F86 k a0).bind fun r2 => (bif r2 then ((F87 k a1 (0 : Int) (1000 : Int)).bind fun r3 => (bif r3 then (bif (decide ((wrap64 (a0.1 + a1)) ≤ (2000000000 : Int))) then some ((wrap64 (r1.1 + a1)), r1.2.1, r1.2.2.1, r1.2.2.2.1, r1.2.2.2.2.1, r1.2.2.2.2.2.1, r1.2.2.2.2.2.2) else some r1) else some r1)) else some r1)))
def S33 (k : Nat) : CSpec := { params := [U14, (.int .i64)], res := [(U14, true)], fresh := true, sem := fun x => F33 k x.1 x.2.1 }
theorem e33 : (fun k => evFn ((T (fun _ _ => ⟨[], [], [], false⟩) k).cx [(85, S85 k), (86, S86 k), (87, S87 k)]) 5 Tryz.f33 (S33 0).params (S33 0).res true) = fun k => (S33 k).sem := by kernel_rfl
theorem ok33 {G : World → Prop} (hG : Lasts G) (k : Nat) : (S33 k).ok Tryz.prog G 33 := fn_ok (T_ok (fun _ _ => ⟨[], [], [], false⟩) k) hG (calls := [(85, S85 k), (86, S86 k), (87, S87 k)]) ⟨ok85 hG k, ok86 hG k, ok87 hG k, trivial⟩ 5 rfl (S33 k) (congrFun e33 k)

/-- loop.example/g01402/spec.Restart -/
def F34 (k : Nat) (a0 : D14) (a1 : List ByteArray) : Option (D14) :=
  ((F80 k a0).bind fun r1 => (bif (!r1) then some (Z14.1, Z14.2.1, ([] : List D11), (([] : List D4), ([] : List D5)), ([] : List D12), ([] : List D7), ([] : List D13)) else ((F10 k a1 a0.2.2.2.1 a0.2.2.2.2.2.1).bind fun r2 => (bif (decide ((a1.length : Int) ≤ (4 : Int))) then some (a0.1, r2.2.1, r2.2.2.1, r2.2.2.2.1, r2.2.2.2.2.1, r2.2.2.2.2.2.1, r2.2.2.2.2.2.2) else some r2))))
def S34 (k : Nat) : CSpec := { params := [U14, (.slice .str)], res := [(U14, true)], fresh := true, sem := fun x => F34 k x.1 x.2.1 }
theorem e34 : (fun k => evFn ((T (fun _ _ => ⟨[], [], [], false⟩) k).cx [(10, S10 k), (80, S80 k)]) 5 Tryz.f34 (S34 0).params (S34 0).res true) = fun k => (S34 k).sem := by kernel_rfl
theorem ok34 {G : World → Prop} (hG : Lasts G) (k : Nat) : (S34 k).ok Tryz.prog G 34 := fn_ok (T_ok (fun _ _ => ⟨[], [], [], false⟩) k) hG (calls := [(10, S10 k), (80, S80 k)]) ⟨ok10 hG k, ok80 hG k, trivial⟩ 5 rfl (S34 k) (congrFun e34 k)

/-- loop.example/g01402/impl.Restart -/
def F35 (k : Nat) (a0 : D14) (a1 : List ByteArray) : Option (D14) :=
  ((F86 k a0).bind fun r1 => (bif (!r1) then some (Z14.1, Z14.2.1, ([] : List D11), (([] : List D4), ([] : List D5)), ([] : List D12), ([] : List D7), ([] : List D13)) else (bif (decide ((4 : Int) < (a1.length : Int))) then some (Z14.1, Z14.2.1, ([] : List D11), (([] : List D4), ([] : List D5)), ([] : List D12), ([] : List D7), ([] : List D13)) else ((F14 k a1 a0.2.2.2.1 a0.2.2.2.2.2.1).bind fun r2 => some (a0.1, r2.2.1, r2.2.2.1, r2.2.2.2.1, r2.2.2.2.2.1, r2.2.2.2.2.2.1, r2.2.2.2.2.2.2)))))
def S35 (k : Nat) : CSpec := { params := [U14, (.slice .str)], res := [(U14, true)], fresh := true, sem := fun x => F35 k x.1 x.2.1 }
theorem e35 : (fun k => evFn ((T (fun _ _ => ⟨[], [], [], false⟩) k).cx [(14, S14 k), (86, S86 k)]) 5 Tryz.f35 (S35 0).params (S35 0).res true) = fun k => (S35 k).sem := by kernel_rfl
theorem ok35 {G : World → Prop} (hG : Lasts G) (k : Nat) : (S35 k).ok Tryz.prog G 35 := fn_ok (T_ok (fun _ _ => ⟨[], [], [], false⟩) k) hG (calls := [(14, S14 k), (86, S86 k)]) ⟨ok14 hG k, ok86 hG k, trivial⟩ 5 rfl (S35 k) (congrFun e35 k)
end Go.Proofs.YteliolfafmmhlaaGreatDoor.Fns
