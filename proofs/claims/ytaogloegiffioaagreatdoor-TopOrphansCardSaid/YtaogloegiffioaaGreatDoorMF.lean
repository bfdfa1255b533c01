import Derived.Test.YtaogloegiffioaaGreatDoorMC
import Derived.Test.YtaogloegiffioaaGreatDoorME
set_option linter.all false
namespace Go.Proofs.YtaogloegiffioaaGreatDoor
noncomputable section
def L : List (FuncId × Fu) := [(358, f358), (359, f359), (345, f345), (171, f171), (346, f346), (51, f51), (56, f56), (150, f150), (234, f234), (169, f169), (102, f102), (62, f62), (100, f100), (99, f99), (101, f101), (309, f309), (308, f308), (88, f88), (267, f267), (193, f193), (93, f93), (58, f58), (96, f96), (95, f95), (97, f97), (288, f288), (84, f84), (47, f47), (222, f222), (223, f223), (282, f282), (283, f283), (225, f225), (161, f161), (149, f149), (98, f98), (60, f60), (142, f142), (135, f135), (194, f194), (195, f195), (136, f136), (186, f186), (224, f224), (159, f159), (310, f310), (303, f303), (342, f342), (300, f300), (343, f343), (344, f344), (307, f307), (306, f306), (243, f243), (286, f286), (48, f48), (220, f220), (293, f293), (361, f361), (32, f32), (365, f365), (360, f360), (347, f347), (311, f311), (39, f39), (312, f312), (247, f247), (44, f44), (77, f77), (128, f128), (178, f178), (179, f179), (250, f250), (313, f313), (251, f251), (252, f252), (180, f180), (127, f127), (315, f315), (253, f253), (181, f181), (129, f129), (78, f78), (130, f130), (79, f79), (192, f192), (266, f266), (191, f191), (134, f134), (81, f81), (316, f316), (254, f254), (182, f182), (131, f131), (106, f106), (183, f183), (255, f255), (184, f184), (256, f256), (185, f185), (258, f258), (49, f49), (317, f317), (257, f257), (260, f260), (87, f87), (362, f362), (349, f349), (320, f320), (263, f263), (318, f318), (259, f259), (265, f265), (264, f264), (190, f190), (348, f348), (319, f319), (261, f261), (187, f187), (262, f262), (188, f188), (189, f189), (133, f133), (66, f66), (132, f132), (80, f80), (45, f45), (72, f72), (73, f73), (74, f74), (123, f123), (238, f238), (304, f304), (91, f91), (144, f144), (90, f90), (207, f207), (139, f139), (209, f209), (145, f145), (92, f92), (57, f57), (208, f208), (328, f328), (352, f352), (354, f354), (353, f353), (330, f330), (329, f329), (285, f285), (219, f219), (305, f305), (241, f241), (230, f230), (231, f231), (336, f336), (295, f295), (277, f277), (296, f296), (294, f294), (232, f232), (147, f147), (356, f356), (337, f337), (297, f297), (233, f233), (167, f167), (168, f168), (245, f245), (338, f338), (339, f339), (299, f299), (301, f301), (357, f357), (340, f340), (341, f341), (302, f302), (236, f236), (239, f239), (237, f237), (240, f240), (268, f268), (196, f196), (137, f137), (82, f82), (244, f244), (174, f174), (124, f124), (141, f141), (284, f284), (218, f218), (146, f146), (148, f148), (94, f94), (59, f59), (143, f143), (89, f89), (54, f54), (27, f27), (155, f155), (110, f110), (154, f154), (107, f107), (108, f108), (109, f109), (287, f287), (221, f221), (156, f156), (158, f158), (157, f157), (160, f160), (111, f111), (228, f228), (229, f229), (163, f163), (292, f292), (335, f335), (290, f290), (334, f334), (332, f332), (363, f363), (355, f355), (333, f333), (289, f289), (291, f291), (226, f226), (227, f227), (162, f162), (165, f165), (164, f164), (166, f166), (112, f112), (30, f30), (203, f203), (197, f197), (138, f138), (83, f83), (46, f46), (29, f29), (113, f113), (125, f125), (75, f75), (175, f175), (28, f28), (50, f50), (31, f31), (13, f13), (246, f246), (176, f176), (177, f177), (126, f126), (76, f76), (43, f43), (25, f25), (8, f8), (9, f9), (26, f26), (10, f10), (19, f19), (21, f21), (67, f67), (114, f114), (68, f68), (235, f235), (170, f170), (118, f118), (115, f115), (53, f53), (35, f35), (172, f172), (119, f119), (52, f52), (34, f34), (33, f33), (120, f120), (121, f121), (69, f69), (15, f15), (37, f37), (38, f38), (17, f17), (40, f40), (63, f63), (152, f152), (153, f153), (105, f105), (65, f65), (151, f151), (103, f103), (104, f104), (64, f64), (41, f41), (18, f18), (36, f36), (16, f16), (42, f42), (22, f22), (11, f11), (12, f12), (23, f23), (7, f7)]
def vals : List FuncId := [192, 258, 265, 238, 91, 352, 354, 241, 243, 245, 292, 334]
def tabK (k : Nat) : FuncId → Fu := tabL (L.take k)
def vtabK (k : Nat) : Nat → Nat → Fu := vtabL Tryz.prog vals (L.take k)
end
end Go.Proofs.YtaogloegiffioaaGreatDoor
namespace Go.Proofs.YtaogloegiffioaaGreatDoor
set_option maxRecDepth 20000
theorem t0 : denF Tryz.prog (tabK 0) (vtabK 0) 358 = f358 := by kernel_rfl
theorem t1 : denF Tryz.prog (tabK 1) (vtabK 1) 359 = f359 := by kernel_rfl
theorem t2 : denF Tryz.prog (tabK 2) (vtabK 2) 345 = f345 := by kernel_rfl
theorem t3 : denF Tryz.prog (tabK 3) (vtabK 3) 171 = f171 := by kernel_rfl
theorem t4 : denF Tryz.prog (tabK 4) (vtabK 4) 346 = f346 := by kernel_rfl
theorem t5 : denF Tryz.prog (tabK 5) (vtabK 5) 51 = f51 := by kernel_rfl
theorem t6 : denF Tryz.prog (tabK 6) (vtabK 6) 56 = f56 := by kernel_rfl
theorem t7 : denF Tryz.prog (tabK 7) (vtabK 7) 150 = f150 := by kernel_rfl
theorem t8 : denF Tryz.prog (tabK 8) (vtabK 8) 234 = f234 := by kernel_rfl
theorem t9 : denF Tryz.prog (tabK 9) (vtabK 9) 169 = f169 := by kernel_rfl
theorem t10 : denF Tryz.prog (tabK 10) (vtabK 10) 102 = f102 := by kernel_rfl
theorem t11 : denF Tryz.prog (tabK 11) (vtabK 11) 62 = f62 := by kernel_rfl
theorem t12 : denF Tryz.prog (tabK 12) (vtabK 12) 100 = f100 := by kernel_rfl
theorem t13 : denF Tryz.prog (tabK 13) (vtabK 13) 99 = f99 := by kernel_rfl
theorem t14 : denF Tryz.prog (tabK 14) (vtabK 14) 101 = f101 := by kernel_rfl
theorem t15 : denF Tryz.prog (tabK 15) (vtabK 15) 309 = f309 := by kernel_rfl
theorem t16 : denF Tryz.prog (tabK 16) (vtabK 16) 308 = f308 := by kernel_rfl
theorem t17 : denF Tryz.prog (tabK 17) (vtabK 17) 88 = f88 := by kernel_rfl
theorem t18 : denF Tryz.prog (tabK 18) (vtabK 18) 267 = f267 := by kernel_rfl
theorem t19 : denF Tryz.prog (tabK 19) (vtabK 19) 193 = f193 := by kernel_rfl
theorem t20 : denF Tryz.prog (tabK 20) (vtabK 20) 93 = f93 := by kernel_rfl
theorem t21 : denF Tryz.prog (tabK 21) (vtabK 21) 58 = f58 := by kernel_rfl
theorem t22 : denF Tryz.prog (tabK 22) (vtabK 22) 96 = f96 := by kernel_rfl
theorem t23 : denF Tryz.prog (tabK 23) (vtabK 23) 95 = f95 := by kernel_rfl
theorem t24 : denF Tryz.prog (tabK 24) (vtabK 24) 97 = f97 := by kernel_rfl
theorem t25 : denF Tryz.prog (tabK 25) (vtabK 25) 288 = f288 := by kernel_rfl
theorem t26 : denF Tryz.prog (tabK 26) (vtabK 26) 84 = f84 := by kernel_rfl
theorem t27 : denF Tryz.prog (tabK 27) (vtabK 27) 47 = f47 := by kernel_rfl
theorem t29 : denF Tryz.prog (tabK 29) (vtabK 29) 223 = f223 := by kernel_rfl
theorem t30 : denF Tryz.prog (tabK 30) (vtabK 30) 282 = f282 := by kernel_rfl
theorem t31 : denF Tryz.prog (tabK 31) (vtabK 31) 283 = f283 := by kernel_rfl
theorem t32 : denF Tryz.prog (tabK 32) (vtabK 32) 225 = f225 := by kernel_rfl
theorem t33 : denF Tryz.prog (tabK 33) (vtabK 33) 161 = f161 := by kernel_rfl
theorem t34 : denF Tryz.prog (tabK 34) (vtabK 34) 149 = f149 := by kernel_rfl
theorem t35 : denF Tryz.prog (tabK 35) (vtabK 35) 98 = f98 := by kernel_rfl
theorem t36 : denF Tryz.prog (tabK 36) (vtabK 36) 60 = f60 := by kernel_rfl
theorem t37 : denF Tryz.prog (tabK 37) (vtabK 37) 142 = f142 := by kernel_rfl
theorem t38 : denF Tryz.prog (tabK 38) (vtabK 38) 135 = f135 := by kernel_rfl
theorem t39 : denF Tryz.prog (tabK 39) (vtabK 39) 194 = f194 := by kernel_rfl
theorem t40 : denF Tryz.prog (tabK 40) (vtabK 40) 195 = f195 := by kernel_rfl
theorem t41 : denF Tryz.prog (tabK 41) (vtabK 41) 136 = f136 := by kernel_rfl
theorem t42 : denF Tryz.prog (tabK 42) (vtabK 42) 186 = f186 := by kernel_rfl
theorem t43 : denF Tryz.prog (tabK 43) (vtabK 43) 224 = f224 := by kernel_rfl
theorem t44 : denF Tryz.prog (tabK 44) (vtabK 44) 159 = f159 := by kernel_rfl
theorem t45 : denF Tryz.prog (tabK 45) (vtabK 45) 310 = f310 := by kernel_rfl
theorem t46 : denF Tryz.prog (tabK 46) (vtabK 46) 303 = f303 := by kernel_rfl
theorem t47 : denF Tryz.prog (tabK 47) (vtabK 47) 342 = f342 := by kernel_rfl
theorem t48 : denF Tryz.prog (tabK 48) (vtabK 48) 300 = f300 := by kernel_rfl
theorem t49 : denF Tryz.prog (tabK 49) (vtabK 49) 343 = f343 := by kernel_rfl
theorem t50 : denF Tryz.prog (tabK 50) (vtabK 50) 344 = f344 := by kernel_rfl
theorem t51 : denF Tryz.prog (tabK 51) (vtabK 51) 307 = f307 := by kernel_rfl
theorem t52 : denF Tryz.prog (tabK 52) (vtabK 52) 306 = f306 := by kernel_rfl
theorem t53 : denF Tryz.prog (tabK 53) (vtabK 53) 243 = f243 := by kernel_rfl
theorem t54 : denF Tryz.prog (tabK 54) (vtabK 54) 286 = f286 := by kernel_rfl
theorem t56 : denF Tryz.prog (tabK 56) (vtabK 56) 220 = f220 := by kernel_rfl
theorem t57 : denF Tryz.prog (tabK 57) (vtabK 57) 293 = f293 := by kernel_rfl
theorem t58 : denF Tryz.prog (tabK 58) (vtabK 58) 361 = f361 := by kernel_rfl
theorem t59 : denF Tryz.prog (tabK 59) (vtabK 59) 32 = f32 := by kernel_rfl
theorem t60 : denF Tryz.prog (tabK 60) (vtabK 60) 365 = f365 := by kernel_rfl
theorem t61 : denF Tryz.prog (tabK 61) (vtabK 61) 360 = f360 := by kernel_rfl
theorem t62 : denF Tryz.prog (tabK 62) (vtabK 62) 347 = f347 := by kernel_rfl
theorem t63 : denF Tryz.prog (tabK 63) (vtabK 63) 311 = f311 := by kernel_rfl
theorem t64 : denF Tryz.prog (tabK 64) (vtabK 64) 39 = f39 := by kernel_rfl
theorem t65 : denF Tryz.prog (tabK 65) (vtabK 65) 312 = f312 := by kernel_rfl
theorem t66 : denF Tryz.prog (tabK 66) (vtabK 66) 247 = f247 := by kernel_rfl
theorem t69 : denF Tryz.prog (tabK 69) (vtabK 69) 128 = f128 := by kernel_rfl
theorem t70 : denF Tryz.prog (tabK 70) (vtabK 70) 178 = f178 := by kernel_rfl
theorem t72 : denF Tryz.prog (tabK 72) (vtabK 72) 250 = f250 := by kernel_rfl
theorem t74 : denF Tryz.prog (tabK 74) (vtabK 74) 251 = f251 := by kernel_rfl
theorem t76 : denF Tryz.prog (tabK 76) (vtabK 76) 180 = f180 := by kernel_rfl
theorem t77 : denF Tryz.prog (tabK 77) (vtabK 77) 127 = f127 := by kernel_rfl
theorem t78 : denF Tryz.prog (tabK 78) (vtabK 78) 315 = f315 := by kernel_rfl
theorem t79 : denF Tryz.prog (tabK 79) (vtabK 79) 253 = f253 := by kernel_rfl
theorem t80 : denF Tryz.prog (tabK 80) (vtabK 80) 181 = f181 := by kernel_rfl
theorem t81 : denF Tryz.prog (tabK 81) (vtabK 81) 129 = f129 := by kernel_rfl
theorem t82 : denF Tryz.prog (tabK 82) (vtabK 82) 78 = f78 := by kernel_rfl
theorem t83 : denF Tryz.prog (tabK 83) (vtabK 83) 130 = f130 := by kernel_rfl
theorem t84 : denF Tryz.prog (tabK 84) (vtabK 84) 79 = f79 := by kernel_rfl
theorem t85 : denF Tryz.prog (tabK 85) (vtabK 85) 192 = f192 := by kernel_rfl
theorem t86 : denF Tryz.prog (tabK 86) (vtabK 86) 266 = f266 := by kernel_rfl
theorem t87 : denF Tryz.prog (tabK 87) (vtabK 87) 191 = f191 := by kernel_rfl
theorem t88 : denF Tryz.prog (tabK 88) (vtabK 88) 134 = f134 := by kernel_rfl
theorem t89 : denF Tryz.prog (tabK 89) (vtabK 89) 81 = f81 := by kernel_rfl
theorem t90 : denF Tryz.prog (tabK 90) (vtabK 90) 316 = f316 := by kernel_rfl
theorem t91 : denF Tryz.prog (tabK 91) (vtabK 91) 254 = f254 := by kernel_rfl
theorem t92 : denF Tryz.prog (tabK 92) (vtabK 92) 182 = f182 := by kernel_rfl
theorem t93 : denF Tryz.prog (tabK 93) (vtabK 93) 131 = f131 := by kernel_rfl
end Go.Proofs.YtaogloegiffioaaGreatDoor
namespace Go.Proofs.YtaogloegiffioaaGreatDoor
set_option maxRecDepth 20000
theorem t28 : denF Tryz.prog (tabK 28) (vtabK 28) 222 = f222 := by kernel_rfl
end Go.Proofs.YtaogloegiffioaaGreatDoor
