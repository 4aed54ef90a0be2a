/-
  Contracts of functions, part 1.
-/
import Derived.Test.YtcnongahanmclaaGreatEvC
import Derived.Test.YtcnongahanmclaaGreatProg
import Derived.KernelRfl
set_option linter.unusedVariables false
set_option linter.unusedSimpArgs false
namespace Go.Proofs.YtcnongahanmclaaGreat
open Go Go.Proofs Ev
def tab : List (TypeId × TI) := [
 (2, ⟨1, 8, false, .int .i64, [.int .i64 0], [none], none⟩),
 (3, ⟨1, 8, false, .int .i64, [.int .i64 0], [none], none⟩),
 (4, ⟨1, 1, false, .bool, [.bool false], [none], none⟩),
 (5, ⟨1, 1, false, .int .u8, [.int .u8 0], [none], none⟩),
 (9, ⟨1, 16, false, .str, [.string ⟨#[]⟩], [none], none⟩),
 (12, ⟨1, 8, false, .int .u64, [.int .u64 0], [none], none⟩),
 (20, ⟨1, 16, false, .other, [.nilIface], [none], none⟩),
 (21, ⟨1, 4, false, .int .i32, [.int .i32 0], [none], none⟩),
 (22, ⟨1, 24, false, .slice 78, [nilV], [some 78], none⟩),
 (23, ⟨1, 24, false, .slice 118, [nilV], [some 118], none⟩),
 (24, ⟨1, 24, false, .slice 3, [nilV], [some 3], none⟩),
 (25, ⟨4, 80, true, .struct [(0, 3), (1, 22), (2, 23), (3, 24)], [.int .i64 0, nilV, nilV, nilV], [none, some 78, some 118, some 3], none⟩),
 (26, ⟨4, 80, true, .struct [(0, 3), (1, 22), (2, 23), (3, 24)], [.int .i64 0, nilV, nilV, nilV], [none, some 78, some 118, some 3], none⟩),
 (27, ⟨1, 8, false, .other, [.nilFunc], [none], none⟩),
 (28, ⟨1, 8, false, .other, [.nilFunc], [none], none⟩),
 (29, ⟨1, 24, false, .slice 54, [nilV], [some 54], none⟩),
 (30, ⟨1, 24, false, .slice 66, [nilV], [some 66], none⟩),
 (31, ⟨4, 80, true, .struct [(0, 3), (1, 29), (2, 30), (3, 24)], [.int .i64 0, nilV, nilV, nilV], [none, some 54, some 66, some 3], none⟩),
 (32, ⟨4, 80, true, .struct [(0, 3), (1, 29), (2, 30), (3, 24)], [.int .i64 0, nilV, nilV, nilV], [none, some 54, some 66, some 3], none⟩),
 (34, ⟨1, 8, false, .other, [.nilFunc], [none], none⟩),
 (35, ⟨1, 8, false, .other, [.nilFunc], [none], none⟩),
 (36, ⟨1, 8, false, .other, [.nilFunc], [none], none⟩),
 (37, ⟨1, 8, false, .other, [.nilFunc], [none], none⟩),
 (38, ⟨1, 8, false, .other, [.nilFunc], [none], none⟩),
 (39, ⟨1, 8, false, .other, [.nilFunc], [none], none⟩),
 (40, ⟨1, 8, false, .other, [.nilFunc], [none], none⟩),
 (41, ⟨1, 8, false, .other, [.nilFunc], [none], none⟩),
 (42, ⟨1, 8, false, .other, [.nilFunc], [none], none⟩),
 (43, ⟨1, 8, false, .other, [.nilFunc], [none], none⟩),
 (44, ⟨1, 8, false, .other, [.nilFunc], [none], none⟩),
 (45, ⟨1, 8, false, .other, [.nilFunc], [none], none⟩),
 (46, ⟨1, 24, false, .slice 5, [nilV], [some 5], none⟩),
 (47, ⟨1, 8, false, .other, [.nilFunc], [none], none⟩),
 (48, ⟨1, 8, false, .other, [.nilFunc], [none], none⟩),
 (49, ⟨1, 8, false, .other, [.nilFunc], [none], none⟩),
 (50, ⟨1, 8, false, .other, [.nilFunc], [none], none⟩),
 (52, ⟨1, 8, false, .other, [.nilFunc], [none], none⟩),
 (53, ⟨5, 56, true, .struct [(0, 9), (1, 3), (2, 3), (3, 9), (4, 3)], [.string ⟨#[]⟩, .int .i64 0, .int .i64 0, .string ⟨#[]⟩, .int .i64 0], [none, none, none, none, none], some [.str, .int .i64, .int .i64, .str, .int .i64]⟩),
 (54, ⟨5, 56, true, .struct [(0, 9), (1, 3), (2, 3), (3, 9), (4, 3)], [.string ⟨#[]⟩, .int .i64 0, .int .i64 0, .string ⟨#[]⟩, .int .i64 0], [none, none, none, none, none], some [.str, .int .i64, .int .i64, .str, .int .i64]⟩),
 (55, ⟨1, 8, false, .other, [.nilFunc], [none], none⟩),
 (57, ⟨1, 8, false, .other, [.nilFunc], [none], none⟩),
 (58, ⟨1, 8, false, .other, [.nilFunc], [none], none⟩),
 (59, ⟨1, 8, false, .other, [.nilFunc], [none], none⟩),
 (61, ⟨1, 8, false, .other, [.nilFunc], [none], none⟩),
 (62, ⟨3, 32, true, .struct [(0, 4), (1, 9), (2, 3)], [.bool false, .string ⟨#[]⟩, .int .i64 0], [none, none, none], some [.bool, .str, .int .i64]⟩),
 (63, ⟨3, 32, true, .struct [(0, 4), (1, 9), (2, 3)], [.bool false, .string ⟨#[]⟩, .int .i64 0], [none, none, none], some [.bool, .str, .int .i64]⟩),
 (64, ⟨1, 8, false, .other, [.nilFunc], [none], none⟩),
 (65, ⟨1, 8, false, .other, [.nilFunc], [none], none⟩),
 (66, ⟨1, 24, false, .slice 68, [nilV], [some 68], none⟩),
 (67, ⟨2, 32, true, .struct [(0, 29), (1, 3)], [nilV, .int .i64 0], [some 54, none], none⟩),
 (68, ⟨2, 32, true, .struct [(0, 29), (1, 3)], [nilV, .int .i64 0], [some 54, none], none⟩),
 (69, ⟨1, 8, false, .other, [.nilFunc], [none], none⟩),
 (70, ⟨1, 24, false, .slice 9, [nilV], [some 9], none⟩),
 (71, ⟨1, 8, false, .other, [.nilFunc], [none], none⟩),
 (72, ⟨1, 8, false, .other, [.nilFunc], [none], none⟩),
 (74, ⟨1, 8, false, .other, [.nilFunc], [none], none⟩),
 (75, ⟨1, 8, false, .other, [.nilFunc], [none], none⟩),
 (76, ⟨1, 8, false, .other, [.nilFunc], [none], none⟩),
 (77, ⟨1, 8, false, .other, [.nilFunc], [none], none⟩),
 (78, ⟨5, 56, true, .struct [(0, 9), (1, 3), (2, 3), (3, 9), (4, 3)], [.string ⟨#[]⟩, .int .i64 0, .int .i64 0, .string ⟨#[]⟩, .int .i64 0], [none, none, none, none, none], some [.str, .int .i64, .int .i64, .str, .int .i64]⟩),
 (79, ⟨1, 8, false, .other, [.nilFunc], [none], none⟩),
 (80, ⟨1, 8, false, .other, [.nilFunc], [none], none⟩),
 (81, ⟨1, 8, false, .other, [.nilFunc], [none], none⟩),
 (82, ⟨1, 8, false, .other, [.nilFunc], [none], none⟩),
 (83, ⟨1, 8, false, .other, [.nilFunc], [none], none⟩),
 (84, ⟨1, 8, false, .other, [.nilFunc], [none], none⟩),
 (85, ⟨1, 8, false, .other, [.nilFunc], [none], none⟩),
 (86, ⟨1, 8, false, .other, [.nilFunc], [none], none⟩),
 (87, ⟨1, 8, false, .other, [.nilFunc], [none], none⟩),
 (88, ⟨1, 8, false, .other, [.nilFunc], [none], none⟩),
 (89, ⟨1, 8, false, .other, [.nilFunc], [none], none⟩),
 (90, ⟨1, 8, false, .ptr, [.pointer none], [none], none⟩),
 (91, ⟨1, 8, false, .other, [.nilFunc], [none], none⟩),
 (92, ⟨1, 8, false, .other, [.nilFunc], [none], none⟩),
 (93, ⟨1, 8, false, .other, [.nilFunc], [none], none⟩),
 (94, ⟨1, 8, false, .other, [.nilFunc], [none], none⟩),
 (95, ⟨1, 8, false, .other, [.nilFunc], [none], none⟩),
 (96, ⟨1, 8, false, .other, [.nilFunc], [none], none⟩),
 (97, ⟨1, 8, false, .other, [.nilFunc], [none], none⟩),
 (98, ⟨1, 8, false, .other, [.nilFunc], [none], none⟩),
 (99, ⟨1, 8, false, .other, [.nilFunc], [none], none⟩),
 (100, ⟨1, 8, false, .other, [.nilFunc], [none], none⟩),
 (101, ⟨1, 8, false, .other, [.nilFunc], [none], none⟩),
 (102, ⟨1, 8, false, .other, [.nilFunc], [none], none⟩),
 (103, ⟨1, 8, false, .other, [.nilFunc], [none], none⟩),
 (104, ⟨1, 24, false, .slice 29, [nilV], [some 29], none⟩),
 (105, ⟨1, 8, false, .other, [.nilFunc], [none], none⟩),
 (106, ⟨1, 8, false, .other, [.nilFunc], [none], none⟩),
 (107, ⟨1, 8, false, .other, [.nilFunc], [none], none⟩),
 (108, ⟨1, 8, false, .other, [.nilFunc], [none], none⟩),
 (109, ⟨1, 8, false, .other, [.nilFunc], [none], none⟩),
 (110, ⟨1, 8, false, .other, [.nilFunc], [none], none⟩),
 (111, ⟨1, 8, false, .other, [.nilFunc], [none], none⟩),
 (112, ⟨1, 8, false, .other, [.nilFunc], [none], none⟩),
 (113, ⟨1, 16, false, .other, [.nilIface], [none], none⟩),
 (114, ⟨1, 16, false, .other, [.nilIface], [none], none⟩),
 (115, ⟨1, 8, false, .other, [.nilFunc], [none], none⟩),
 (116, ⟨1, 8, false, .other, [.nilFunc], [none], none⟩),
 (117, ⟨1, 8, false, .other, [.nilFunc], [none], none⟩),
 (118, ⟨1, 24, false, .slice 180, [nilV], [some 180], none⟩),
 (120, ⟨1, 8, false, .other, [.nilFunc], [none], none⟩),
 (121, ⟨1, 8, false, .other, [.nilFunc], [none], none⟩),
 (122, ⟨1, 8, false, .other, [.nilFunc], [none], none⟩),
 (123, ⟨1, 8, false, .other, [.nilFunc], [none], none⟩),
 (124, ⟨1, 8, false, .other, [.nilFunc], [none], none⟩),
 (125, ⟨1, 8, false, .other, [.nilFunc], [none], none⟩),
 (126, ⟨1, 8, false, .other, [.nilFunc], [none], none⟩),
 (127, ⟨1, 8, false, .other, [.nilFunc], [none], none⟩),
 (128, ⟨1, 8, false, .other, [.nilFunc], [none], none⟩),
 (129, ⟨3, 72, true, .array 3 66, [nilV, nilV, nilV], [some 68, some 68, some 68], none⟩),
 (130, ⟨3, 72, true, .array 3 66, [nilV, nilV, nilV], [some 68, some 68, some 68], none⟩),
 (131, ⟨1, 8, false, .other, [.nilFunc], [none], none⟩),
 (133, ⟨1, 8, false, .other, [.nilFunc], [none], none⟩),
 (134, ⟨1, 8, false, .other, [.nilFunc], [none], none⟩),
 (135, ⟨1, 8, false, .other, [.nilFunc], [none], none⟩),
 (136, ⟨1, 8, false, .other, [.nilFunc], [none], none⟩),
 (138, ⟨1, 8, false, .other, [.nilFunc], [none], none⟩),
 (140, ⟨1, 8, false, .other, [.nilFunc], [none], none⟩),
 (142, ⟨1, 8, false, .other, [.nilFunc], [none], none⟩),
 (143, ⟨1, 8, false, .other, [.nilFunc], [none], none⟩),
 (145, ⟨1, 8, false, .other, [.nilFunc], [none], none⟩),
 (146, ⟨2, 32, true, .struct [(0, 46), (1, 3)], [nilV, .int .i64 0], [some 5, none], none⟩),
 (147, ⟨2, 32, true, .struct [(0, 46), (1, 3)], [nilV, .int .i64 0], [some 5, none], none⟩),
 (148, ⟨1, 8, false, .other, [.nilFunc], [none], none⟩),
 (149, ⟨1, 8, false, .other, [.nilFunc], [none], none⟩),
 (150, ⟨1, 8, false, .other, [.nilFunc], [none], none⟩),
 (151, ⟨1, 8, false, .other, [.nilFunc], [none], none⟩),
 (152, ⟨1, 8, false, .other, [.nilFunc], [none], none⟩),
 (153, ⟨1, 24, false, .slice 24, [nilV], [some 24], none⟩),
 (154, ⟨1, 8, false, .other, [.nilFunc], [none], none⟩),
 (155, ⟨1, 8, false, .other, [.nilFunc], [none], none⟩),
 (156, ⟨1, 8, false, .other, [.nilFunc], [none], none⟩),
 (157, ⟨1, 8, false, .other, [.nilFunc], [none], none⟩),
 (158, ⟨1, 8, false, .map 9 3, [.map none], [none], none⟩),
 (159, ⟨1, 24, false, .slice 162, [nilV], [some 162], none⟩),
 (160, ⟨1, 24, false, .slice 162, [nilV], [some 162], none⟩),
 (161, ⟨2, 32, true, .struct [(0, 29), (1, 3)], [nilV, .int .i64 0], [some 54, none], none⟩),
 (162, ⟨2, 32, true, .struct [(0, 29), (1, 3)], [nilV, .int .i64 0], [some 54, none], none⟩),
 (163, ⟨1, 8, false, .other, [.nilFunc], [none], none⟩),
 (164, ⟨1, 8, false, .ptr, [.pointer none], [none], none⟩),
 (165, ⟨1, 8, false, .other, [.nilFunc], [none], none⟩),
 (166, ⟨1, 8, false, .other, [.nilFunc], [none], none⟩),
 (167, ⟨1, 8, false, .other, [.nilFunc], [none], none⟩),
 (168, ⟨1, 8, false, .other, [.nilFunc], [none], none⟩),
 (169, ⟨1, 8, false, .other, [.nilFunc], [none], none⟩),
 (170, ⟨1, 8, false, .other, [.nilFunc], [none], none⟩),
 (171, ⟨2, 24, true, .struct [(0, 9), (1, 3)], [.string ⟨#[]⟩, .int .i64 0], [none, none], some [.str, .int .i64]⟩),
 (172, ⟨2, 24, true, .struct [(0, 9), (1, 3)], [.string ⟨#[]⟩, .int .i64 0], [none, none], some [.str, .int .i64]⟩),
 (173, ⟨0, 0, true, .struct [], [], [], some []⟩),
 (174, ⟨0, 0, true, .struct [], [], [], some []⟩),
 (175, ⟨1, 8, true, .struct [(0, 3)], [.int .i64 0], [none], some [.int .i64]⟩),
 (176, ⟨1, 8, true, .struct [(0, 3)], [.int .i64 0], [none], some [.int .i64]⟩),
 (177, ⟨0, 0, true, .struct [], [], [], some []⟩),
 (178, ⟨1, 8, false, .other, [.nilFunc], [none], none⟩),
 (179, ⟨2, 32, true, .struct [(0, 22), (1, 3)], [nilV, .int .i64 0], [some 78, none], none⟩),
 (180, ⟨2, 32, true, .struct [(0, 22), (1, 3)], [nilV, .int .i64 0], [some 78, none], none⟩),
 (181, ⟨1, 8, false, .other, [.nilFunc], [none], none⟩),
 (182, ⟨1, 8, false, .other, [.nilFunc], [none], none⟩),
 (183, ⟨1, 8, false, .other, [.nilFunc], [none], none⟩),
 (184, ⟨1, 8, false, .other, [.nilFunc], [none], none⟩),
 (185, ⟨1, 8, false, .other, [.nilFunc], [none], none⟩),
 (186, ⟨1, 8, false, .other, [.nilFunc], [none], none⟩),
 (188, ⟨1, 8, false, .other, [.nilFunc], [none], none⟩),
 (189, ⟨1, 8, false, .other, [.nilFunc], [none], none⟩),
 (190, ⟨1, 8, false, .other, [.nilFunc], [none], none⟩),
 (191, ⟨1, 8, false, .other, [.nilFunc], [none], none⟩),
 (192, ⟨1, 8, false, .other, [.nilFunc], [none], none⟩),
 (193, ⟨1, 8, false, .other, [.nilFunc], [none], none⟩),
 (194, ⟨1, 8, false, .other, [.nilFunc], [none], none⟩),
 (195, ⟨1, 8, false, .other, [.nilFunc], [none], none⟩),
 (196, ⟨1, 8, false, .other, [.nilFunc], [none], none⟩),
 (197, ⟨1, 8, false, .other, [.nilFunc], [none], none⟩),
 (198, ⟨1, 16, false, .other, [.nilIface], [none], none⟩),
 (199, ⟨1, 16, false, .other, [.nilIface], [none], none⟩),
 (200, ⟨1, 8, false, .other, [.nilFunc], [none], none⟩),
 (201, ⟨1, 8, false, .other, [.nilFunc], [none], none⟩),
 (202, ⟨1, 8, false, .other, [.nilFunc], [none], none⟩),
 (203, ⟨1, 8, false, .other, [.nilFunc], [none], none⟩),
 (204, ⟨1, 8, false, .other, [.nilFunc], [none], none⟩),
 (205, ⟨1, 8, false, .other, [.nilFunc], [none], none⟩),
 (206, ⟨1, 8, false, .other, [.nilFunc], [none], none⟩),
 (207, ⟨1, 8, false, .other, [.nilFunc], [none], none⟩),
 (208, ⟨1, 8, false, .other, [.nilFunc], [none], none⟩),
 (209, ⟨1, 8, false, .other, [.nilFunc], [none], none⟩),
 (210, ⟨1, 8, false, .other, [.nilFunc], [none], none⟩),
 (211, ⟨1, 8, false, .other, [.nilFunc], [none], none⟩),
 (212, ⟨1, 8, false, .other, [.nilFunc], [none], none⟩),
 (213, ⟨1, 8, false, .other, [.nilFunc], [none], none⟩),
 (214, ⟨1, 8, false, .int .u64, [.int .u64 0], [none], none⟩),
 (215, ⟨1, 8, false, .other, [.nilFunc], [none], none⟩),
 (216, ⟨1, 8, false, .other, [.nilFunc], [none], none⟩),
 (218, ⟨1, 8, false, .other, [.nilFunc], [none], none⟩),
 (219, ⟨1, 8, false, .other, [.nilFunc], [none], none⟩),
 (220, ⟨1, 8, false, .other, [.nilFunc], [none], none⟩),
 (221, ⟨1, 8, false, .other, [.nilFunc], [none], none⟩),
 (222, ⟨1, 8, false, .other, [.nilFunc], [none], none⟩),
 (223, ⟨4, 40, true, .struct [(0, 17), (1, 17), (2, 17), (3, 9)], [.pointer none, .pointer none, .pointer none, .string ⟨#[]⟩], [none, none, none, none], none⟩),
 (224, ⟨4, 40, true, .struct [(0, 17), (1, 17), (2, 17), (3, 9)], [.pointer none, .pointer none, .pointer none, .string ⟨#[]⟩], [none, none, none, none], none⟩),
 (225, ⟨0, 0, true, .array 0 16, [], [], none⟩),
 (228, ⟨1, 4, false, .int .u32, [.int .u32 0], [none], none⟩),
 (229, ⟨1, 1, false, .int .u8, [.int .u8 0], [none], none⟩),
 (230, ⟨1, 1, false, .int .u8, [.int .u8 0], [none], none⟩),
 (231, ⟨1, 8, false, .other, [.nilFunc], [none], none⟩),
 (232, ⟨1, 8, false, .ptr, [.pointer none], [none], none⟩),
 (233, ⟨1, 4, false, .int .i32, [.int .i32 0], [none], none⟩),
 (234, ⟨1, 4, false, .int .i32, [.int .i32 0], [none], none⟩),
 (235, ⟨11, 48, true, .struct [(0, 12), (1, 12), (2, 228), (3, 229), (4, 5), (5, 5), (6, 230), (7, 231), (8, 232), (9, 233), (10, 234)], [.int .u64 0, .int .u64 0, .int .u32 0, .int .u8 0, .int .u8 0, .int .u8 0, .int .u8 0, .nilFunc, .pointer none, .int .i32 0, .int .i32 0], [none, none, none, none, none, none, none, none, none, none, none], none⟩),
 (236, ⟨11, 48, true, .struct [(0, 12), (1, 12), (2, 228), (3, 229), (4, 5), (5, 5), (6, 230), (7, 231), (8, 232), (9, 233), (10, 234)], [.int .u64 0, .int .u64 0, .int .u32 0, .int .u8 0, .int .u8 0, .int .u8 0, .int .u8 0, .nilFunc, .pointer none, .int .i32 0, .int .i32 0], [none, none, none, none, none, none, none, none, none, none, none], none⟩),
 (237, ⟨1, 8, false, .other, [.nilFunc], [none], none⟩),
 (238, ⟨1, 8, false, .other, [.nilFunc], [none], none⟩),
 (239, ⟨1, 8, false, .other, [.pointer none], [none], none⟩),
 (240, ⟨1, 8, false, .int .u64, [.int .u64 0], [none], none⟩)]
set_option maxRecDepth 100000
theorem tab_ok : tabB Tryz.prog tab = true := by kernel_rfl
theorem mixed : Tryz.prog.follows .mixedOrders = true := by kernel_rfl
def mtab : List (TypeId × String × MI) := [(164, "Len", .load 243 160), (164, "Less", .load 244 160), (164, "Pop", .val 246), (164, "Push", .val 252), (164, "Swap", .load 245 160), (172, "loop.example/comptoir/impl.on", .val 247), (174, "loop.example/comptoir/impl.on", .val 248), (176, "loop.example/comptoir/impl.on", .val 249), (177, "loop.example/comptoir/impl.on", .val 250)]
theorem mtab_ok : mtB Tryz.prog mtab = true := by kernel_rfl
noncomputable def En (m : Nat) (md : FuncId → Nat) (cb : List Nat := []) (vw : List Nat := []) (fz : List Nat := []) (fb : List Nat := []) (ws : List Nat := []) : Env := ⟨Tryz.prog, findT tab, md, m, cb, mtab, vw, fz, fb, ws⟩
theorem en_ok (m : Nat) (md : FuncId → Nat) (cb : List Nat := []) (vw : List Nat := []) (fz : List Nat := []) (fb : List Nat := []) (ws : List Nat := []) : EOk (En m md cb vw fz fb ws) := eok_of tab_ok mtab_ok mixed
def md0 : FuncId → Nat := fun _ => 0
def md1 (l : List FuncId) : FuncId → Nat := fun f => bif l.elem f then 1 else 0
end Go.Proofs.YtcnongahanmclaaGreat

namespace Go.Proofs.YtcnongahanmclaaGreat
open Go Go.Proofs Ev
set_option maxRecDepth 100000
set_option maxHeartbeats 40000000
set_option linter.unusedSimpArgs false
set_option linter.unusedVariables false
theorem impl_KeyOk (s : ByteArray) (hs : s.size ≤ maxLen) : AFn Tryz.prog 97 [av (.string s)] [] (rb (keyOk s)) [] := by
 refine AFn.introX (E := En 0 md0) (en_ok 0 md0) Tryz.func97 rfl rfl rfl fun _ _ => ?_
 unfold maxLen at hs
 have fin : ∀ {c : Bool}, c = keyOk s → rb c = rb (keyOk s) := fun h => by rw [h]
 refine Split.mk fun t ht => ?_
 cases t
 case true => exact Need.mk ⟨[], _, .same, fin (keyOk_len (by simp at ht; omega)).symm, rfl⟩ trivial
 refine Split.mk fun t ht2 => ?_
 cases t
 case true => exact Need.mk ⟨[], _, .same, fin (keyOk_len (by simp at ht2; omega)).symm, rfl⟩ trivial
 have hsz : 1 ≤ s.size ∧ s.size ≤ 8 := by simp at ht ht2; omega
 refine ALoop.mk (fun m s' => ∃ i : Nat, i ≤ s.size ∧ m = s.size - i ∧ (∀ j : Nat, j < i → okc (byteAt s j) = true) ∧
   s' = ⟨some (av (.string s)) :: none :: some (av (.bool false)) :: none :: none :: none :: none :: none :: none :: none :: none :: none :: none :: none :: some (av (.int .i64 s.size)) :: some (av (.int .i64 i)) :: List.replicate 25 none, List.replicate 41 absent⟩)
  ⟨s.size, _, Weak.nrm [true, false, true, false, false, false, false, false, false, false, false, false, false, false, true, true] [] rfl rfl rfl, 0, Nat.zero_le _, rfl, by intro j hj; omega, rfl⟩ ?_
 rintro m s' ⟨i, hi, rfl, hall, rfl⟩
 refine Split.mk fun t ht => ?_
 cases t
 ·have hin : i = s.size := by simp at ht; omega
  subst hin
  exact Need.mk ⟨[], _, .same, fin (by rw [keyOk_all hall]; simp [hsz]), rfl⟩ trivial
 have hia : i < s.size := by simpa using ht
 have more : okc (byteAt s i) = true → ∀ j : Nat, j < i + 1 → okc (byteAt s j) = true := fun hc j hj => by
  by_cases hji : j = i
  ·rw [hji]; exact hc
  ·exact hall j (by omega)
 refine Need.mk ⟨by omega, by omega⟩ ?_
 refine Split.mk fun t h1 => ?_
 cases t
 ·refine Split.mk fun t h3 => ?_
  cases t
  ·refine Split.mk fun t h5 => ?_
   cases t
   ·have hc : okc (byteAt s i) = false := by simp at h1 h3 h5; simp [okc]; omega
    exact Need.mk ⟨[], _, .same, fin (keyOk_bad hia hc).symm, rfl⟩ trivial
   ·have hc : okc (byteAt s i) = true := by simp at h1 h3 h5; simp [okc]; omega
    refine Num.mk _ (wrapS (by omega)) ?_
    exact ⟨s.size - (i + 1), _, by omega, Weak.nrm [true, false, true, false, false, false, false, false, false, false, false, false, false, false, true, true] [] rfl rfl rfl, i + 1, by omega, rfl, more hc, rfl⟩
  ·refine Split.mk fun t h4 => ?_
   cases t
   ·refine Split.mk fun t h5 => ?_
    cases t
    ·have hc : okc (byteAt s i) = false := by simp at h1 h3 h4 h5; simp [okc]; omega
     exact Need.mk ⟨[], _, .same, fin (keyOk_bad hia hc).symm, rfl⟩ trivial
    ·have hc : okc (byteAt s i) = true := by simp at h1 h3 h4 h5; simp [okc]; omega
     refine Num.mk _ (wrapS (by omega)) ?_
     exact ⟨s.size - (i + 1), _, by omega, Weak.nrm [true, false, true, false, false, false, false, false, false, false, false, false, false, false, true, true] [] rfl rfl rfl, i + 1, by omega, rfl, more hc, rfl⟩
   ·have hc : okc (byteAt s i) = true := by simp at h1 h3 h4; simp [okc]; omega
    refine Num.mk _ (wrapS (by omega)) ?_
    exact ⟨s.size - (i + 1), _, by omega, Weak.nrm [true, false, true, false, false, false, false, false, false, false, false, false, false, false, true, true] [] rfl rfl rfl, i + 1, by omega, rfl, more hc, rfl⟩
 ·refine Split.mk fun t h2 => ?_
  cases t
  ·refine Split.mk fun t h3 => ?_
   cases t
   ·refine Split.mk fun t h5 => ?_
    cases t
    ·have hc : okc (byteAt s i) = false := by simp at h1 h2 h3 h5; simp [okc]; omega
     exact Need.mk ⟨[], _, .same, fin (keyOk_bad hia hc).symm, rfl⟩ trivial
    ·have hc : okc (byteAt s i) = true := by simp at h1 h2 h3 h5; simp [okc]; omega
     refine Num.mk _ (wrapS (by omega)) ?_
     exact ⟨s.size - (i + 1), _, by omega, Weak.nrm [true, false, true, false, false, false, false, false, false, false, false, false, false, false, true, true] [] rfl rfl rfl, i + 1, by omega, rfl, more hc, rfl⟩
   ·refine Split.mk fun t h4 => ?_
    cases t
    ·refine Split.mk fun t h5 => ?_
     cases t
     ·have hc : okc (byteAt s i) = false := by simp at h1 h2 h3 h4 h5; simp [okc]; omega
      exact Need.mk ⟨[], _, .same, fin (keyOk_bad hia hc).symm, rfl⟩ trivial
     ·have hc : okc (byteAt s i) = true := by simp at h1 h2 h3 h4 h5; simp [okc]; omega
      refine Num.mk _ (wrapS (by omega)) ?_
      exact ⟨s.size - (i + 1), _, by omega, Weak.nrm [true, false, true, false, false, false, false, false, false, false, false, false, false, false, true, true] [] rfl rfl rfl, i + 1, by omega, rfl, more hc, rfl⟩
    ·have hc : okc (byteAt s i) = true := by simp at h1 h2 h3 h4; simp [okc]; omega
     refine Num.mk _ (wrapS (by omega)) ?_
     exact ⟨s.size - (i + 1), _, by omega, Weak.nrm [true, false, true, false, false, false, false, false, false, false, false, false, false, false, true, true] [] rfl rfl rfl, i + 1, by omega, rfl, more hc, rfl⟩
  ·have hc : okc (byteAt s i) = true := by simp at h1 h2; simp [okc]; omega
   refine Num.mk _ (wrapS (by omega)) ?_
   exact ⟨s.size - (i + 1), _, by omega, Weak.nrm [true, false, true, false, false, false, false, false, false, false, false, false, false, false, true, true] [] rfl rfl rfl, i + 1, by omega, rfl, more hc, rfl⟩
theorem spec_KeyOk (s : ByteArray) (hs : s.size ≤ maxLen) : AFn Tryz.prog 194 [av (.string s)] [] (rb (keyOk s)) [] := by
 refine AFn.introX (E := En 0 md0) (en_ok 0 md0) Tryz.func194 rfl rfl rfl fun _ _ => ?_
 unfold maxLen at hs
 have fin : ∀ {c : Bool}, c = keyOk s → rb c = rb (keyOk s) := fun h => by rw [h]
 refine ALoop.mk (fun m s' => ∃ i : Nat, i ≤ s.size ∧ m = s.size - i ∧ (∀ j : Nat, j < i → okc (byteAt s j) = true) ∧
   s' = ⟨some (av (.string s)) :: none :: some (av (.bool false)) :: some (av (.int .i64 i)) :: List.replicate 36 none, List.replicate 40 absent⟩)
  ⟨s.size, _, Weak.nrm [true, false, true, true] [] rfl rfl rfl, 0, Nat.zero_le _, rfl, by intro j hj; omega, rfl⟩ ?_
 rintro m s' ⟨i, hi, rfl, hall, rfl⟩
 refine Split.mk fun t ht => ?_
 cases t
 ·have hin : i = s.size := by simp at ht; omega
  subst hin
  refine Split.mk fun t h1 => ?_
  cases t
  ·exact Need.mk ⟨[], _, .same, fin (by rw [keyOk_all hall]; simp at h1; simp; omega), rfl⟩ trivial
  ·refine Split.mk fun t h2 => ?_
   cases t
   ·exact Need.mk ⟨[], _, .same, fin (by rw [keyOk_all hall]; simp at h1 h2; simp; omega), rfl⟩ trivial
   ·exact Need.mk ⟨[], _, .same, fin (by rw [keyOk_all hall]; simp at h1 h2; simp; omega), rfl⟩ trivial
 have hia : i < s.size := by simpa using ht
 have more : okc (byteAt s i) = true → ∀ j : Nat, j < i + 1 → okc (byteAt s j) = true := fun hc j hj => by
  by_cases hji : j = i
  ·rw [hji]; exact hc
  ·exact hall j (by omega)
 refine Need.mk ⟨by omega, by omega⟩ ?_
 refine Split.mk fun t h1 => ?_
 cases t
 ·refine Need.mk ⟨by omega, by omega⟩ ?_
  refine Split.mk fun t h2 => ?_
  cases t
  ·have hc : okc (byteAt s i) = true := by simp at h1 h2; simp [okc]; omega
   refine Num.mk _ (wrapS (by omega)) ?_
   exact ⟨s.size - (i + 1), _, by omega, Weak.nrm [true, false, true, true] [] rfl rfl rfl, i + 1, by omega, rfl, more hc, rfl⟩
  ·refine Need.mk ⟨by omega, by omega⟩ ?_
   refine Split.mk fun t h3 => ?_
   cases t
   ·refine Need.mk ⟨by omega, by omega⟩ ?_
    refine Split.mk fun t h4 => ?_
    cases t
    ·have hc : okc (byteAt s i) = true := by simp at h1 h2 h3 h4; simp [okc]; omega
     refine Num.mk _ (wrapS (by omega)) ?_
     exact ⟨s.size - (i + 1), _, by omega, Weak.nrm [true, false, true, true] [] rfl rfl rfl, i + 1, by omega, rfl, more hc, rfl⟩
    ·have hc : okc (byteAt s i) = false := by simp at h1 h2 h3 h4; simp [okc]; omega
     exact Need.mk ⟨[], _, .same, fin (keyOk_bad hia hc).symm, rfl⟩ trivial
   ·have hc : okc (byteAt s i) = false := by simp at h1 h2 h3; simp [okc]; omega
    exact Need.mk ⟨[], _, .same, fin (keyOk_bad hia hc).symm, rfl⟩ trivial
 ·refine Need.mk ⟨by omega, by omega⟩ ?_
  refine Split.mk fun t h3 => ?_
  cases t
  ·refine Need.mk ⟨by omega, by omega⟩ ?_
   refine Split.mk fun t h4 => ?_
   cases t
   ·have hc : okc (byteAt s i) = true := by simp at h1 h3 h4; simp [okc]; omega
    refine Num.mk _ (wrapS (by omega)) ?_
    exact ⟨s.size - (i + 1), _, by omega, Weak.nrm [true, false, true, true] [] rfl rfl rfl, i + 1, by omega, rfl, more hc, rfl⟩
   ·have hc : okc (byteAt s i) = false := by simp at h1 h3 h4; simp [okc]; omega
    exact Need.mk ⟨[], _, .same, fin (keyOk_bad hia hc).symm, rfl⟩ trivial
  ·have hc : okc (byteAt s i) = false := by simp at h1 h3; simp [okc]; omega
   exact Need.mk ⟨[], _, .same, fin (keyOk_bad hia hc).symm, rfl⟩ trivial
theorem impl_EntryLess (a b : Ent) : AFn Tryz.prog 160 [.agg (a.enc.map .c), .agg (b.enc.map .c)] [] (rb (eLess a b)) [] := by
 refine AFn.introX (E := En 0 md0) (en_ok 0 md0) Tryz.func160 rfl rfl rfl fun _ _ => ?_
 have fin : ∀ {c : Bool}, c = eLess a b → rb c = rb (eLess a b) := fun h => by rw [h]
 refine Split.mk fun t ht => ?_
 rw [bytes_beq] at ht
 cases t
 ·have he : a.key = b.key := by simpa using ht
  refine Split.mk fun t ht2 => ?_
  exact Need.mk ⟨[], _, .same, fin (by rw [← ht2]; simp [eLess, he, slt_irr]), rfl⟩ trivial
 ·have he : a.key ≠ b.key := by simpa using ht
  refine Split.mk fun t ht2 => ?_
  exact Need.mk ⟨[], _, .same, fin (by rw [← ht2]; simp [eLess, he]), rfl⟩ trivial
theorem spec_EntryLess (a b : Ent) : AFn Tryz.prog 149 [.agg (a.enc.map .c), .agg (b.enc.map .c)] [] (rb (eLess a b)) [] := by
 refine AFn.introX (E := En 0 md0) (en_ok 0 md0) Tryz.func149 rfl rfl rfl fun _ _ => ?_
 have fin : ∀ {c : Bool}, c = eLess a b → rb c = rb (eLess a b) := fun h => by rw [h]
 refine Split.mk fun t ht => ?_
 have ht : slt a.key b.key = t := ht
 cases t
 ·refine Split.mk fun t ht2 => ?_
  rw [bytes_beq] at ht2
  cases t
  ·exact Need.mk ⟨[], _, .same, fin (by simp at ht2; simp [eLess, ht, ht2]), rfl⟩ trivial
  ·refine Split.mk fun t ht3 => ?_
   exact Need.mk ⟨[], _, .same, fin (by rw [← ht3]; simp at ht2; simp [eLess, ht2, slt_irr]), rfl⟩ trivial
 ·exact Need.mk ⟨[], _, .same, fin (by simp [eLess, ht]), rfl⟩ trivial
theorem spec_l3Sum (n : Int) : AFn Tryz.prog 195 [av (.int .i64 n)] [] (rb (sumOk n)) [] := by
 refine AFn.introX (E := En 0 md0) (en_ok 0 md0) Tryz.func195 rfl rfl rfl fun _ _ => ?_
 have fin : ∀ {c : Bool}, c = sumOk n → rb c = rb (sumOk n) := fun h => by rw [h]
 refine Split.mk fun t h1 => ?_
 cases t
 ·exact Need.mk ⟨[], _, .same, fin (by simp at h1; simp [sumOk]; omega), rfl⟩ trivial
 ·refine Split.mk fun t h2 => ?_
  cases t
  ·exact Need.mk ⟨[], _, .same, fin (by simp at h1 h2; simp [sumOk]; omega), rfl⟩ trivial
  ·exact Need.mk ⟨[], _, .same, fin (by simp at h1 h2; simp [sumOk]; omega), rfl⟩ trivial
theorem impl_EntryOk (e : Ent) (he : e.Ok) : AFn Tryz.prog 37 [.agg (e.enc.map .c)] [] (rb (entOk e)) [] := by
 refine AFn.introX (E := En 0 md0) (en_ok 0 md0) Tryz.func37 rfl rfl rfl fun _ _ => ?_
 have fin : ∀ {c : Bool}, c = entOk e → rb c = rb (entOk e) := fun h => by rw [h]
 refine ACall.mk _ _ (impl_KeyOk e.key he.1) ?_
 refine Split.mk fun t h_k => ?_
 cases t
 ·have f_k : keyOk e.key = false := by exact h_k
  exact Need.mk ⟨[], _, .same, fin (by simp [entOk, f_k]), rfl⟩ trivial
 ·refine Split.mk fun t h_s1 => ?_
  cases t
  ·refine Split.mk fun t h_s2 => ?_
   cases t
   ·refine Split.mk fun t h_tx => ?_
    cases t
    ·refine Split.mk fun t h_n1 => ?_
     cases t
     ·refine Split.mk fun t h_n2 => ?_
      cases t
      ·refine Split.mk fun t h_c1 => ?_
       cases t
       ·refine Split.mk fun t h_c2 => ?_
        cases t
        ·refine Split.mk fun t h_c3 => ?_
         cases t
         ·have f_k : keyOk e.key = true := by exact h_k
          have f_s1 : decide (1 ≤ e.seq) = true := by simp at h_s1; simp; omega
          have f_s2 : decide (e.seq ≤ 100000) = true := by simp at h_s2; simp; omega
          have f_tx : decide (e.text.size ≤ 60) = true := by simp at h_tx; simp; omega
          have f_c1 : decide (e.kind = 1) = false := by simp at h_c1; simp; omega
          have f_c2 : decide (e.kind = 2) = false := by simp at h_c2; simp; omega
          have f_c3 : decide (e.kind = 3) = false := by simp at h_c3; simp; omega
          have f_su : sumOk e.n = true := by simp at h_n1 h_n2; simp [sumOk]; omega
          exact Need.mk ⟨[], _, .same, fin (by simp [entOk, f_k, f_s1, f_s2, f_tx, f_c1, f_c2, f_c3, f_su]), rfl⟩ trivial
         ·refine Split.mk fun t h_t => ?_
          rw [bytes_beq] at h_t
          cases t
          ·have f_k : keyOk e.key = true := by exact h_k
           have f_s1 : decide (1 ≤ e.seq) = true := by simp at h_s1; simp; omega
           have f_s2 : decide (e.seq ≤ 100000) = true := by simp at h_s2; simp; omega
           have f_tx : decide (e.text.size ≤ 60) = true := by simp at h_tx; simp; omega
           have f_c1 : decide (e.kind = 1) = false := by simp at h_c1; simp; omega
           have f_c2 : decide (e.kind = 2) = false := by simp at h_c2; simp; omega
           have f_c3 : decide (e.kind = 3) = true := by simp at h_c3; simp; omega
           have f_t : decide (e.text = ⟨#[]⟩) = false := by exact h_t
           have f_su : sumOk e.n = true := by simp at h_n1 h_n2; simp [sumOk]; omega
           exact Need.mk ⟨[], _, .same, fin (by simp [entOk, f_k, f_s1, f_s2, f_tx, f_c1, f_c2, f_c3, f_t, f_su]), rfl⟩ trivial
          ·have f_k : keyOk e.key = true := by exact h_k
           have f_s1 : decide (1 ≤ e.seq) = true := by simp at h_s1; simp; omega
           have f_s2 : decide (e.seq ≤ 100000) = true := by simp at h_s2; simp; omega
           have f_tx : decide (e.text.size ≤ 60) = true := by simp at h_tx; simp; omega
           have f_c1 : decide (e.kind = 1) = false := by simp at h_c1; simp; omega
           have f_c2 : decide (e.kind = 2) = false := by simp at h_c2; simp; omega
           have f_c3 : decide (e.kind = 3) = true := by simp at h_c3; simp; omega
           have f_t : decide (e.text = ⟨#[]⟩) = true := by exact h_t
           have f_su : sumOk e.n = true := by simp at h_n1 h_n2; simp [sumOk]; omega
           exact Need.mk ⟨[], _, .same, fin (by simp [entOk, f_k, f_s1, f_s2, f_tx, f_c1, f_c2, f_c3, f_t, f_su]), rfl⟩ trivial
        ·refine Split.mk fun t h_t => ?_
         rw [bytes_beq] at h_t
         cases t
         ·have f_k : keyOk e.key = true := by exact h_k
          have f_s1 : decide (1 ≤ e.seq) = true := by simp at h_s1; simp; omega
          have f_s2 : decide (e.seq ≤ 100000) = true := by simp at h_s2; simp; omega
          have f_tx : decide (e.text.size ≤ 60) = true := by simp at h_tx; simp; omega
          have f_c1 : decide (e.kind = 1) = false := by simp at h_c1; simp; omega
          have f_c2 : decide (e.kind = 2) = true := by simp at h_c2; simp; omega
          have f_t : decide (e.text = ⟨#[]⟩) = false := by exact h_t
          have f_su : sumOk e.n = true := by simp at h_n1 h_n2; simp [sumOk]; omega
          exact Need.mk ⟨[], _, .same, fin (by simp [entOk, f_k, f_s1, f_s2, f_tx, f_c1, f_c2, f_t, f_su]), rfl⟩ trivial
         ·refine Split.mk fun t h_z => ?_
          cases t
          ·have f_k : keyOk e.key = true := by exact h_k
           have f_s1 : decide (1 ≤ e.seq) = true := by simp at h_s1; simp; omega
           have f_s2 : decide (e.seq ≤ 100000) = true := by simp at h_s2; simp; omega
           have f_tx : decide (e.text.size ≤ 60) = true := by simp at h_tx; simp; omega
           have f_c1 : decide (e.kind = 1) = false := by simp at h_c1; simp; omega
           have f_c2 : decide (e.kind = 2) = true := by simp at h_c2; simp; omega
           have f_t : decide (e.text = ⟨#[]⟩) = true := by exact h_t
           have f_z : decide (e.n = 0) = false := by simp at h_z; simp; omega
           have f_c3 : decide (e.kind = 3) = false := by simp at h_c2; simp; omega
           have f_su : sumOk e.n = true := by simp at h_n1 h_n2; simp [sumOk]; omega
           exact Need.mk ⟨[], _, .same, fin (by simp [entOk, f_k, f_s1, f_s2, f_tx, f_c1, f_c2, f_t, f_z, f_c3, f_su]), rfl⟩ trivial
          ·have f_k : keyOk e.key = true := by exact h_k
           have f_s1 : decide (1 ≤ e.seq) = true := by simp at h_s1; simp; omega
           have f_s2 : decide (e.seq ≤ 100000) = true := by simp at h_s2; simp; omega
           have f_tx : decide (e.text.size ≤ 60) = true := by simp at h_tx; simp; omega
           have f_c1 : decide (e.kind = 1) = false := by simp at h_c1; simp; omega
           have f_c2 : decide (e.kind = 2) = true := by simp at h_c2; simp; omega
           have f_t : decide (e.text = ⟨#[]⟩) = true := by exact h_t
           have f_z : decide (e.n = 0) = true := by simp at h_z; simp; omega
           have f_su : sumOk e.n = true := by simp at h_n1 h_n2; simp [sumOk]; omega
           exact Need.mk ⟨[], _, .same, fin (by simp [entOk, f_k, f_s1, f_s2, f_tx, f_c1, f_c2, f_t, f_z, f_su]), rfl⟩ trivial
       ·have f_k : keyOk e.key = true := by exact h_k
        have f_s1 : decide (1 ≤ e.seq) = true := by simp at h_s1; simp; omega
        have f_s2 : decide (e.seq ≤ 100000) = true := by simp at h_s2; simp; omega
        have f_tx : decide (e.text.size ≤ 60) = true := by simp at h_tx; simp; omega
        have f_c1 : decide (e.kind = 1) = true := by simp at h_c1; simp; omega
        have f_su : sumOk e.n = true := by simp at h_n1 h_n2; simp [sumOk]; omega
        exact Need.mk ⟨[], _, .same, fin (by simp [entOk, f_k, f_s1, f_s2, f_tx, f_c1, f_su]), rfl⟩ trivial
      ·have f_k : keyOk e.key = true := by exact h_k
       have f_s1 : decide (1 ≤ e.seq) = true := by simp at h_s1; simp; omega
       have f_s2 : decide (e.seq ≤ 100000) = true := by simp at h_s2; simp; omega
       have f_tx : decide (e.text.size ≤ 60) = true := by simp at h_tx; simp; omega
       have f_su : sumOk e.n = false := by simp at h_n1 h_n2; simp [sumOk]; omega
       exact Need.mk ⟨[], _, .same, fin (by simp [entOk, f_k, f_s1, f_s2, f_tx, f_su]), rfl⟩ trivial
     ·have f_k : keyOk e.key = true := by exact h_k
      have f_s1 : decide (1 ≤ e.seq) = true := by simp at h_s1; simp; omega
      have f_s2 : decide (e.seq ≤ 100000) = true := by simp at h_s2; simp; omega
      have f_tx : decide (e.text.size ≤ 60) = true := by simp at h_tx; simp; omega
      have f_su : sumOk e.n = false := by simp at h_n1; simp [sumOk]; omega
      exact Need.mk ⟨[], _, .same, fin (by simp [entOk, f_k, f_s1, f_s2, f_tx, f_su]), rfl⟩ trivial
    ·have f_k : keyOk e.key = true := by exact h_k
     have f_s1 : decide (1 ≤ e.seq) = true := by simp at h_s1; simp; omega
     have f_s2 : decide (e.seq ≤ 100000) = true := by simp at h_s2; simp; omega
     have f_tx : decide (e.text.size ≤ 60) = false := by simp at h_tx; simp; omega
     exact Need.mk ⟨[], _, .same, fin (by simp [entOk, f_k, f_s1, f_s2, f_tx]), rfl⟩ trivial
   ·have f_k : keyOk e.key = true := by exact h_k
    have f_s1 : decide (1 ≤ e.seq) = true := by simp at h_s1; simp; omega
    have f_s2 : decide (e.seq ≤ 100000) = false := by simp at h_s2; simp; omega
    exact Need.mk ⟨[], _, .same, fin (by simp [entOk, f_k, f_s1, f_s2]), rfl⟩ trivial
  ·have f_k : keyOk e.key = true := by exact h_k
   have f_s1 : decide (1 ≤ e.seq) = false := by simp at h_s1; simp; omega
   exact Need.mk ⟨[], _, .same, fin (by simp [entOk, f_k, f_s1]), rfl⟩ trivial
theorem spec_EntryOk (e : Ent) (he : e.Ok) : AFn Tryz.prog 148 [.agg (e.enc.map .c)] [] (rb (entOk e)) [] := by
 refine AFn.introX (E := En 0 md0) (en_ok 0 md0) Tryz.func148 rfl rfl rfl fun _ _ => ?_
 have fin : ∀ {c : Bool}, c = entOk e → rb c = rb (entOk e) := fun h => by rw [h]
 refine ACall.mk _ _ (spec_KeyOk e.key he.1) ?_
 refine Split.mk fun t h_k => ?_
 cases t
 ·have f_k : keyOk e.key = false := by exact h_k
  exact Need.mk ⟨[], _, .same, fin (by simp [entOk, f_k]), rfl⟩ trivial
 ·refine Split.mk fun t h_s1 => ?_
  cases t
  ·refine Split.mk fun t h_s2 => ?_
   cases t
   ·refine ACall.mk _ _ (spec_l3Sum e.n) ?_
    refine Split.mk fun t h_su => ?_
    cases t
    ·have f_k : keyOk e.key = true := by exact h_k
     have f_s1 : decide (1 ≤ e.seq) = true := by simp at h_s1; simp; omega
     have f_s2 : decide (e.seq ≤ 100000) = true := by simp at h_s2; simp; omega
     have f_su : sumOk e.n = false := by exact h_su
     exact Need.mk ⟨[], _, .same, fin (by simp [entOk, f_k, f_s1, f_s2, f_su]), rfl⟩ trivial
    ·refine Split.mk fun t h_tx => ?_
     cases t
     ·refine Split.mk fun t h_c1 => ?_
      cases t
      ·refine Split.mk fun t h_c2 => ?_
       cases t
       ·refine Split.mk fun t h_c3 => ?_
        cases t
        ·have f_k : keyOk e.key = true := by exact h_k
         have f_s1 : decide (1 ≤ e.seq) = true := by simp at h_s1; simp; omega
         have f_s2 : decide (e.seq ≤ 100000) = true := by simp at h_s2; simp; omega
         have f_su : sumOk e.n = true := by exact h_su
         have f_tx : decide (e.text.size ≤ 60) = true := by simp at h_tx; simp; omega
         have f_c1 : decide (e.kind = 1) = false := by simp at h_c1; simp; omega
         have f_c2 : decide (e.kind = 2) = false := by simp at h_c2; simp; omega
         have f_c3 : decide (e.kind = 3) = false := by simp at h_c3; simp; omega
         exact Need.mk ⟨[], _, .same, fin (by simp [entOk, f_k, f_s1, f_s2, f_su, f_tx, f_c1, f_c2, f_c3]), rfl⟩ trivial
        ·refine Split.mk fun t h_t => ?_
         rw [bytes_beq] at h_t
         cases t
         ·have f_k : keyOk e.key = true := by exact h_k
          have f_s1 : decide (1 ≤ e.seq) = true := by simp at h_s1; simp; omega
          have f_s2 : decide (e.seq ≤ 100000) = true := by simp at h_s2; simp; omega
          have f_su : sumOk e.n = true := by exact h_su
          have f_tx : decide (e.text.size ≤ 60) = true := by simp at h_tx; simp; omega
          have f_c1 : decide (e.kind = 1) = false := by simp at h_c1; simp; omega
          have f_c2 : decide (e.kind = 2) = false := by simp at h_c2; simp; omega
          have f_c3 : decide (e.kind = 3) = true := by simp at h_c3; simp; omega
          have f_t : decide (e.text = ⟨#[]⟩) = false := by exact h_t
          exact Need.mk ⟨[], _, .same, fin (by simp [entOk, f_k, f_s1, f_s2, f_su, f_tx, f_c1, f_c2, f_c3, f_t]), rfl⟩ trivial
         ·have f_k : keyOk e.key = true := by exact h_k
          have f_s1 : decide (1 ≤ e.seq) = true := by simp at h_s1; simp; omega
          have f_s2 : decide (e.seq ≤ 100000) = true := by simp at h_s2; simp; omega
          have f_su : sumOk e.n = true := by exact h_su
          have f_tx : decide (e.text.size ≤ 60) = true := by simp at h_tx; simp; omega
          have f_c1 : decide (e.kind = 1) = false := by simp at h_c1; simp; omega
          have f_c2 : decide (e.kind = 2) = false := by simp at h_c2; simp; omega
          have f_c3 : decide (e.kind = 3) = true := by simp at h_c3; simp; omega
          have f_t : decide (e.text = ⟨#[]⟩) = true := by exact h_t
          exact Need.mk ⟨[], _, .same, fin (by simp [entOk, f_k, f_s1, f_s2, f_su, f_tx, f_c1, f_c2, f_c3, f_t]), rfl⟩ trivial
       ·refine Split.mk fun t h_t => ?_
        rw [bytes_beq] at h_t
        cases t
        ·have f_k : keyOk e.key = true := by exact h_k
         have f_s1 : decide (1 ≤ e.seq) = true := by simp at h_s1; simp; omega
         have f_s2 : decide (e.seq ≤ 100000) = true := by simp at h_s2; simp; omega
         have f_su : sumOk e.n = true := by exact h_su
         have f_tx : decide (e.text.size ≤ 60) = true := by simp at h_tx; simp; omega
         have f_c1 : decide (e.kind = 1) = false := by simp at h_c1; simp; omega
         have f_c2 : decide (e.kind = 2) = true := by simp at h_c2; simp; omega
         have f_t : decide (e.text = ⟨#[]⟩) = false := by exact h_t
         exact Need.mk ⟨[], _, .same, fin (by simp [entOk, f_k, f_s1, f_s2, f_su, f_tx, f_c1, f_c2, f_t]), rfl⟩ trivial
        ·refine Split.mk fun t h_z => ?_
         cases t
         ·have f_k : keyOk e.key = true := by exact h_k
          have f_s1 : decide (1 ≤ e.seq) = true := by simp at h_s1; simp; omega
          have f_s2 : decide (e.seq ≤ 100000) = true := by simp at h_s2; simp; omega
          have f_su : sumOk e.n = true := by exact h_su
          have f_tx : decide (e.text.size ≤ 60) = true := by simp at h_tx; simp; omega
          have f_c1 : decide (e.kind = 1) = false := by simp at h_c1; simp; omega
          have f_c2 : decide (e.kind = 2) = true := by simp at h_c2; simp; omega
          have f_t : decide (e.text = ⟨#[]⟩) = true := by exact h_t
          have f_z : decide (e.n = 0) = false := by simp at h_z; simp; omega
          have f_c3 : decide (e.kind = 3) = false := by simp at h_c2; simp; omega
          exact Need.mk ⟨[], _, .same, fin (by simp [entOk, f_k, f_s1, f_s2, f_su, f_tx, f_c1, f_c2, f_t, f_z, f_c3]), rfl⟩ trivial
         ·have f_k : keyOk e.key = true := by exact h_k
          have f_s1 : decide (1 ≤ e.seq) = true := by simp at h_s1; simp; omega
          have f_s2 : decide (e.seq ≤ 100000) = true := by simp at h_s2; simp; omega
          have f_su : sumOk e.n = true := by exact h_su
          have f_tx : decide (e.text.size ≤ 60) = true := by simp at h_tx; simp; omega
          have f_c1 : decide (e.kind = 1) = false := by simp at h_c1; simp; omega
          have f_c2 : decide (e.kind = 2) = true := by simp at h_c2; simp; omega
          have f_t : decide (e.text = ⟨#[]⟩) = true := by exact h_t
          have f_z : decide (e.n = 0) = true := by simp at h_z; simp; omega
          exact Need.mk ⟨[], _, .same, fin (by simp [entOk, f_k, f_s1, f_s2, f_su, f_tx, f_c1, f_c2, f_t, f_z]), rfl⟩ trivial
      ·have f_k : keyOk e.key = true := by exact h_k
       have f_s1 : decide (1 ≤ e.seq) = true := by simp at h_s1; simp; omega
       have f_s2 : decide (e.seq ≤ 100000) = true := by simp at h_s2; simp; omega
       have f_su : sumOk e.n = true := by exact h_su
       have f_tx : decide (e.text.size ≤ 60) = true := by simp at h_tx; simp; omega
       have f_c1 : decide (e.kind = 1) = true := by simp at h_c1; simp; omega
       exact Need.mk ⟨[], _, .same, fin (by simp [entOk, f_k, f_s1, f_s2, f_su, f_tx, f_c1]), rfl⟩ trivial
     ·have f_k : keyOk e.key = true := by exact h_k
      have f_s1 : decide (1 ≤ e.seq) = true := by simp at h_s1; simp; omega
      have f_s2 : decide (e.seq ≤ 100000) = true := by simp at h_s2; simp; omega
      have f_su : sumOk e.n = true := by exact h_su
      have f_tx : decide (e.text.size ≤ 60) = false := by simp at h_tx; simp; omega
      exact Need.mk ⟨[], _, .same, fin (by simp [entOk, f_k, f_s1, f_s2, f_su, f_tx]), rfl⟩ trivial
   ·have f_k : keyOk e.key = true := by exact h_k
    have f_s1 : decide (1 ≤ e.seq) = true := by simp at h_s1; simp; omega
    have f_s2 : decide (e.seq ≤ 100000) = false := by simp at h_s2; simp; omega
    exact Need.mk ⟨[], _, .same, fin (by simp [entOk, f_k, f_s1, f_s2]), rfl⟩ trivial
  ·have f_k : keyOk e.key = true := by exact h_k
   have f_s1 : decide (1 ≤ e.seq) = false := by simp at h_s1; simp; omega
   exact Need.mk ⟨[], _, .same, fin (by simp [entOk, f_k, f_s1]), rfl⟩ trivial
theorem impl_inOrder (xs : List Ent) (hx : OkE xs) (hxl : xs.length ≤ 1099511627776) : AFn Tryz.prog 105 [sl (xs.map Ent.enc)] [] (rb (ordOk xs)) [] := by
 refine AFn.introX (E := En 0 md0) (en_ok 0 md0) Tryz.func105 rfl rfl rfl fun _ _ => ?_
 have fin : ∀ {c : Bool}, c = ordOk xs → rb c = rb (ordOk xs) := fun h => by rw [h]
 refine ALoop.mk (fun m s => ∃ i : Nat, i ≤ xs.length ∧ m = xs.length - i ∧ (∀ (j : Nat) (h : j < xs.length), j < i → entOk xs[j] = true ∧ (∀ k (hk : k + 1 = j), eLess (xs[k]'(by omega)) xs[j] = true)) ∧
   s = ⟨some (sl (xs.map Ent.enc)) :: none :: some (av (.bool false)) :: none :: none :: some (sl (xs.map Ent.enc)) :: some (av (.int .i64 xs.length)) :: some (av (.int .i64 i)) :: List.replicate 22 none, List.replicate 30 absent⟩)
  ⟨xs.length, _, Weak.nrm [true, false, true, false, false, true, true, true] [] rfl rfl rfl, 0, Nat.zero_le _, rfl, by intro j h hj; omega, by rw [show ((xs.length : Nat) : Int) = ((xs.map Ent.enc).length : Nat) by rw [List.length_map]]; rfl⟩ ?_
 rintro m s ⟨i, hi, rfl, hall, rfl⟩
 refine Split.mk fun t ht => ?_
 cases t
 ·have hin : i = xs.length := by simp at ht; omega
  subst hin
  exact Need.mk ⟨[], _, .same, fin ((ordOk_iff xs).2 fun j h => hall j h h).symm, rfl⟩ trivial
 have hia : i < xs.length := by simpa using ht
 refine nd ?_
 refine Row.mk _ (map_get _ xs i hia) ?_
 refine ACall.mk _ _ (impl_EntryOk xs[i] (hx _ (List.getElem_mem _))) ?_
 refine Split.mk fun t h1 => ?_
 cases t
 ·refine Need.mk rfl ?_
  exact Need.mk ⟨[], _, .same, fin (ordOk_bad hia (.inl h1)).symm, rfl⟩ trivial
 refine Split.mk fun t h2 => ?_
 cases t
 ·have h0 : i = 0 := by simp at h2; omega
  refine Need.mk rfl ?_
  refine Num.mk _ (wrapS (by omega)) ?_
  refine ⟨xs.length - (i + 1), _, by omega, Weak.nrm [true, false, true, false, false, true, true, true] [] rfl rfl rfl, i + 1, by omega, rfl, fun j h hj => ?_, rfl⟩
  have : j = i := by omega
  subst this
  exact ⟨h1, fun k hk => by omega⟩
 ·have h0 : 0 < i := by simp at h2; omega
  refine Num.mk ((i - 1 : Nat) : Int) (wrapI' (by omega) (by omega)) ?_
  refine nd ?_
  refine Row.mk _ (map_get _ xs (i - 1) (by omega)) ?_
  refine ACall.mk _ _ (impl_EntryLess (xs[i - 1]'(by omega)) xs[i]) ?_
  refine Split.mk fun t h3 => ?_
  cases t
  ·refine Need.mk rfl ?_
   exact Need.mk ⟨[], _, .same, fin (ordOk_bad hia (.inr ⟨i - 1, by omega, h3⟩)).symm, rfl⟩ trivial
  ·refine Need.mk rfl ?_
   refine Num.mk _ (wrapS (by omega)) ?_
   refine ⟨xs.length - (i + 1), _, by omega, Weak.nrm [true, false, true, false, false, true, true, true] [] rfl rfl rfl, i + 1, by omega, rfl, fun j h hj => ?_, rfl⟩
   by_cases hji : j = i
   ·subst hji
    refine ⟨h1, fun k hk => ?_⟩
    have : k = j - 1 := by omega
    subst this
    exact h3
   ·exact hall j h (by omega)
theorem spec_l4Right (xs : List Ent) (hx : OkE xs) (hxl : xs.length ≤ 1099511627776) : AFn Tryz.prog 88 [sl (xs.map Ent.enc)] [] (rb (ordOk xs)) [] := by
 refine AFn.introX (E := En 0 md0) (en_ok 0 md0) Tryz.func88 rfl rfl rfl fun _ _ => ?_
 have fin : ∀ {c : Bool}, c = ordOk xs → rb c = rb (ordOk xs) := fun h => by rw [h]
 have hn : (xs.map Ent.enc).length = xs.length := List.length_map ..
 refine ALoop.mk (fun m s => ∃ i : Nat, i ≤ xs.length ∧ m = xs.length - i ∧ (∀ (j : Nat) (h : j < xs.length), j < i → entOk xs[j] = true ∧ (∀ k (hk : k + 1 = j), eLess (xs[k]'(by omega)) xs[j] = true)) ∧
   s = ⟨some (sl (xs.map Ent.enc)) :: none :: some (av (.bool false)) :: some (av (.int .i64 i)) :: List.replicate 29 none, List.replicate 33 absent⟩)
  ⟨xs.length, _, Weak.nrm [true, false, true, true] [] rfl rfl rfl, 0, Nat.zero_le _, rfl, by intro j h hj; omega, rfl⟩ ?_
 rintro m s ⟨i, hi, rfl, hall, rfl⟩
 refine Split.mk fun t ht => ?_
 rw [hn] at ht
 cases t
 ·have hin : i = xs.length := by simp at ht; omega
  subst hin
  exact Need.mk ⟨[], _, .same, fin ((ordOk_iff xs).2 fun j h => hall j h h).symm, rfl⟩ trivial
 have hia : i < xs.length := by simpa using ht
 refine nd ?_
 refine Row.mk _ (map_get _ xs i hia) ?_
 refine ACall.mk _ _ (spec_EntryOk xs[i] (hx _ (List.getElem_mem _))) ?_
 refine Split.mk fun t h1 => ?_
 cases t
 ·refine Need.mk rfl ?_
  exact Need.mk ⟨[], _, .same, fin (ordOk_bad hia (.inl h1)).symm, rfl⟩ trivial
 refine Split.mk fun t h2 => ?_
 cases t
 ·have h0 : i = 0 := by simp at h2; omega
  refine Need.mk rfl ?_
  refine Num.mk _ (wrapS (by omega)) ?_
  refine ⟨xs.length - (i + 1), _, by omega, Weak.nrm [true, false, true, true] [] rfl rfl rfl, i + 1, by omega, rfl, fun j h hj => ?_, rfl⟩
  have : j = i := by omega
  subst this
  exact ⟨h1, fun k hk => by omega⟩
 ·have h0 : 0 < i := by simp at h2; omega
  refine Num.mk ((i - 1 : Nat) : Int) (wrapI' (by omega) (by omega)) ?_
  refine nd ?_
  refine Row.mk _ (map_get _ xs (i - 1) (by omega)) ?_
  refine nd ?_
  refine Row.mk _ (map_get _ xs i hia) ?_
  refine ACall.mk _ _ (spec_EntryLess (xs[i - 1]'(by omega)) xs[i]) ?_
  refine Split.mk fun t h3 => ?_
  cases t
  ·refine Need.mk rfl ?_
   exact Need.mk ⟨[], _, .same, fin (ordOk_bad hia (.inr ⟨i - 1, by omega, h3⟩)).symm, rfl⟩ trivial
  ·refine Need.mk rfl ?_
   refine Num.mk _ (wrapS (by omega)) ?_
   refine ⟨xs.length - (i + 1), _, by omega, Weak.nrm [true, false, true, true] [] rfl rfl rfl, i + 1, by omega, rfl, fun j h hj => ?_, rfl⟩
   by_cases hji : j = i
   ·subst hji
    refine ⟨h1, fun k hk => ?_⟩
    have : k = j - 1 := by omega
    subst this
    exact h3
   ·exact hall j h (by omega)
theorem spec_l4Bit (n : Nat) (hn : n < 16) : AFn Tryz.prog 219 [av (.int .i64 n)] [] (.one (vi ((2 ^ n : Nat) : Int))) [] := by
 refine AFn.introX (E := En 0 md0) (en_ok 0 md0) Tryz.func219 rfl rfl rfl fun _ _ => ?_
 refine ALoop.mk (fun m s => ∃ i : Nat, i ≤ n ∧ m = n - i ∧ s = ⟨some (av (.int .i64 n)) :: none :: some (av (.int .i64 0)) :: some (av (.int .i64 ((2 ^ i : Nat) : Int))) :: some (av (.int .i64 i)) :: List.replicate 8 none, List.replicate 13 absent⟩)
  ⟨n, _, Weak.nrm [true, false, true, true, true] [] rfl rfl rfl, 0, Nat.zero_le _, rfl, rfl⟩ ?_
 rintro m s ⟨i, hi, rfl, rfl⟩
 refine Split.mk fun t ht => ?_
 cases t
 ·have hin : i = n := by simp at ht; omega
  subst hin
  exact Need.mk ⟨[], _, .same, rfl, rfl⟩ trivial
 ·have hia : i < n := by simpa using ht
  have hp : 2 ^ i < 65536 := Nat.pow_lt_pow_right (a := 2) (by decide) (show i < 16 by omega)
  refine Num.mk ((2 ^ (i + 1) : Nat) : Int) (wrapI' (by rw [Nat.pow_succ]; omega) (by rw [Nat.pow_succ]; omega)) ?_
  refine Num.mk _ (wrapS (by omega)) ?_
  exact ⟨n - (i + 1), _, by omega, Weak.nrm [true, false, true, true, true] [] rfl rfl rfl, i + 1, by omega, rfl, rfl⟩
theorem spec_l4Or (a b : Nat) (ha : a < 65536) (hb : b < 65536) : AFn Tryz.prog 207 [av (.int .i64 a), av (.int .i64 b)] [] (.one (vi ((a ||| b : Nat) : Int))) [] := by
 refine AFn.introX (E := En 0 md0) (en_ok 0 md0) Tryz.func207 rfl rfl rfl fun _ _ => ?_
 have hlt : a ||| b < 65536 := Nat.or_lt_two_pow (n := 16) ha hb
 let S : Int → Nat → St := fun i o => ⟨some (av (.int .i64 a)) :: some (av (.int .i64 b)) :: none :: none :: some (av (.int .i64 0)) :: some (av (.int .i64 o)) :: some (av (.int .i64 i)) :: List.replicate 23 none, List.replicate 30 absent⟩
 refine ALoop.mk (fun m s => ∃ k : Nat, k ≤ 16 ∧ m = k ∧ s = S ((k : Int) - 1) ((a ||| b) / 2 ^ k))
  ⟨16, _, Weak.nrm [true, true, false, false, true, true, true] [] rfl rfl rfl, 16, Nat.le_refl _, rfl, by rw [show (a ||| b) / 2 ^ 16 = 0 from Nat.div_eq_of_lt hlt]; rfl⟩ ?_
 rintro m s ⟨k, hk, rfl, hs⟩
 by_cases h0 : m = 0
 ·subst h0
  rw [Nat.pow_zero, Nat.div_one] at hs
  subst hs
  refine Split.mk fun t ht => ?_
  cases t
  ·exact Need.mk ⟨[], _, .same, rfl, rfl⟩ trivial
  ·simp at ht
 ·have hex : ∃ i, m = i + 1 := ⟨m - 1, by omega⟩
  obtain ⟨i, hmi⟩ := hex
  subst hmi
  have hpos : 0 < 2 ^ i := Nat.pow_pos (by decide)
  have hstep : (a ||| b) / 2 ^ i = 2 * ((a ||| b) / 2 ^ (i + 1)) + (a ||| b) / 2 ^ i % 2 := bit_step
  have hor := or_bit (a := a) (b := b) (i := i)
  have hle : (a ||| b) / 2 ^ i ≤ a ||| b := Nat.div_le_self _ _
  have hda : a / 2 ^ i ≤ a := Nat.div_le_self _ _
  have hdb : b / 2 ^ i ≤ b := Nat.div_le_self _ _
  have hii : (((i + 1 : Nat) : Int) - 1) = (i : Int) := by omega
  rw [hii] at hs
  subst hs
  refine Split.mk fun t ht => ?_
  cases t
  ·simp at ht <;> omega
  refine Num.mk ((2 * ((a ||| b) / 2 ^ (i + 1)) : Nat) : Int) (wrapI' (by omega) (by omega)) ?_
  refine ACall.mk _ _ (spec_l4Bit i (by omega)) ?_
  refine nd ?_
  refine Num.mk ((a / 2 ^ i : Nat) : Int) (wrapI' (tdivN' _ _) (by omega)) ?_
  refine Need.mk (by decide) ?_
  refine Split.mk fun t h1 => ?_
  have h1 : ((((a / 2 ^ i % 2 : Nat) : Int) == 1)) = t := h1
  cases t
  ·refine ACall.mk _ _ (spec_l4Bit i (by omega)) ?_
   refine nd ?_
   refine Num.mk ((b / 2 ^ i : Nat) : Int) (wrapI' (tdivN' _ _) (by omega)) ?_
   refine Need.mk (by decide) ?_
   refine Split.mk fun t h2 => ?_
   have h2 : ((((b / 2 ^ i % 2 : Nat) : Int) == 1)) = t := h2
   cases t
   ·have e : (a ||| b) / 2 ^ i % 2 = 0 := by rw [hor, if_neg (fun h => h.elim (fun e => by rw [e] at h1; cases h1) (fun e => by rw [e] at h2; cases h2))]
    refine Num.mk ((i : Int) - 1) (wrapI (by omega) (by omega)) ?_
    exact ⟨i, _, by omega, Weak.nrm [true, true, false, false, true, true, true] [] rfl rfl rfl, i, by omega, rfl, by rw [hstep, e, Nat.add_zero]; rfl⟩
   ·have e : (a ||| b) / 2 ^ i % 2 = 1 := by rw [hor, if_pos (.inr (Int.ofNat_inj.1 (beq_iff_eq.1 h2)))]
    refine Num.mk ((2 * ((a ||| b) / 2 ^ (i + 1)) + 1 : Nat) : Int) (wrapI' (by omega) (by omega)) ?_
    refine Num.mk ((i : Int) - 1) (wrapI (by omega) (by omega)) ?_
    exact ⟨i, _, by omega, Weak.nrm [true, true, false, false, true, true, true] [] rfl rfl rfl, i, by omega, rfl, by rw [hstep, e]; rfl⟩
  ·have e : (a ||| b) / 2 ^ i % 2 = 1 := by rw [hor, if_pos (.inl (Int.ofNat_inj.1 (beq_iff_eq.1 h1)))]
   refine Num.mk ((2 * ((a ||| b) / 2 ^ (i + 1)) + 1 : Nat) : Int) (wrapI' (by omega) (by omega)) ?_
   refine Num.mk ((i : Int) - 1) (wrapI (by omega) (by omega)) ?_
   exact ⟨i, _, by omega, Weak.nrm [true, true, false, false, true, true, true] [] rfl rfl rfl, i, by omega, rfl, by rw [hstep, e]; rfl⟩
theorem spec_KeyMask (s : ByteArray) (hs : s.size ≤ maxLen) : AFn Tryz.prog 208 [av (.string s)] [] (.one (vi (kmask s : Nat))) [] := by
 refine AFn.introX (E := En 0 md0) (en_ok 0 md0) Tryz.func208 rfl rfl rfl fun _ _ => ?_
 unfold maxLen at hs
 refine ALoop.mk (fun m s' => ∃ i : Nat, i ≤ s.size ∧ m = s.size - i ∧ s' = ⟨some (av (.string s)) :: none :: some (av (.int .i64 0)) :: some (av (.int .i64 (hsh s i : Nat))) :: some (av (.int .i64 i)) :: List.replicate 22 none, List.replicate 27 absent⟩)
  ⟨s.size, _, Weak.nrm [true, false, true, true, true] [] rfl rfl rfl, 0, Nat.zero_le _, rfl, rfl⟩ ?_
 rintro m s' ⟨i, hi, rfl, hs'⟩
 by_cases hin : i = s.size
 ·subst hin
  have h1 := hsh_lt s s.size
  subst hs'
  refine Split.mk fun t ht => ?_
  cases t
  ·refine Need.mk (by decide) ?_
   refine ACall.mk _ _ (spec_l4Bit (hsh s s.size % 16) (Nat.mod_lt _ (by decide))) ?_
   refine Need.mk (by decide) ?_
   refine Num.mk ((hsh s s.size / 16 : Nat) : Int) (wrapI' (tdivN' _ _) (by omega)) ?_
   refine Need.mk (by decide) ?_
   refine ACall.mk _ _ (spec_l4Bit (hsh s s.size / 16 % 16) (Nat.mod_lt _ (by decide))) ?_
   refine ACall.mk _ _ (spec_l4Or (2 ^ (hsh s s.size % 16)) (2 ^ (hsh s s.size / 16 % 16)) (p16_lt _) (p16_lt _)) ?_
   exact Need.mk ⟨[], _, .same, rfl, rfl⟩ trivial
  ·simp at ht
 ·have hia : i < s.size := by omega
  have h1 := hsh_lt s i
  have h2 := byteAt_lt s i
  have h3 : byteAt s i = (((byteAt s i).toNat : Nat) : Int) := by omega
  have h4 : ((hsh s i : Int) * 31 + ((byteAt s i).toNat : Int)).tmod 65521 = ((hsh s (i + 1) : Nat) : Int) := by
   rw [show (hsh s i : Int) * 31 + ((byteAt s i).toNat : Int) = ((31 * hsh s i + (byteAt s i).toNat : Nat) : Int) by omega]
   exact tmodN' _ _
  subst hs'
  refine Split.mk fun t ht => ?_
  cases t
  ·simp at ht; omega
  refine Num.mk ((hsh s i : Int) * 31) (wrapI (by omega) (by omega)) ?_
  refine Need.mk ⟨by omega, by omega⟩ ?_
  refine Num.mk (((byteAt s i).toNat : Nat) : Int) (by rw [IntKind.wrap_i64]; omega) ?_
  refine Num.mk ((hsh s i : Int) * 31 + ((byteAt s i).toNat : Int)) (wrapI (by omega) (by omega)) ?_
  refine Need.mk (by decide) ?_
  refine Num.mk _ (wrapS (by omega)) ?_
  exact ⟨s.size - (i + 1), _, by omega, Weak.nrm [true, false, true, true, true] [] rfl rfl rfl, i + 1, by omega, rfl, by rw [← h4]; rfl⟩
theorem impl_KeyMask (s : ByteArray) (hs : s.size ≤ maxLen) : AFn Tryz.prog 181 [av (.string s)] [] (.one (vi (kmask s : Nat))) [] := by
 refine AFn.introX (E := En 0 md0) (en_ok 0 md0) Tryz.func181 rfl rfl rfl fun _ _ => ?_
 unfold maxLen at hs
 refine ALoop.mk (fun m s' => ∃ i : Nat, i ≤ s.size ∧ m = s.size - i ∧ s' = ⟨some (av (.string s)) :: none :: some (av (.int .i64 0)) :: some (av (.int .i64 (hsh s i : Nat))) :: none :: none :: some (av (.int .i64 s.size)) :: some (av (.int .i64 i)) :: List.replicate 19 none, List.replicate 27 absent⟩)
  ⟨s.size, _, Weak.nrm [true, false, true, true, false, false, true, true] [] rfl rfl rfl, 0, Nat.zero_le _, rfl, rfl⟩ ?_
 rintro m s' ⟨i, hi, rfl, hs'⟩
 by_cases hin : i = s.size
 ·subst hin
  have h1 := hsh_lt s s.size
  have p1 := p16_lt (hsh s s.size)
  have p2 := p16_lt (hsh s s.size / 16)
  have sh : ∀ k : Nat, k < 16 → IntKind.i64.wrap ((1 : Int) * 2 ^ (min (k : Int).toNat IntKind.i64.bits)) = ((2 ^ k : Nat) : Int) := fun k hk => by
   have hp : 2 ^ k < 65536 := Nat.pow_lt_pow_right (a := 2) (by decide) hk
   have hb : IntKind.i64.bits = 64 := rfl
   refine wrapI' ?_ (by omega)
   rw [Int.toNat_natCast, Nat.min_eq_left (by rw [hb]; omega), Int.one_mul]
   simp
  subst hs'
  refine Split.mk fun t ht => ?_
  cases t
  ·refine Need.mk (by decide) ?_
   refine Need.mk (Int.natCast_nonneg (hsh s s.size % 16)) ?_
   refine Num.mk _ (sh (hsh s s.size % 16) (Nat.mod_lt _ (by decide))) ?_
   refine Need.mk (by decide) ?_
   refine Num.mk ((hsh s s.size / 16 : Nat) : Int) (wrapI' (tdivN' _ _) (by omega)) ?_
   refine Need.mk (by decide) ?_
   refine Need.mk (Int.natCast_nonneg (hsh s s.size / 16 % 16)) ?_
   refine Num.mk _ (sh (hsh s s.size / 16 % 16) (Nat.mod_lt _ (by decide))) ?_
   refine Need.mk rfl ?_
   refine Need.mk ⟨[], _, .same, ?_, rfl⟩ trivial
   exact congrArg (fun z => RV.one (vi z)) (orN p1 p2)
  ·simp at ht
 ·have hia : i < s.size := by omega
  have h1 := hsh_lt s i
  have h2 := byteAt_lt s i
  have h4 : ((31 : Int) * (hsh s i : Int) + ((byteAt s i).toNat : Int)).tmod 65521 = ((hsh s (i + 1) : Nat) : Int) := by
   rw [show (31 : Int) * (hsh s i : Int) + ((byteAt s i).toNat : Int) = ((31 * hsh s i + (byteAt s i).toNat : Nat) : Int) by omega]
   exact tmodN' _ _
  subst hs'
  refine Split.mk fun t ht => ?_
  cases t
  ·simp at ht; omega
  refine Num.mk ((31 : Int) * (hsh s i : Int)) (wrapI (by omega) (by omega)) ?_
  refine Need.mk ⟨by omega, by omega⟩ ?_
  refine Num.mk (((byteAt s i).toNat : Nat) : Int) (by rw [IntKind.wrap_i64]; omega) ?_
  refine Num.mk ((31 : Int) * (hsh s i : Int) + ((byteAt s i).toNat : Int)) (wrapI (by omega) (by omega)) ?_
  refine Need.mk (by decide) ?_
  refine Num.mk _ (wrapS (by omega)) ?_
  exact ⟨s.size - (i + 1), _, by omega, Weak.nrm [true, false, true, true, false, false, true, true] [] rfl rfl rfl, i + 1, by omega, rfl, by rw [← h4]; rfl⟩
theorem spec_l4Mask (xs : List Ent) (hx : OkE xs) (hxl : xs.length ≤ 1099511627776) : AFn Tryz.prog 178 [sl (xs.map Ent.enc)] [] (.one (vi (rmask xs : Nat))) [] := by
 refine AFn.introX (E := En 0 md0) (en_ok 0 md0) Tryz.func178 rfl rfl rfl fun _ _ => ?_
 have hn : (xs.map Ent.enc).length = xs.length := List.length_map ..
 refine ALoop.mk (fun m s => ∃ i : Nat, i ≤ xs.length ∧ m = xs.length - i ∧ s = ⟨some (sl (xs.map Ent.enc)) :: none :: some (av (.int .i64 0)) :: some (av (.int .i64 (rmask (xs.take i) : Nat))) :: some (av (.int .i64 i)) :: List.replicate 15 none, List.replicate 20 absent⟩)
  ⟨xs.length, _, Weak.nrm [true, false, true, true, true] [] rfl rfl rfl, 0, Nat.zero_le _, rfl, rfl⟩ ?_
 rintro m s ⟨i, hi, rfl, hs⟩
 by_cases hin : i = xs.length
 ·subst hin
  rw [List.take_length] at hs
  subst hs
  refine Split.mk fun t ht => ?_
  rw [hn] at ht
  cases t
  ·exact Need.mk ⟨[], _, .same, rfl, rfl⟩ trivial
  ·simp at ht
 ·have hia : i < xs.length := by omega
  have he := rmask_snoc (xs.take i) xs[i]
  rw [← List.take_succ_eq_append_getElem hia] at he
  subst hs
  refine Split.mk fun t ht => ?_
  rw [hn] at ht
  cases t
  ·simp at ht; omega
  refine nd ?_
  refine Row.mk _ (map_get _ xs i hia) ?_
  refine ACall.mk _ _ (spec_KeyMask xs[i].key (hx _ (List.getElem_mem _)).1) ?_
  refine ACall.mk _ _ (spec_l4Or (rmask (xs.take i)) (kmask xs[i].key) (rmask_lt _) (kmask_lt _)) ?_
  refine Num.mk _ (wrapS (by omega)) ?_
  exact ⟨xs.length - (i + 1), _, by omega, Weak.nrm [true, false, true, true, true] [] rfl rfl rfl, i + 1, by omega, rfl, by rw [he]; rfl⟩
def encO (r : Rn) : List C := [.us 54 (r.ents.map Ent.enc), vi r.mask]
def encLO (l : List Rn) : List C := [.us 68 (l.map encO)]
theorem clO (xs : List Rn) : ∀ r ∈ xs.map encO, ClL r := cl_map (f := encO) (fun l => .us (clE l.ents) (.v .nil)) xs
theorem clLO (xs : List (List Rn)) : ∀ r ∈ xs.map encLO, ClL r := cl_map (f := encLO) (fun l => .us (clO l) .nil) xs
theorem frzR (xs : List Rn) : Frz (.us 68 (xs.map encO)) (.sl (xs.map Rn.enc)) := frz_map fun r _ => .cons (frzE r.ents) (.cons .v .nil)
theorem frzRR (xs : List (List Rn)) : Frz (.us 66 (xs.map encLO)) (.sl (xs.map encL)) := frz_map fun r _ => .cons (frzR r) .nil
theorem closedE (e : TypeId) (xs : List Ent) : Closed (.us e (xs.map Ent.enc)) := by
 refine .us fun r hr c hc => ?_
 obtain ⟨x, _, rfl⟩ := List.mem_map.1 hr
 simp only [Ent.enc, List.mem_cons, List.not_mem_nil, or_false] at hc
 rcases hc with h | h | h | h | h <;> subst h <;> exact .v
theorem rowsOk (R : List (List C)) (ys : List Ent) (h : R = ys.map Ent.enc) : Plain R ∧ ∀ r ∈ R, r.length = 5 := by
 subst h; exact ⟨plainE ys, lenE ys⟩
theorem sizeOk (a b : List (List C)) (ys zs : List Ent) (ha : a = ys.map Ent.enc) (hb : b = zs.map Ent.enc) (h : ys.length + zs.length ≤ 2000000) : (a.length + b.length) * 56 ≤ 140737488355328 ∧ a.length + b.length ≤ maxLen := by
 subst ha; subst hb
 rw [List.length_map, List.length_map]
 exact ⟨by omega, Nat.le_trans h (by decide)⟩
theorem spec_l4Put (xs : List Ent) (e : Ent) (hx : xs.length ≤ 1048576) : AFn Tryz.prog 122 [sl (xs.map Ent.enc), .agg (e.enc.map .c)] [] (.one (.us 54 ((ins eLess xs e).map Ent.enc))) [] := by
 refine AFn.introX (E := En 0 md0) (en_ok 0 _) Tryz.func122 rfl rfl rfl fun _ _ => ?_
 have hn : (xs.map Ent.enc).length = xs.length := List.length_map ..
 let S : Int → St := fun k => ⟨some (sl (xs.map Ent.enc)) :: none :: none :: some (.bx 3 0) :: none :: some (av (.int .i64 k)) :: List.replicate 31 none, absent :: absent :: absent :: ⟨0, 0, some e.enc⟩ :: List.replicate 33 absent⟩
 refine ALoop.mk (fun m s => ∃ k : Nat, k ≤ xs.length ∧ m = k ∧ ins eLess xs e = ins eLess (xs.take k) e ++ xs.drop k ∧ s = S (k : Int))
  ⟨xs.length, _, Weak.nrm [true, false, false, true, false, true] [(3, 3)] rfl rfl rfl, xs.length, Nat.le_refl _, rfl, by simp, congrArg S (show (((xs.map Ent.enc).length : Nat) : Int) = ((xs.length : Nat) : Int) by rw [hn])⟩ ?_
 rintro m s ⟨k, hk, rfl, hins, hs⟩
 have plain : ∀ ys : List Ent, Plain (ys.map Ent.enc) := plainE
 by_cases hstop : m = 0 ∨ ∃ h : 0 < m, eLess e (xs[m - 1]'(by omega)) = false
 ·have hfin : ins eLess xs e = xs.take m ++ [e] ++ xs.drop m := by
   rw [hins]
   congr 1
   rcases hstop with h | ⟨h, hl⟩
   ·subst h; rfl
   ·have e1 : xs.take m = xs.take (m - 1) ++ [xs[m - 1]'(by omega)] := by
     conv => lhs; rw [show m = m - 1 + 1 by omega]
     exact List.take_succ_eq_append_getElem (by omega)
    rw [e1]; exact ins_stop eLess e _ _ hl
  have d1 : ((xs.map Ent.enc).drop (m : Int).toNat).take (((xs.map Ent.enc).length : Int) - (m : Int)).toNat = (xs.drop m).map Ent.enc := by
   rw [Int.toNat_natCast, ← List.map_drop]
   exact List.take_of_length_le (by rw [List.length_map, List.length_drop, hn]; omega)
  have d2 : ((xs.map Ent.enc).drop (0 : Int).toNat).take ((m : Int) - 0).toNat = (xs.take m).map Ent.enc := by
   rw [show (0 : Int).toNat = 0 from rfl, List.drop_zero, Int.sub_zero, Int.toNat_natCast, ← List.map_take]
  have d3 : ((xs.map Ent.enc).drop (0 : Int).toNat).take ((m : Int) - 0).toNat ++ [e.enc] = (xs.take m ++ [e]).map Ent.enc := by
   rw [d2, List.map_append]; rfl
  have d4 : ((xs.map Ent.enc).drop (0 : Int).toNat).take ((m : Int) - 0).toNat ++ [e.enc] ++ ((xs.map Ent.enc).drop (m : Int).toNat).take (((xs.map Ent.enc).length : Int) - (m : Int)).toNat = (xs.take m ++ [e] ++ xs.drop m).map Ent.enc := by
   rw [d3, d1, ← List.map_append]
  have l1 : ((xs.drop m).map Ent.enc).length = xs.length - m := by rw [List.length_map, List.length_drop]
  have l2 : ((xs.take m).map Ent.enc).length = m := by rw [List.length_map, List.length_take]; omega
  have fin : ∀ rows : List (List C), rows = (xs.take m ++ [e] ++ xs.drop m).map Ent.enc → RV.one (.us 54 rows) = .one (.us 54 ((ins eLess xs e).map Ent.enc)) := fun rows h => by rw [h, hfin]
  rcases Nat.eq_zero_or_pos m with h0 | h0
  ·subst hs
   refine Split.mk fun t ht => ?_
   cases t
   case true => simp at ht; omega
   refine Need.mk rfl ?_
   refine Need.mk ⟨by omega, by omega, by omega, lenE xs⟩ ?_
   refine Need.mk (rowsOk _ _ d1) ?_
   refine Need.mk (sizeOk _ _ [] (xs.drop m) rfl d1 (by rw [List.length_drop]; simp; omega)) ?_
   refine Need.mk ⟨by omega, by omega, by omega, lenE xs⟩ ?_
   refine Need.mk (rowsOk _ _ d2) ?_
   refine Need.mk (sizeOk _ _ [] (xs.take m) rfl d2 (by rw [List.length_take]; simp; omega)) ?_
   refine Need.mk (sizeOk _ _ (xs.take m) [e] d2 rfl (by rw [List.length_take]; simp; omega)) ?_
   refine Need.mk (rowsOk _ _ d1).1 ?_
   refine Need.mk (sizeOk _ _ (xs.take m ++ [e]) (xs.drop m) d3 d1 (by rw [List.length_append, List.length_take, List.length_drop]; simp; omega)) ?_
   refine Need.mk rfl ?_
   exact Need.mk ⟨[], _, .same, fin _ d4, rfl⟩ trivial
  ·have hl : eLess e (xs[m - 1]'(by omega)) = false := by
    refine hstop.elim (fun h => absurd h (by omega)) fun h => ?_
    exact h.2
   subst hs
   refine Split.mk fun t ht => ?_
   cases t
   ·simp at ht; omega
   refine Num.mk ((m - 1 : Nat) : Int) (wrapI' (by omega) (by omega)) ?_
   refine nd ?_
   refine Row.mk _ (map_get _ xs (m - 1) (by omega)) ?_
   refine ACall.mk _ _ (spec_EntryLess e (xs[m - 1]'(by omega))) ?_
   refine Split.mk fun t ht2 => ?_
   cases t
   case true => rw [hl] at ht2; cases ht2
   refine Need.mk rfl ?_
   refine Need.mk ⟨by omega, by omega, by omega, lenE xs⟩ ?_
   refine Need.mk (rowsOk _ _ d1) ?_
   refine Need.mk (sizeOk _ _ [] (xs.drop m) rfl d1 (by rw [List.length_drop]; simp; omega)) ?_
   refine Need.mk ⟨by omega, by omega, by omega, lenE xs⟩ ?_
   refine Need.mk (rowsOk _ _ d2) ?_
   refine Need.mk (sizeOk _ _ [] (xs.take m) rfl d2 (by rw [List.length_take]; simp; omega)) ?_
   refine Need.mk (sizeOk _ _ (xs.take m) [e] d2 rfl (by rw [List.length_take]; simp; omega)) ?_
   refine Need.mk (rowsOk _ _ d1).1 ?_
   refine Need.mk (sizeOk _ _ (xs.take m ++ [e]) (xs.drop m) d3 d1 (by rw [List.length_append, List.length_take, List.length_drop]; simp; omega)) ?_
   refine Need.mk rfl ?_
   exact Need.mk ⟨[], _, .same, fin _ d4, rfl⟩ trivial
 ·have h0 : 0 < m := Nat.pos_of_ne_zero fun h => hstop (.inl h)
  have hl : eLess e (xs[m - 1]'(by omega)) = true := by
   cases hx : eLess e (xs[m - 1]'(by omega)) with
   | true => rfl
   | false => exact absurd (.inr ⟨h0, hx⟩) hstop
  have e1 : xs.take m = xs.take (m - 1) ++ [xs[m - 1]'(by omega)] := by
   conv => lhs; rw [show m = m - 1 + 1 by omega]
   exact List.take_succ_eq_append_getElem (by omega)
  have hins' : ins eLess xs e = ins eLess (xs.take (m - 1)) e ++ xs.drop (m - 1) := by
   rw [hins, e1, ins_step eLess e _ _ hl, List.append_assoc]
   congr 1
   conv => rhs; rw [List.drop_eq_getElem_cons (show m - 1 < xs.length by omega)]
   rw [show m - 1 + 1 = m by omega]; rfl
  subst hs
  refine Split.mk fun t ht => ?_
  cases t
  ·simp at ht; omega
  refine Num.mk ((m - 1 : Nat) : Int) (wrapI' (by omega) (by omega)) ?_
  refine nd ?_
  refine Row.mk _ (map_get _ xs (m - 1) (by omega)) ?_
  refine ACall.mk _ _ (spec_EntryLess e (xs[m - 1]'(by omega))) ?_
  refine Split.mk fun t ht2 => ?_
  cases t
  ·rw [hl] at ht2; cases ht2
  refine Need.mk rfl ?_
  refine Num.mk ((m - 1 : Nat) : Int) (wrapI' (by omega) (by omega)) ?_
  exact ⟨m - 1, _, by omega, Weak.nrm [true, false, false, true, false, true] [(3, 3)] rfl rfl rfl, m - 1, by omega, rfl, hins', rfl⟩
def encTO (t : Tre) : List C := [vi t.seq, .us 54 (t.mem.map Ent.enc), .us 66 (t.levels.map encLO), .us 3 (t.snaps.map encI)]
def encXO (l : List Ent) : List C := [.us 54 (l.map Ent.enc)]
theorem impl_runCopy (r : Rn) (hl : r.ents.length ≤ 1048576) : AFn Tryz.prog 206 [.agg (r.enc.map .c)] [] (.agg (encO r)) [] := by
 refine AFn.introX (E := En 0 md0) (en_ok 0 _) Tryz.func206 rfl rfl rfl fun _ _ => ?_
 refine Need.mk (⟨(plainE _), (lenE _)⟩) ?_
 refine apq (A' := []) (B' := _) rfl rfl ?_
 refine Need.mk (rfl) ?_
 exact Need.mk ⟨[], _, .same, rfl, rfl⟩ trivial
theorem impl_levelsCopy (L : List (List Rn)) (hL : L.length ≤ 1048576) (hl : ∀ l ∈ L, l.length ≤ 1048576 ∧ ∀ r ∈ l, r.ents.length ≤ 1048576) : AFn Tryz.prog 176 [sl (L.map encL)] [] (.one (.us 66 (L.map encLO))) [] := by
 have hn : (L.map encL).length = L.length := List.length_map ..
 refine AFn.introX (E := En 0 md0) (en_ok 0 _) Tryz.func176 rfl rfl rfl fun _ _ => ?_
 have hpos : 0 < Tryz.prog.cellsOf 66 := pos_of tab_ok (t := 66) rfl
 have hpos2 : 0 < Tryz.prog.cellsOf 68 := pos_of tab_ok (t := 68) rfl
 let S : List (List C) → Nat → St := fun R i => ⟨none :: none :: none :: some (.one (.ref 3 0 (.cell 0))) :: none :: none :: none :: none :: none :: some (sl (L.map encL)) :: some (av (.int .i64 (L.map encL).length)) :: some (av (.int .i64 i)) :: List.replicate 21 none, absent :: absent :: absent :: ⟨0, 1, some [.us 66 R]⟩ :: List.replicate 29 absent⟩
 refine ALoop.mk (fun m s => ∃ i : Nat, i ≤ L.length ∧ m = L.length - i ∧ s = S ((L.take i).map encLO) i)
  ⟨_, _, Weak.trans (Weak.nrm [false, false, false, true, false, false, false, false, false, true, true, true] [] rfl rfl rfl) (Weak.nilOwn 3 3 66 rfl rfl hpos), 0, Nat.zero_le _, rfl, rfl⟩ ?_
 rintro m s ⟨i, hi, rfl, hs⟩
 by_cases hin : i = L.length
 ·rw [hin, List.take_length] at hs
  subst hs
  refine spF (by omega) fun h1 => ?_
  exact Need.mk ⟨[], _, .same, rfl, rfl⟩ trivial
 ·have hia : i < L.length := by omega
  have hx := hl _ (List.getElem_mem hia)
  have hex := exq (L[i])
  obtain ⟨xs, hxs⟩ := hex
  have hrow : (L.map encL)[i]? = some (encL xs) := by rw [map_get _ L i hia, hxs]
  have hsn : (L.take (i + 1)).map encLO = (L.take i).map encLO ++ [encLO xs] := by rw [List.take_succ_eq_append_getElem hia, List.map_append, hxs]; rfl
  rw [hxs] at hx
  have hxn : (xs.map Rn.enc).length = xs.length := List.length_map ..
  have hRl : ((L.take i).map encLO).length ≤ 1048576 := by rw [List.length_map, List.length_take]; omega
  have hex := exq ((L.take i).map encLO)
  obtain ⟨R, hR⟩ := hex
  rw [hR] at hs hsn hRl
  subst hs
  refine spT (by omega) fun h1 => ?_
  refine nd ?_
  refine Row.mk _ hrow ?_
  let S1 : List (List C) → Nat → St := fun Z q => ⟨none :: none :: none :: some (.one (.ref 3 0 (.cell 0))) :: none :: none :: some (.one (.ref 6 0 (.cell 0))) :: none :: none :: some (sl (L.map encL)) :: some (av (.int .i64 (L.map encL).length)) :: some (av (.int .i64 i)) :: none :: none :: none :: some (sl (xs.map Rn.enc)) :: some (av (.int .i64 (xs.map Rn.enc).length)) :: some (av (.int .i64 q)) :: List.replicate 15 none, absent :: absent :: absent :: ⟨0, 1, some [.us 66 R]⟩ :: absent :: absent :: ⟨0, 1, some [.us 68 Z]⟩ :: List.replicate 26 absent⟩
  refine ALoop.mk (fun m s => ∃ q : Nat, q ≤ xs.length ∧ m = xs.length - q ∧ s = S1 ((xs.take q).map encO) q)
   ⟨_, _, Weak.trans (Weak.nrm [false, false, false, true, false, false, true, false, false, true, true, true, false, false, false, true, true, true] [(3, 3)] rfl rfl rfl) (Weak.nilOwn 6 6 68 rfl rfl hpos2), 0, Nat.zero_le _, rfl, rfl⟩ ?_
  rintro m s ⟨q, hq, hm2, hs⟩
  by_cases hqn : q = xs.length
  ·rw [hqn, List.take_length] at hs
   subst hs
   refine spF (by omega) fun h1 => ?_
   refine apq (A' := _) (B' := [[.us 68 (List.map encO xs)]]) rfl rfl ?_
   refine Num.mk _ (wrapS (by omega)) ?_
   exact ⟨_, _, by omega, Weak.nrm [false, false, false, true, false, false, false, false, false, true, true, true] [(30, 3)] rfl rfl rfl, i + 1, by omega, rfl, Eq.trans (b := S (R ++ [encLO xs]) (i + 1)) rfl (by rw [hsn])⟩
  ·have hqa : q < xs.length := by omega
   have hrc := impl_runCopy xs[q] (hx.2 _ (List.getElem_mem hqa))
   have hsn2 : (xs.take (q + 1)).map encO = (xs.take q).map encO ++ [encO xs[q]] := by rw [List.take_succ_eq_append_getElem hqa, List.map_append]; rfl
   have hZl : ((xs.take q).map encO).length ≤ 1048576 := by rw [List.length_map, List.length_take]; omega
   have hex := exq ((xs.take q).map encO)
   obtain ⟨Z, hZ⟩ := hex
   rw [hZ] at hs hsn2 hZl
   subst hs
   refine spT (by omega) fun h1 => ?_
   refine nd ?_
   refine Row.mk _ (map_get _ xs q (by omega)) ?_
   refine ACall.mk _ _ hrc ?_
   refine apq (A' := _) (B' := [[.us 54 (List.map Ent.enc xs[q].ents), vi xs[q].mask]]) rfl rfl ?_
   refine Num.mk _ (wrapS (by omega)) ?_
   exact ⟨_, _, by omega, Weak.nrm [false, false, false, true, false, false, true, false, false, true, true, true, false, false, false, true, true, true] [(3, 3), (25, 6)] rfl rfl rfl, q + 1, by omega, rfl, Eq.trans (b := S1 (Z ++ [encO xs[q]]) (q + 1)) rfl (by rw [hsn2])⟩
theorem spec_l5CopyLevels (L : List (List Rn)) (hL : L.length ≤ 1048576) (hl : ∀ l ∈ L, l.length ≤ 1048576 ∧ ∀ r ∈ l, r.ents.length ≤ 1048576) : AFn Tryz.prog 123 [sl (L.map encL)] [] (.one (.us 66 (L.map encLO))) [] := by
 have hn : (L.map encL).length = L.length := List.length_map ..
 refine AFn.introX (E := En 0 md0) (en_ok 0 _) Tryz.func123 rfl rfl rfl fun _ _ => ?_
 let S : List (List C) → Nat → St := fun R i => ⟨some (sl (L.map encL)) :: none :: none :: some (.one (.ref 3 0 (.cell 0))) :: some (av (.int .i64 i)) :: List.replicate 46 none, absent :: absent :: absent :: ⟨0, 1, some [.us 66 R]⟩ :: List.replicate 47 absent⟩
 refine ALoop.mk (fun m s => ∃ i : Nat, i ≤ L.length ∧ m = L.length - i ∧ s = S ((L.take i).map encLO) i)
  ⟨_, _, Weak.trans (Weak.nrm [true, false, false, true, true] [(7, 3)] rfl rfl rfl) Weak.one, 0, Nat.zero_le _, rfl, rfl⟩ ?_
 rintro m s ⟨i, hi, rfl, hs⟩
 by_cases hin : i = L.length
 ·rw [hin, List.take_length] at hs
  subst hs
  refine spF (by omega) fun h1 => ?_
  exact Need.mk ⟨[], _, .same, rfl, rfl⟩ trivial
 ·have hia : i < L.length := by omega
  have hx := hl _ (List.getElem_mem hia)
  have hex := exq (L[i])
  obtain ⟨xs, hxs⟩ := hex
  have hrow : (L.map encL)[i]? = some (encL xs) := by rw [map_get _ L i hia, hxs]
  have hsn : (L.take (i + 1)).map encLO = (L.take i).map encLO ++ [encLO xs] := by rw [List.take_succ_eq_append_getElem hia, List.map_append, hxs]; rfl
  rw [hxs] at hx
  have hxn : (xs.map Rn.enc).length = xs.length := List.length_map ..
  have hRl : ((L.take i).map encLO).length ≤ 1048576 := by rw [List.length_map, List.length_take]; omega
  have hex := exq ((L.take i).map encLO)
  obtain ⟨R, hR⟩ := hex
  rw [hR] at hs hsn hRl
  subst hs
  refine spT (by omega) fun h1 => ?_
  let S1 : List (List C) → Nat → St := fun Z q => ⟨some (sl (L.map encL)) :: none :: none :: some (.one (.ref 3 0 (.cell 0))) :: some (av (.int .i64 i)) :: some (.one (.ref 5 0 (.cell 0))) :: some (av (.int .i64 q)) :: List.replicate 44 none, absent :: absent :: absent :: ⟨0, 1, some [.us 66 R]⟩ :: absent :: ⟨0, 1, some [.us 68 Z]⟩ :: List.replicate 45 absent⟩
  refine ALoop.mk (fun m s => ∃ q : Nat, q ≤ xs.length ∧ m = xs.length - q ∧ s = S1 ((xs.take q).map encO) q)
   ⟨_, _, Weak.trans (Weak.nrm [true, false, false, true, true, true, true] [(3, 3), (14, 5)] rfl rfl rfl) Weak.one, 0, Nat.zero_le _, rfl, rfl⟩ ?_
  rintro m s ⟨q, hq, hm2, hs⟩
  by_cases hqn : q = xs.length
  ·rw [hqn, List.take_length] at hs
   subst hs
   refine nd ?_
   refine Row.mk _ hrow ?_
   refine spF (by omega) fun h1 => ?_
   refine apq (A' := _) (B' := [[.us 68 (List.map encO xs)]]) rfl rfl ?_
   refine Num.mk _ (wrapS (by omega)) ?_
   exact ⟨_, _, by omega, Weak.nrm [true, false, false, true, true] [(49, 3)] rfl rfl rfl, i + 1, by omega, rfl, Eq.trans (b := S (R ++ [encLO xs]) (i + 1)) rfl (by rw [hsn])⟩
  ·have hqa : q < xs.length := by omega
   have hel := hx.2 _ (List.getElem_mem hqa)
   have hsn2 : (xs.take (q + 1)).map encO = (xs.take q).map encO ++ [encO xs[q]] := by rw [List.take_succ_eq_append_getElem hqa, List.map_append]; rfl
   have hZl : ((xs.take q).map encO).length ≤ 1048576 := by rw [List.length_map, List.length_take]; omega
   have hex := exq ((xs.take q).map encO)
   obtain ⟨Z, hZ⟩ := hex
   rw [hZ] at hs hsn2 hZl
   subst hs
   refine nd ?_
   refine Row.mk _ hrow ?_
   refine spT (by omega) fun h1 => ?_
   refine nd ?_
   refine Row.mk _ hrow ?_
   refine nd ?_
   refine Row.mk _ (map_get _ xs q (by omega)) ?_
   refine Need.mk (⟨(plainE _), (lenE _)⟩) ?_
   refine apq (A' := []) (B' := _) rfl rfl ?_
   refine nd ?_
   refine Row.mk _ hrow ?_
   refine nd ?_
   refine Row.mk _ (map_get _ xs q (by omega)) ?_
   refine apq (A' := _) (B' := [[.us 54 ([] ++ (List.map Ent.enc xs[q].ents)), vi xs[q].mask]]) rfl rfl ?_
   refine Need.mk (rfl) ?_
   refine Num.mk _ (wrapS (by omega)) ?_
   exact ⟨_, _, by omega, Weak.nrm [true, false, false, true, true, true, true] [(3, 3), (45, 5)] rfl rfl rfl, q + 1, by omega, rfl, Eq.trans (b := S1 (Z ++ [encO xs[q]]) (q + 1)) rfl (by rw [hsn2])⟩
def CmpOk (f : FuncId) (lt : Ent → Ent → Bool) : Prop := ∃ ord : Ent → Ent → Int, (∀ x y, decide (ord x y < 0) = lt x y) ∧ ∀ x y, AFn Tryz.prog f [.agg (x.enc.map .c), .agg (y.enc.map .c)] [] (.one (vi (ord x y))) []
theorem slices_insertionSort (f : FuncId) (lt : Ent → Ent → Bool) (hf : CmpOk f lt) (xs : List Ent) (a b : Nat) (hab : a ≤ b) (hb : b ≤ xs.length) (hx : xs.length ≤ 1099511627776) :
  AFn Tryz.prog 204 [.one (.ref 0 0 (.cell 0)), av (.int .i64 a), av (.int .i64 b), av (.func (.func f) #[] #[])] [[.us 54 (xs.map Ent.enc)]] (.tup []) [[.us 54 ((sortRange lt xs a b).map Ent.enc)]] := by
 obtain ⟨ord, hord, hfn⟩ := hf
 refine AFn.introX (E := En 1 md0) (en_ok 1 _) Tryz.func204 rfl rfl rfl fun _ hs => ?_
 let S : List Ent → Nat → Option AV → St := fun ys i j => ⟨some (.one (.ref 0 0 (.cell 0))) :: some (av (.int .i64 a)) :: some (av (.int .i64 b)) :: some (av (.func (.func f) #[] #[])) :: none :: none :: none :: none :: some (av (.int .i64 i)) :: j :: List.replicate 43 none, ⟨0, 1, some [.us 54 (ys.map Ent.enc)]⟩ :: List.replicate 53 absent⟩
 refine Num.mk _ (wrapS (by omega)) ?_
 refine ALoop.mk (fun n s => ∃ i : Nat, n = b - i ∧ a < i ∧ (i ≤ b ∨ i = a + 1) ∧ s = S (sortRange lt xs a (min i b)) i none)
  ⟨b - (a + 1), _, Weak.nrm [true, true, true, true, false, false, false, false, true] [(0, 0)] rfl rfl rfl, a + 1, rfl, by omega, .inr rfl, ?_⟩ ?_
 ·have : sortRange lt xs a (min (a + 1) b) = xs := by
   by_cases h : a < b
   ·rw [Nat.min_eq_left (by omega), sortRange_one lt (by omega)]
   ·rw [Nat.min_eq_right (by omega), show b = a by omega, sortRange_self]
  rw [this]; rfl
 rintro n s ⟨i, rfl, hai, hib, hs⟩
 by_cases hi : b ≤ i
 ·rw [Nat.min_eq_right hi] at hs
  subst hs
  refine Split.mk fun t ht => ?_
  cases t
  ·exact Need.mk ⟨[], _, .same, rfl, rfl⟩ trivial
  ·simp at ht; omega
 ·have hix : i < xs.length := by omega
  rw [Nat.min_eq_left (by omega), sortRange_split lt hix] at hs
  have hex := exq (isort lt ((xs.drop a).take (i - a)))
  obtain ⟨acc, hacc⟩ := hex
  rw [hacc] at hs
  subst hs
  have hal : acc.length = i - a := by rw [← hacc, isort_len, List.length_take, List.length_drop]; omega
  have hpl : (xs.take a).length = a := by rw [List.length_take]; omega
  refine Split.mk fun t ht => ?_
  cases t
  ·simp at ht; omega
  refine ALoop.mk (fun n s => ∃ (u v : List Ent), n = u.length ∧ u.length + v.length = i - a ∧ ins lt u xs[i] ++ v = ins lt acc xs[i] ∧ s = S (xs.take a ++ u ++ xs[i] :: (v ++ xs.drop (i + 1))) i (some (av (.int .i64 ((a + u.length : Nat) : Int)))))
   ⟨acc.length, _, Weak.nrm [true, true, true, true, false, false, false, false, true, true] [(0, 0)] rfl rfl rfl, acc, [], rfl, by simp [hal], by simp, ?_⟩ ?_
  ·rw [show a + acc.length = i by omega]; rfl
  rintro n s ⟨u, v, rfl, hl, hins, hs⟩
  have stop : ins lt u xs[i] = u ++ [xs[i]] → xs.take a ++ u ++ xs[i] :: (v ++ xs.drop (i + 1)) = sortRange lt xs a (min (i + 1) b) := fun h => by
   rw [Nat.min_eq_left (by omega), sortRange_succ lt (by omega) hix, hacc, ← hins, h]; simp
  by_cases hu : u = []
  ·rw [stop (by rw [hu]; rfl), hu] at hs
   clear stop hins hl hacc hal hpl
   subst hs
   refine Split.mk fun t ht2 => ?_
   cases t
   ·refine Need.mk rfl ?_
    refine Num.mk _ (wrapS (by omega)) ?_
    exact ⟨b - (i + 1), _, by omega, Weak.nrm [true, true, true, true, false, false, false, false, true] [(0, 0)] rfl rfl rfl, i + 1, rfl, by omega, .inl (by omega), rfl⟩
   ·simp at ht2
  ·have hsn := snoc_of (List.length_pos_iff.2 hu)
   obtain ⟨u', x, hu⟩ := hsn
   subst hu
   have hul : (u' ++ [x]).length = u'.length + 1 := by simp
   by_cases hlt : lt xs[i] x = false
   ·skip
    have g1 : ((sortRange lt xs a (min (i + 1) b)).map Ent.enc)[a + (u' ++ [x]).length]? = some xs[i].enc := by
     rw [← stop (ins_stop lt _ _ _ hlt), List.getElem?_map, get_mid (by rw [hpl])]; rfl
    have g2 : ((sortRange lt xs a (min (i + 1) b)).map Ent.enc)[a + u'.length]? = some x.enc := by
     rw [← stop (ins_stop lt _ _ _ hlt), show xs.take a ++ (u' ++ [x]) ++ xs[i] :: (v ++ xs.drop (i + 1)) = xs.take a ++ u' ++ x :: (xs[i] :: (v ++ xs.drop (i + 1))) by simp, List.getElem?_map, get_mid (by rw [hpl])]; rfl
    rw [stop (ins_stop lt _ _ _ hlt)] at hs
    have hlen : ((sortRange lt xs a (min (i + 1) b)).map Ent.enc).length = xs.length := by rw [List.length_map, sortRange_len lt (by omega) (by omega)]
    clear stop hins hacc
    subst hs
    refine Split.mk fun t ht2 => ?_
    cases t
    ·simp at ht2; omega
    refine Need.mk ⟨by omega, by rw [hlen]; omega⟩ ?_
    refine Row.mk _ g1 ?_
    refine Num.mk ((a + u'.length : Nat) : Int) (by rw [IntKind.wrap_i64]; omega) ?_
    refine Need.mk ⟨by omega, by rw [hlen]; omega⟩ ?_
    refine Row.mk _ g2 ?_
    refine ACall.mk _ _ (hfn xs[i] x) ?_
    refine Split.mk fun t ht3 => ?_
    rw [hord, hlt] at ht3
    subst ht3
    refine Need.mk rfl ?_
    refine Num.mk _ (wrapS (by omega)) ?_
    exact ⟨b - (i + 1), _, by omega, Weak.nrm [true, true, true, true, false, false, false, false, true] [(0, 0)] rfl rfl rfl, i + 1, rfl, by omega, .inl (by omega), rfl⟩
   ·have hlt : lt xs[i] x = true := by simpa using hlt
    clear stop
    have hins' : ins lt u' xs[i] ++ (x :: v) = ins lt acc xs[i] := by rw [← hins, ins_step lt _ _ _ hlt]; simp
    clear hins hacc
    have hex := exq (xs.take a ++ (u' ++ [x]) ++ xs[i] :: (v ++ xs.drop (i + 1)))
    obtain ⟨ys, hys⟩ := hex
    rw [hys] at hs
    have e1 : xs.take a ++ u' ++ x :: (xs[i] :: (v ++ xs.drop (i + 1))) = ys := by rw [← hys]; simp
    have g1 : (ys.map Ent.enc)[a + (u' ++ [x]).length]? = some xs[i].enc := by
     rw [← hys, List.getElem?_map, get_mid (by rw [hpl])]; rfl
    have g2 : (ys.map Ent.enc)[a + u'.length]? = some x.enc := by
     rw [← e1, List.getElem?_map, get_mid (by rw [hpl])]; rfl
    have hlen : (ys.map Ent.enc).length = xs.length := by rw [← hys]; simp at hl ⊢; omega
    have e2 : ((ys.map Ent.enc).set (a + (u' ++ [x]).length) x.enc).set (a + u'.length) xs[i].enc = (xs.take a ++ u' ++ xs[i] :: (x :: v ++ xs.drop (i + 1))).map Ent.enc := by
     rw [← List.map_set, ← List.map_set, ← hys, set_mid (by rw [hpl]), show xs.take a ++ (u' ++ [x]) ++ x :: (v ++ xs.drop (i + 1)) = xs.take a ++ u' ++ x :: (x :: (v ++ xs.drop (i + 1))) by simp, set_mid (by rw [hpl])]; rfl
    have g3 : ((ys.map Ent.enc).set (a + (u' ++ [x]).length) x.enc)[a + u'.length]? = some x.enc := by
     rw [List.getElem?_set_ne (by omega)]; exact g2
    have hlen2 : ((ys.map Ent.enc).set (a + (u' ++ [x]).length) x.enc).length = xs.length := by rw [List.length_set, hlen]
    clear hys e1
    subst hs
    refine Split.mk fun t ht2 => ?_
    cases t
    ·simp at ht2; omega
    refine Need.mk ⟨by omega, by rw [hlen]; omega⟩ ?_
    refine Row.mk _ g1 ?_
    refine Num.mk ((a + u'.length : Nat) : Int) (by rw [IntKind.wrap_i64]; omega) ?_
    refine Need.mk ⟨by omega, by rw [hlen]; omega⟩ ?_
    refine Row.mk _ g2 ?_
    refine ACall.mk _ _ (hfn xs[i] x) ?_
    refine Split.mk fun t ht3 => ?_
    rw [hord, hlt] at ht3
    subst ht3
    refine Need.mk rfl ?_
    have hnum : IntKind.i64.wrap (((a + (u' ++ [x]).length : Nat) : Int) - 1) = ((a + u'.length : Nat) : Int) := by rw [IntKind.wrap_i64]; omega
    refine Num.mk _ hnum ?_
    refine Num.mk _ hnum ?_
    refine Need.mk ⟨by omega, by rw [hlen]; omega⟩ ?_
    refine Row.mk _ g2 ?_
    refine Need.mk ⟨by omega, by rw [hlen]; omega⟩ ?_
    refine Row.mk _ g1 ?_
    refine Need.mk ⟨by omega, by rw [hlen]; omega⟩ ?_
    refine Row.mk _ g1 ?_
    refine Need.mk ⟨by omega, show ((a + u'.length : Nat) : Int) < ((((ys.map Ent.enc).set (a + (u' ++ [x]).length) x.enc).length : Nat) : Int) from by rw [hlen2]; omega⟩ ?_
    refine Row.mk _ g3 ?_
    refine Need.mk rfl ?_
    refine Num.mk _ hnum ?_
    refine ⟨u'.length, _, by omega, Weak.nrm [true, true, true, true, false, false, false, false, true, true] [(0, 0)] rfl rfl rfl, u', x :: v, rfl, by simp at hl ⊢; omega, hins', ?_⟩
    refine Eq.trans (b := ⟨some (.one (.ref 0 0 (.cell 0))) :: some (av (.int .i64 a)) :: some (av (.int .i64 b)) :: some (av (.func (.func f) #[] #[])) :: none :: none :: none :: none :: some (av (.int .i64 i)) :: some (av (.int .i64 ((a + u'.length : Nat) : Int))) :: List.replicate 43 none, ⟨0, 1, some [.us 54 (((ys.map Ent.enc).set (a + (u' ++ [x]).length) x.enc).set (a + u'.length) xs[i].enc)]⟩ :: List.replicate 53 absent⟩) rfl ?_
    rw [e2]
theorem slices_swapRange (f : FuncId) (x p m q y : List Ent) (h : p.length = q.length) (hx : x.length + p.length + m.length + q.length + y.length ≤ 1099511627776) :
  AFn Tryz.prog 225 [.one (.ref 0 0 (.cell 0)), av (.int .i64 x.length), av (.int .i64 ((x.length + p.length + m.length : Nat) : Int)), av (.int .i64 p.length), av (.func (.func f) #[] #[])] [[.us 54 ((x ++ p ++ m ++ q ++ y).map Ent.enc)]] (.tup []) [[.us 54 ((x ++ q ++ m ++ p ++ y).map Ent.enc)]] := by
 refine AFn.introX (E := En 1 md0) (en_ok 1 _) Tryz.func225 rfl rfl rfl fun _ hs => ?_
 let S : List (List C) → Nat → St := fun rows i => ⟨some (.one (.ref 0 0 (.cell 0))) :: some (av (.int .i64 x.length)) :: some (av (.int .i64 ((x.length + p.length + m.length : Nat) : Int))) :: some (av (.int .i64 p.length)) :: none :: none :: none :: none :: none :: none :: some (av (.int .i64 i)) :: List.replicate 27 none, ⟨0, 1, some [.us 54 rows]⟩ :: List.replicate 38 absent⟩
 refine ALoop.mk (fun n s => ∃ i : Nat, i ≤ p.length ∧ n = p.length - i ∧ s = S ((swZ x p m q y i).map Ent.enc) i)
  ⟨p.length, _, Weak.nrm [true, true, true, true, false, false, false, false, false, false, true] [(0, 0)] rfl rfl rfl, 0, Nat.zero_le _, rfl, ?_⟩ ?_
 ·rw [swZ_zero]; rfl
 rintro n s ⟨i, hi, rfl, hs⟩
 by_cases hia : i = p.length
 ·subst hia
  rw [swZ_end x p m q y h] at hs
  subst hs
  refine Split.mk fun t ht => ?_
  cases t
  ·exact Need.mk ⟨[], _, .same, rfl, rfl⟩ trivial
  ·simp at ht
 ·have hil : i < p.length := by omega
  have g1 : ((swZ x p m q y i).map Ent.enc)[x.length + i]? = some p[i].enc := by rw [List.getElem?_map, swZ_get1 h hil]; rfl
  have g2 : ((swZ x p m q y i).map Ent.enc)[x.length + p.length + m.length + i]? = some (q[i]'(by omega)).enc := by rw [List.getElem?_map, swZ_get2 h hil]; rfl
  have g3 : (((swZ x p m q y i).map Ent.enc).set (x.length + i) (q[i]'(by omega)).enc)[x.length + p.length + m.length + i]? = some (q[i]'(by omega)).enc := by rw [← List.map_set, List.getElem?_map, swZ_get3 h hil]; rfl
  have e2 : (((swZ x p m q y i).map Ent.enc).set (x.length + i) (q[i]'(by omega)).enc).set (x.length + p.length + m.length + i) p[i].enc = (swZ x p m q y (i + 1)).map Ent.enc := by rw [← List.map_set, ← List.map_set, swZ_set2 h hil]
  have hlen : ((swZ x p m q y i).map Ent.enc).length = x.length + p.length + m.length + q.length + y.length := by rw [List.length_map, swZ_len _ _ _ _ _ _ h]
  have hlen2 : (((swZ x p m q y i).map Ent.enc).set (x.length + i) (q[i]'(by omega)).enc).length = x.length + p.length + m.length + q.length + y.length := by rw [List.length_set, hlen]
  have n1 : IntKind.i64.wrap ((x.length : Int) + (i : Int)) = ((x.length + i : Nat) : Int) := by rw [IntKind.wrap_i64]; omega
  have n2 : IntKind.i64.wrap (((x.length + p.length + m.length : Nat) : Int) + (i : Int)) = ((x.length + p.length + m.length + i : Nat) : Int) := by rw [IntKind.wrap_i64]; omega
  subst hs
  refine Split.mk fun t ht => ?_
  cases t
  ·simp at ht; omega
  refine Num.mk _ n1 ?_
  refine Num.mk _ n2 ?_
  refine Num.mk _ n2 ?_
  refine Need.mk ⟨by omega, by rw [hlen]; omega⟩ ?_
  refine Row.mk _ g2 ?_
  refine Num.mk _ n1 ?_
  refine Need.mk ⟨by omega, by rw [hlen]; omega⟩ ?_
  refine Row.mk _ g1 ?_
  refine Need.mk ⟨by omega, by rw [hlen]; omega⟩ ?_
  refine Row.mk _ g1 ?_
  refine Need.mk ⟨by omega, show ((x.length + p.length + m.length + i : Nat) : Int) < (((((swZ x p m q y i).map Ent.enc).set (x.length + i) (q[i]'(by omega)).enc).length : Nat) : Int) from by rw [hlen2]; omega⟩ ?_
  refine Row.mk _ g3 ?_
  refine Need.mk rfl ?_
  refine Num.mk _ (wrapS (by omega)) ?_
  refine ⟨p.length - (i + 1), _, by omega, Weak.nrm [true, true, true, true, false, false, false, false, false, false, true] [(0, 0)] rfl rfl rfl, i + 1, by omega, rfl, ?_⟩
  refine Eq.trans (b := S ((((swZ x p m q y i).map Ent.enc).set (x.length + i) (q[i]'(by omega)).enc).set (x.length + p.length + m.length + i) p[i].enc) (i + 1)) rfl ?_
  rw [e2]
theorem slices_swapRange' (f : FuncId) (x p m q y : List Ent) (l r : List Ent) (a b n : Nat) (hl : l = x ++ p ++ m ++ q ++ y) (hr : r = x ++ q ++ m ++ p ++ y) (ha : a = x.length) (hb : b = x.length + p.length + m.length) (hn : n = p.length) (h : p.length = q.length) (hx : l.length ≤ 1099511627776) :
  AFn Tryz.prog 225 [.one (.ref 0 0 (.cell 0)), av (.int .i64 a), av (.int .i64 b), av (.int .i64 n), av (.func (.func f) #[] #[])] [[.us 54 (l.map Ent.enc)]] (.tup []) [[.us 54 (r.map Ent.enc)]] := by
 subst hl hr ha hb hn
 exact slices_swapRange f x p m q y h (by simpa [Nat.add_assoc] using hx)
theorem slices_rotate (f : FuncId) (x u v y l r : List Ent) (a m b : Nat) (hl : l = x ++ u ++ v ++ y) (hr : r = x ++ v ++ u ++ y) (ha : a = x.length) (hm : m = x.length + u.length) (hb : b = x.length + u.length + v.length) (hu : 0 < u.length) (hv : 0 < v.length) (hx : l.length ≤ 1099511627776) :
  AFn Tryz.prog 218 [.one (.ref 0 0 (.cell 0)), av (.int .i64 a), av (.int .i64 m), av (.int .i64 b), av (.func (.func f) #[] #[])] [[.us 54 (l.map Ent.enc)]] (.tup []) [[.us 54 (r.map Ent.enc)]] := by
 have hll : l.length = x.length + u.length + v.length + y.length := by rw [hl]; simp; omega
 refine AFn.introX (E := En 1 (md1 [225])) (en_ok 1 _) Tryz.func218 rfl rfl rfl fun _ hs => ?_
 let S : List Ent → Nat → Nat → St := fun ys i j => ⟨some (.one (.ref 0 0 (.cell 0))) :: some (av (.int .i64 a)) :: some (av (.int .i64 m)) :: some (av (.int .i64 b)) :: some (av (.func (.func f) #[] #[])) :: none :: none :: none :: none :: none :: some (av (.int .i64 i)) :: some (av (.int .i64 j)) :: List.replicate 46 none, ⟨0, 1, some [.us 54 (ys.map Ent.enc)]⟩ :: List.replicate 58 absent⟩
 refine Num.mk (u.length : Int) (by rw [IntKind.wrap_i64]; omega) ?_
 refine Num.mk (v.length : Int) (by rw [IntKind.wrap_i64]; omega) ?_
 refine ALoop.mk (fun n s => ∃ (x' u' v' y' : List Ent) (i j : Nat), n = i + j ∧ i = u'.length ∧ j = v'.length ∧ 0 < i ∧ 0 < j ∧ x'.length + i = m ∧ x'.length + i + j + y'.length = l.length ∧ x' ++ v' ++ u' ++ y' = r ∧ s = S (x' ++ u' ++ v' ++ y') i j)
  ⟨u.length + v.length, _, Weak.nrm [true, true, true, true, true, false, false, false, false, false, true, true] [(0, 0)] rfl rfl rfl, x, u, v, y, u.length, v.length, rfl, rfl, rfl, hu, hv, by omega, by omega, hr.symm, by rw [← hl]; rfl⟩ ?_
 rintro n s ⟨x', u', v', y', i, j, rfl, hi, hj, hi0, hj0, hmm, htot, htar, hs⟩
 have hlen' : (x' ++ u' ++ v' ++ y').length ≤ 1099511627776 := by simp; omega
 by_cases hij : i = j
 ·have hcall := slices_swapRange' f x' u' [] v' y' (x' ++ u' ++ v' ++ y') r (m - i) m i (by simp) (by rw [← htar]; simp) (by omega) (by simp; omega) hi (by omega) hlen'
  subst hs
  refine Split.mk fun t ht => ?_
  cases t
  ·refine Num.mk ((m - i : Nat) : Int) (by rw [IntKind.wrap_i64]; omega) ?_
   refine ACall.mk _ _ hcall ?_
   exact Need.mk ⟨[], _, .same, rfl, rfl⟩ trivial
  ·simp at ht; omega
 ·by_cases hgt : j < i
  ·have e1 : u' = u'.take j ++ u'.drop j := (List.take_append_drop j u').symm
   have l1 : (u'.take j).length = j := by rw [List.length_take]; omega
   have l2 : (u'.drop j).length = i - j := by rw [List.length_drop]; omega
   have hcall := slices_swapRange' f x' (u'.take j) (u'.drop j) v' y' (x' ++ u' ++ v' ++ y') (x' ++ v' ++ u'.drop j ++ u'.take j ++ y') (m - i) m j (by rw [List.append_assoc x' (u'.take j), List.take_append_drop]) rfl (by omega) (by omega) l1.symm (by omega) hlen'
   have htar2 : x' ++ v' ++ u'.take j ++ u'.drop j ++ y' = r := by rw [List.append_assoc (x' ++ v') (u'.take j), List.take_append_drop, htar]
   subst hs
   refine Split.mk fun t ht => ?_
   cases t
   ·simp at ht; omega
   refine Split.mk fun t ht2 => ?_
   cases t
   ·simp at ht2; omega
   refine Num.mk ((m - i : Nat) : Int) (by rw [IntKind.wrap_i64]; omega) ?_
   refine ACall.mk _ _ hcall ?_
   refine Num.mk ((i - j : Nat) : Int) (by rw [IntKind.wrap_i64]; omega) ?_
   exact ⟨i - j + j, _, by omega, Weak.nrm [true, true, true, true, true, false, false, false, false, false, true, true] [(0, 0)] rfl rfl rfl, x' ++ v', u'.drop j, u'.take j, y', i - j, j, rfl, l2.symm, l1.symm, by omega, by omega, by simp; omega, by simp; omega, htar2, rfl⟩
  ·have l1 : (v'.take (j - i)).length = j - i := by rw [List.length_take]; omega
   have l2 : (v'.drop (j - i)).length = i := by rw [List.length_drop]; omega
   have hcall := slices_swapRange' f x' u' (v'.take (j - i)) (v'.drop (j - i)) y' (x' ++ u' ++ v' ++ y') (x' ++ v'.drop (j - i) ++ v'.take (j - i) ++ (u' ++ y')) (m - i) (m + j - i) i (by rw [List.append_assoc (x' ++ u') (v'.take (j - i)), List.take_append_drop]) (by simp) (by omega) (by omega) hi (by omega) hlen'
   have htar2 : x' ++ v'.take (j - i) ++ v'.drop (j - i) ++ (u' ++ y') = r := by rw [List.append_assoc x' (v'.take (j - i)), List.take_append_drop, ← List.append_assoc, htar]
   subst hs
   refine Split.mk fun t ht => ?_
   cases t
   ·simp at ht; omega
   refine Split.mk fun t ht2 => ?_
   cases t
   ·refine Num.mk ((m - i : Nat) : Int) (by rw [IntKind.wrap_i64]; omega) ?_
    refine Num.mk ((m + j : Nat) : Int) (by rw [IntKind.wrap_i64]; omega) ?_
    refine Num.mk ((m + j - i : Nat) : Int) (by rw [IntKind.wrap_i64]; omega) ?_
    refine ACall.mk _ _ hcall ?_
    refine Num.mk ((j - i : Nat) : Int) (by rw [IntKind.wrap_i64]; omega) ?_
    exact ⟨i + (j - i), _, by omega, Weak.nrm [true, true, true, true, true, false, false, false, false, false, true, true] [(0, 0)] rfl rfl rfl, x', v'.drop (j - i), v'.take (j - i), u' ++ y', i, j - i, rfl, l2.symm, l1.symm, by omega, by omega, by omega, by simp; omega, htar2, rfl⟩
   ·simp at ht2; omega
def SymM (f : FuncId) (lt : Ent → Ent → Bool) (n : Nat) : Prop := ∀ (x c d y l r : List Ent) (a m b : Nat), l = x ++ c ++ d ++ y → r = x ++ mrg lt c d ++ y → a = x.length → m = x.length + c.length → b = x.length + c.length + d.length → 0 < c.length → 0 < d.length → Srt lt c → Srt lt d → c.length + d.length ≤ n → l.length ≤ 1099511627776 →
  AFn Tryz.prog 205 [.one (.ref 0 0 (.cell 0)), av (.int .i64 a), av (.int .i64 m), av (.int .i64 b), av (.func (.func f) #[] #[])] [[.us 54 (l.map Ent.enc)]] (.tup []) [[.us 54 (r.map Ent.enc)]]
theorem symMerge_left (f : FuncId) (lt : Ent → Ent → Bool) (hw : Wk lt) (hf : CmpOk f lt) (x c d y l r : List Ent) (a m b : Nat) (hl : l = x ++ c ++ d ++ y) (hr : r = x ++ mrg lt c d ++ y) (ha : a = x.length) (hm : m = x.length + c.length) (hb : b = x.length + c.length + d.length) (hc : c.length = 1) (hd : 0 < d.length) (sd : Srt lt d) (hx : l.length ≤ 1099511627776) :
  AFn Tryz.prog 205 [.one (.ref 0 0 (.cell 0)), av (.int .i64 a), av (.int .i64 m), av (.int .i64 b), av (.func (.func f) #[] #[])] [[.us 54 (l.map Ent.enc)]] (.tup []) [[.us 54 (r.map Ent.enc)]] := by
 obtain ⟨ord, hord, hfn⟩ := hf
 have hll : l.length = x.length + c.length + d.length + y.length := by rw [hl]; simp; omega
 refine AFn.introX (E := En 1 (md1 [205, 218])) (en_ok 1 _) Tryz.func205 rfl rfl rfl fun _ hs => ?_
 have hlm : (l.map Ent.enc).length = l.length := List.length_map ..
 have gd : ∀ k (hk : k < d.length), (l.map Ent.enc)[m + k]? = some d[k].enc := fun k hk => by rw [List.getElem?_map, hl, get_r (i := k) (by omega) hk]; rfl
 have gc : ∀ k (hk : k < c.length), (l.map Ent.enc)[a + k]? = some c[k].enc := fun k hk => by rw [List.getElem?_map, hl, get_l (i := k) (by omega) hk]; rfl
 refine Num.mk ((c.length : Nat) : Int) (wrapI' (by omega) (by omega)) ?_
 refine Split.mk fun t ht => ?_
 cases t
 ·simp at ht; omega
 have he : ∃ e, c = [e] := by
  match c, hc with
  | [e], _ => exact ⟨e, rfl⟩
 obtain ⟨e, he⟩ := he
 subst he
 have ge : (l.map Ent.enc)[a]? = some e.enc := gc 0 (by simp)
 let S : Nat → Nat → St := fun i j => ⟨some (.one (.ref 0 0 (.cell 0))) :: some (av (.int .i64 a)) :: some (av (.int .i64 m)) :: some (av (.int .i64 b)) :: some (av (.func (.func f) #[] #[])) :: none :: none :: none :: none :: none :: some (av (.int .i64 i)) :: some (av (.int .i64 j)) :: List.replicate 208 none, ⟨0, 1, some [.us 54 (l.map Ent.enc)]⟩ :: List.replicate 220 absent⟩
 refine ALoop.mk (fun n s => ∃ p q : Nat, p ≤ q ∧ q ≤ d.length ∧ n = q - p ∧ (∀ k (hk : k < d.length), k < p → lt d[k] e = true) ∧ (∀ k (hk : k < d.length), q ≤ k → lt d[k] e = false) ∧ s = S (m + p) (m + q))
  ⟨d.length, _, Weak.nrm [true, true, true, true, true, false, false, false, false, false, true, true] [(0, 0)] rfl rfl rfl, 0, d.length, Nat.zero_le _, Nat.le_refl _, rfl, by intro k hk h; omega, by intro k hk h; omega, by rw [show m + d.length = b by omega]; rfl⟩ ?_
 rintro n s ⟨p, q, hpq, hq, rfl, h1, h2, hs⟩
 by_cases hlt : p < q
 ·have hk : (p + q) / 2 < d.length := by omega
  by_cases hcmp : lt (d[(p + q) / 2]) e = true
  ·have h1' : ∀ k (hk : k < d.length), k < (p + q) / 2 + 1 → lt d[k] e = true := fun k hk' hle => by
    cases hx' : lt d[k] e with
    | true => rfl
    | false => have := hw.nt _ _ _ (srt_get hw sd (i := k) (j := (p + q) / 2) (by omega) hk) hx'; rw [hcmp] at this; cases this
   subst hs
   refine Split.mk fun t ht => ?_
   cases t
   ·simp at ht; omega
   refine Num.mk ((m + p + (m + q) : Nat) : Int) (wrapI' (by omega) (by omega)) ?_
   refine Num.mk _ (wrapU (by omega)) ?_
   refine Need.mk (by decide) ?_
   refine Num.mk _ (half (by omega)) ?_
   have hh : (m + p + (m + q)) / 2 = m + (p + q) / 2 := by omega
   refine Need.mk ⟨by omega, by rw [hlm]; omega⟩ ?_
   refine Row.mk _ (by show (l.map Ent.enc)[(m + p + (m + q)) / 2]? = _; rw [hh]; exact gd _ hk) ?_
   refine Need.mk ⟨by omega, by rw [hlm]; omega⟩ ?_
   refine Row.mk _ ge ?_
   refine ACall.mk _ _ (hfn _ e) ?_
   refine Split.mk fun t ht3 => ?_
   rw [hord, hcmp] at ht3
   subst ht3
   refine Need.mk rfl ?_
   refine Num.mk _ (wrapS (by omega)) ?_
   refine ⟨q - ((p + q) / 2 + 1), _, by omega, Weak.nrm [true, true, true, true, true, false, false, false, false, false, true, true] [(0, 0)] rfl rfl rfl, (p + q) / 2 + 1, q, by omega, hq, rfl, h1', h2, ?_⟩
   rw [show m + ((p + q) / 2 + 1) = (m + p + (m + q)) / 2 + 1 by omega]; rfl
  ·have hcmp : lt (d[(p + q) / 2]) e = false := by simpa using hcmp
   have h2' : ∀ k (hk : k < d.length), (p + q) / 2 ≤ k → lt d[k] e = false := fun k hk' hle => hw.nt _ _ _ (srt_get hw sd (i := (p + q) / 2) (j := k) hle hk') hcmp
   subst hs
   refine Split.mk fun t ht => ?_
   cases t
   ·simp at ht; omega
   refine Num.mk ((m + p + (m + q) : Nat) : Int) (wrapI' (by omega) (by omega)) ?_
   refine Num.mk _ (wrapU (by omega)) ?_
   refine Need.mk (by decide) ?_
   refine Num.mk _ (half (by omega)) ?_
   have hh : (m + p + (m + q)) / 2 = m + (p + q) / 2 := by omega
   refine Need.mk ⟨by omega, by rw [hlm]; omega⟩ ?_
   refine Row.mk _ (by show (l.map Ent.enc)[(m + p + (m + q)) / 2]? = _; rw [hh]; exact gd _ hk) ?_
   refine Need.mk ⟨by omega, by rw [hlm]; omega⟩ ?_
   refine Row.mk _ ge ?_
   refine ACall.mk _ _ (hfn _ e) ?_
   refine Split.mk fun t ht3 => ?_
   rw [hord, hcmp] at ht3
   subst ht3
   refine Need.mk rfl ?_
   refine ⟨(p + q) / 2 - p, _, by omega, Weak.nrm [true, true, true, true, true, false, false, false, false, false, true, true] [(0, 0)] rfl rfl rfl, p, (p + q) / 2, by omega, by omega, rfl, h1, h2', ?_⟩
   rw [← hh]; rfl
 ·have hpq : q = p := by omega
  subst hpq
  have hfin : r = x ++ d.take q ++ e :: (d.drop q ++ y) := by rw [hr, mrg_one_l h1 h2]; simp
  have h0 : l = x ++ d.take 0 ++ e :: (d.drop 0 ++ y) := by rw [hl]; simp
  subst hs
  refine Split.mk fun t ht => ?_
  cases t
  ·let S2 : List Ent → Nat → Nat → St := fun ys p k => ⟨some (.one (.ref 0 0 (.cell 0))) :: some (av (.int .i64 a)) :: some (av (.int .i64 m)) :: some (av (.int .i64 b)) :: some (av (.func (.func f) #[] #[])) :: none :: none :: none :: none :: none :: some (av (.int .i64 ((m + p : Nat) : Int))) :: none :: none :: some (av (.int .i64 k)) :: List.replicate 206 none, ⟨0, 1, some [.us 54 (ys.map Ent.enc)]⟩ :: List.replicate 220 absent⟩
   refine ALoop.mk (fun n s => ∃ t : Nat, t ≤ q ∧ n = q - t ∧ s = S2 (x ++ d.take t ++ e :: (d.drop t ++ y)) q (a + t))
    ⟨q, _, Weak.nrm [true, true, true, true, true, false, false, false, false, false, true, false, false, true] [(0, 0)] rfl rfl rfl, 0, Nat.zero_le _, rfl, by rw [← h0]; rfl⟩ ?_
   rintro n s ⟨t, ht, rfl, hs⟩
   by_cases htq : t = q
   ·subst htq
    rw [← hfin] at hs
    subst hs
    refine Num.mk ((a + t : Nat) : Int) (wrapI' (by simp at hm; omega) (by omega)) ?_
    refine Split.mk fun t ht => ?_
    cases t
    ·exact Need.mk ⟨[], _, .same, rfl, rfl⟩ trivial
    ·simp at ht
   ·have htd : t < d.length := by omega
    have hys : x ++ d.take t ++ e :: (d.drop t ++ y) = x ++ d.take t ++ e :: d[t] :: (d.drop (t + 1) ++ y) := by rw [List.drop_eq_getElem_cons htd]; rfl
    have hys2 : x ++ d.take t ++ d[t] :: e :: (d.drop (t + 1) ++ y) = x ++ d.take (t + 1) ++ e :: (d.drop (t + 1) ++ y) := by rw [List.take_succ_eq_append_getElem htd]; simp only [List.append_assoc, List.cons_append, List.nil_append]
    have hadj := adj Ent.enc (x ++ d.take t) (d.drop (t + 1) ++ y) e d[t] (k := a + t) (by simp; omega)
    obtain ⟨g0, g1, g2, g3, _, _⟩ := hadj
    have hln : ((x ++ d.take t ++ e :: d[t] :: (d.drop (t + 1) ++ y)).map Ent.enc).length = l.length := by rw [List.length_map, ← hys]; simp at hll ⊢; omega
    have hln2 : (((x ++ d.take t ++ e :: d[t] :: (d.drop (t + 1) ++ y)).map Ent.enc).set (a + t) d[t].enc).length = l.length := by rw [List.length_set, hln]
    have hm1 : m = a + 1 := by simp at hm; omega
    rw [hys] at hs
    have hex := exq (x ++ d.take t ++ e :: d[t] :: (d.drop (t + 1) ++ y))
    obtain ⟨ys, hyy⟩ := hex
    rw [hyy] at hs g0 g1 g2 g3 hln hln2
    rw [hys2] at g3
    subst hs
    refine Num.mk ((a + q : Nat) : Int) (wrapI' (by omega) (by omega)) ?_
    refine Split.mk fun t' ht' => ?_
    cases t'
    ·simp at ht'; omega
    refine Num.mk ((a + t + 1 : Nat) : Int) (wrapI' (by omega) (by omega)) ?_
    refine Num.mk ((a + t + 1 : Nat) : Int) (wrapI' (by omega) (by omega)) ?_
    refine Need.mk ⟨by omega, by rw [hln]; omega⟩ ?_
    refine Row.mk _ g1 ?_
    refine Need.mk ⟨by omega, by rw [hln]; omega⟩ ?_
    refine Row.mk _ g0 ?_
    refine Need.mk ⟨by omega, by rw [hln]; omega⟩ ?_
    refine Row.mk _ g0 ?_
    refine Need.mk ⟨by omega, show ((a + t + 1 : Nat) : Int) < ((((ys.map Ent.enc).set (a + t) d[t].enc).length : Nat) : Int) from by rw [hln2]; omega⟩ ?_
    refine Row.mk _ g2 ?_
    refine Need.mk rfl ?_
    refine Num.mk ((a + t + 1 : Nat) : Int) (wrapI' (by omega) (by omega)) ?_
    refine ⟨q - (t + 1), _, by omega, Weak.nrm [true, true, true, true, true, false, false, false, false, false, true, false, false, true] [(0, 0)] rfl rfl rfl, t + 1, by omega, rfl, ?_⟩
    refine Eq.trans (b := ⟨some (.one (.ref 0 0 (.cell 0))) :: some (av (.int .i64 a)) :: some (av (.int .i64 m)) :: some (av (.int .i64 b)) :: some (av (.func (.func f) #[] #[])) :: none :: none :: none :: none :: none :: some (av (.int .i64 ((m + q : Nat) : Int))) :: none :: none :: some (av (.int .i64 ((a + t + 1 : Nat) : Int))) :: List.replicate 206 none, ⟨0, 1, some [.us 54 (((ys.map Ent.enc).set (a + t) d[t].enc).set (a + t + 1) e.enc)]⟩ :: List.replicate 220 absent⟩) rfl ?_
    rw [g3]; rfl
  ·simp at ht
end Go.Proofs.YtcnongahanmclaaGreat
