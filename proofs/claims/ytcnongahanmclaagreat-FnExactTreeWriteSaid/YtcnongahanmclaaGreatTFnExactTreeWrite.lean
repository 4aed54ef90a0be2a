/-
  Contracts of functions, part 1.
-/
import Derived.Test.YtcnongahanmclaaGreatEvD
import Derived.Test.YtcnongahanmclaaGreatProg
import Derived.KernelRfl
namespace Go.Proofs.YtcnongahanmclaaGreat
open Go Go.Proofs Ev
def tab : List (TypeId × TI) := [
  (2, ⟨1, 8, false, .int .i64, [.int .i64 0], [none], none⟩),
  (3, ⟨1, 8, false, .int .i64, [.int .i64 0], [none], none⟩),
  (4, ⟨1, 1, false, .bool, [.bool false], [none], none⟩),
  (5, ⟨1, 1, false, .int .u8, [.int .u8 0], [none], none⟩),
  (9, ⟨1, 16, false, .str, [.string ⟨#[]⟩], [none], none⟩),
  (12, ⟨1, 8, false, .int .u64, [.int .u64 0], [none], none⟩),
  (20, ⟨1, 16, false, .other, [.nilIface], [none], none⟩),
  (21, ⟨1, 4, false, .int .i32, [.int .i32 0], [none], none⟩),
  (22, ⟨1, 24, false, .slice 78, [nilV], [some 78], none⟩),
  (23, ⟨1, 24, false, .slice 118, [nilV], [some 118], none⟩),
  (24, ⟨1, 24, false, .slice 3, [nilV], [some 3], none⟩),
  (25, ⟨4, 80, true, .struct [(0, 3), (1, 22), (2, 23), (3, 24)], [.int .i64 0, nilV, nilV, nilV], [none, some 78, some 118, some 3], none⟩),
  (26, ⟨4, 80, true, .struct [(0, 3), (1, 22), (2, 23), (3, 24)], [.int .i64 0, nilV, nilV, nilV], [none, some 78, some 118, some 3], none⟩),
  (27, ⟨1, 8, false, .other, [.nilFunc], [none], none⟩),
  (28, ⟨1, 8, false, .other, [.nilFunc], [none], none⟩),
  (29, ⟨1, 24, false, .slice 54, [nilV], [some 54], none⟩),
  (30, ⟨1, 24, false, .slice 66, [nilV], [some 66], none⟩),
  (31, ⟨4, 80, true, .struct [(0, 3), (1, 29), (2, 30), (3, 24)], [.int .i64 0, nilV, nilV, nilV], [none, some 54, some 66, some 3], none⟩),
  (32, ⟨4, 80, true, .struct [(0, 3), (1, 29), (2, 30), (3, 24)], [.int .i64 0, nilV, nilV, nilV], [none, some 54, some 66, some 3], none⟩),
  (34, ⟨1, 8, false, .other, [.nilFunc], [none], none⟩),
  (35, ⟨1, 8, false, .other, [.nilFunc], [none], none⟩),
  (36, ⟨1, 8, false, .other, [.nilFunc], [none], none⟩),
  (37, ⟨1, 8, false, .other, [.nilFunc], [none], none⟩),
  (38, ⟨1, 8, false, .other, [.nilFunc], [none], none⟩),
  (39, ⟨1, 8, false, .other, [.nilFunc], [none], none⟩),
  (40, ⟨1, 8, false, .other, [.nilFunc], [none], none⟩),
  (41, ⟨1, 8, false, .other, [.nilFunc], [none], none⟩),
  (42, ⟨1, 8, false, .other, [.nilFunc], [none], none⟩),
  (43, ⟨1, 8, false, .other, [.nilFunc], [none], none⟩),
  (44, ⟨1, 8, false, .other, [.nilFunc], [none], none⟩),
  (45, ⟨1, 8, false, .other, [.nilFunc], [none], none⟩),
  (46, ⟨1, 24, false, .slice 5, [nilV], [some 5], none⟩),
  (47, ⟨1, 8, false, .other, [.nilFunc], [none], none⟩),
  (48, ⟨1, 8, false, .other, [.nilFunc], [none], none⟩),
  (49, ⟨1, 8, false, .other, [.nilFunc], [none], none⟩),
  (50, ⟨1, 8, false, .other, [.nilFunc], [none], none⟩),
  (52, ⟨1, 8, false, .other, [.nilFunc], [none], none⟩),
  (53, ⟨5, 56, true, .struct [(0, 9), (1, 3), (2, 3), (3, 9), (4, 3)], [.string ⟨#[]⟩, .int .i64 0, .int .i64 0, .string ⟨#[]⟩, .int .i64 0], [none, none, none, none, none], some [.str, .int .i64, .int .i64, .str, .int .i64]⟩),
  (54, ⟨5, 56, true, .struct [(0, 9), (1, 3), (2, 3), (3, 9), (4, 3)], [.string ⟨#[]⟩, .int .i64 0, .int .i64 0, .string ⟨#[]⟩, .int .i64 0], [none, none, none, none, none], some [.str, .int .i64, .int .i64, .str, .int .i64]⟩),
  (55, ⟨1, 8, false, .other, [.nilFunc], [none], none⟩),
  (57, ⟨1, 8, false, .other, [.nilFunc], [none], none⟩),
  (58, ⟨1, 8, false, .other, [.nilFunc], [none], none⟩),
  (59, ⟨1, 8, false, .other, [.nilFunc], [none], none⟩),
  (61, ⟨1, 8, false, .other, [.nilFunc], [none], none⟩),
  (62, ⟨3, 32, true, .struct [(0, 4), (1, 9), (2, 3)], [.bool false, .string ⟨#[]⟩, .int .i64 0], [none, none, none], some [.bool, .str, .int .i64]⟩),
  (63, ⟨3, 32, true, .struct [(0, 4), (1, 9), (2, 3)], [.bool false, .string ⟨#[]⟩, .int .i64 0], [none, none, none], some [.bool, .str, .int .i64]⟩),
  (64, ⟨1, 8, false, .other, [.nilFunc], [none], none⟩),
  (65, ⟨1, 8, false, .other, [.nilFunc], [none], none⟩),
  (66, ⟨1, 24, false, .slice 68, [nilV], [some 68], none⟩),
  (67, ⟨2, 32, true, .struct [(0, 29), (1, 3)], [nilV, .int .i64 0], [some 54, none], none⟩),
  (68, ⟨2, 32, true, .struct [(0, 29), (1, 3)], [nilV, .int .i64 0], [some 54, none], none⟩),
  (69, ⟨1, 8, false, .other, [.nilFunc], [none], none⟩),
  (70, ⟨1, 24, false, .slice 9, [nilV], [some 9], none⟩),
  (71, ⟨1, 8, false, .other, [.nilFunc], [none], none⟩),
  (72, ⟨1, 8, false, .other, [.nilFunc], [none], none⟩),
  (74, ⟨1, 8, false, .other, [.nilFunc], [none], none⟩),
  (75, ⟨1, 8, false, .other, [.nilFunc], [none], none⟩),
  (76, ⟨1, 8, false, .other, [.nilFunc], [none], none⟩),
  (77, ⟨1, 8, false, .other, [.nilFunc], [none], none⟩),
  (78, ⟨5, 56, true, .struct [(0, 9), (1, 3), (2, 3), (3, 9), (4, 3)], [.string ⟨#[]⟩, .int .i64 0, .int .i64 0, .string ⟨#[]⟩, .int .i64 0], [none, none, none, none, none], some [.str, .int .i64, .int .i64, .str, .int .i64]⟩),
  (79, ⟨1, 8, false, .other, [.nilFunc], [none], none⟩),
  (80, ⟨1, 8, false, .other, [.nilFunc], [none], none⟩),
  (81, ⟨1, 8, false, .other, [.nilFunc], [none], none⟩),
  (82, ⟨1, 8, false, .other, [.nilFunc], [none], none⟩),
  (83, ⟨1, 8, false, .other, [.nilFunc], [none], none⟩),
  (84, ⟨1, 8, false, .other, [.nilFunc], [none], none⟩),
  (85, ⟨1, 8, false, .other, [.nilFunc], [none], none⟩),
  (86, ⟨1, 8, false, .other, [.nilFunc], [none], none⟩),
  (87, ⟨1, 8, false, .other, [.nilFunc], [none], none⟩),
  (88, ⟨1, 8, false, .other, [.nilFunc], [none], none⟩),
  (89, ⟨1, 8, false, .other, [.nilFunc], [none], none⟩),
  (90, ⟨1, 8, false, .ptr, [.pointer none], [none], none⟩),
  (91, ⟨1, 8, false, .other, [.nilFunc], [none], none⟩),
  (92, ⟨1, 8, false, .other, [.nilFunc], [none], none⟩),
  (93, ⟨1, 8, false, .other, [.nilFunc], [none], none⟩),
  (94, ⟨1, 8, false, .other, [.nilFunc], [none], none⟩),
  (95, ⟨1, 8, false, .other, [.nilFunc], [none], none⟩),
  (96, ⟨1, 8, false, .other, [.nilFunc], [none], none⟩),
  (97, ⟨1, 8, false, .other, [.nilFunc], [none], none⟩),
  (98, ⟨1, 8, false, .other, [.nilFunc], [none], none⟩),
  (99, ⟨1, 8, false, .other, [.nilFunc], [none], none⟩),
  (100, ⟨1, 8, false, .other, [.nilFunc], [none], none⟩),
  (101, ⟨1, 8, false, .other, [.nilFunc], [none], none⟩),
  (102, ⟨1, 8, false, .other, [.nilFunc], [none], none⟩),
  (103, ⟨1, 8, false, .other, [.nilFunc], [none], none⟩),
  (104, ⟨1, 24, false, .slice 29, [nilV], [some 29], none⟩),
  (105, ⟨1, 8, false, .other, [.nilFunc], [none], none⟩),
  (106, ⟨1, 8, false, .other, [.nilFunc], [none], none⟩),
  (107, ⟨1, 8, false, .other, [.nilFunc], [none], none⟩),
  (108, ⟨1, 8, false, .other, [.nilFunc], [none], none⟩),
  (109, ⟨1, 8, false, .other, [.nilFunc], [none], none⟩),
  (110, ⟨1, 8, false, .other, [.nilFunc], [none], none⟩),
  (111, ⟨1, 8, false, .other, [.nilFunc], [none], none⟩),
  (112, ⟨1, 8, false, .other, [.nilFunc], [none], none⟩),
  (113, ⟨1, 16, false, .other, [.nilIface], [none], none⟩),
  (114, ⟨1, 16, false, .other, [.nilIface], [none], none⟩),
  (115, ⟨1, 8, false, .other, [.nilFunc], [none], none⟩),
  (116, ⟨1, 8, false, .other, [.nilFunc], [none], none⟩),
  (117, ⟨1, 8, false, .other, [.nilFunc], [none], none⟩),
  (118, ⟨1, 24, false, .slice 180, [nilV], [some 180], none⟩),
  (120, ⟨1, 8, false, .other, [.nilFunc], [none], none⟩),
  (121, ⟨1, 8, false, .other, [.nilFunc], [none], none⟩),
  (122, ⟨1, 8, false, .other, [.nilFunc], [none], none⟩),
  (123, ⟨1, 8, false, .other, [.nilFunc], [none], none⟩),
  (124, ⟨1, 8, false, .other, [.nilFunc], [none], none⟩),
  (125, ⟨1, 8, false, .other, [.nilFunc], [none], none⟩),
  (126, ⟨1, 8, false, .other, [.nilFunc], [none], none⟩),
  (127, ⟨1, 8, false, .other, [.nilFunc], [none], none⟩),
  (128, ⟨1, 8, false, .other, [.nilFunc], [none], none⟩),
  (129, ⟨3, 72, true, .array 3 66, [nilV, nilV, nilV], [some 68, some 68, some 68], none⟩),
  (130, ⟨3, 72, true, .array 3 66, [nilV, nilV, nilV], [some 68, some 68, some 68], none⟩),
  (131, ⟨1, 8, false, .other, [.nilFunc], [none], none⟩),
  (133, ⟨1, 8, false, .other, [.nilFunc], [none], none⟩),
  (134, ⟨1, 8, false, .other, [.nilFunc], [none], none⟩),
  (135, ⟨1, 8, false, .other, [.nilFunc], [none], none⟩),
  (136, ⟨1, 8, false, .other, [.nilFunc], [none], none⟩),
  (138, ⟨1, 8, false, .other, [.nilFunc], [none], none⟩),
  (140, ⟨1, 8, false, .other, [.nilFunc], [none], none⟩),
  (142, ⟨1, 8, false, .other, [.nilFunc], [none], none⟩),
  (143, ⟨1, 8, false, .other, [.nilFunc], [none], none⟩),
  (145, ⟨1, 8, false, .other, [.nilFunc], [none], none⟩),
  (146, ⟨2, 32, true, .struct [(0, 46), (1, 3)], [nilV, .int .i64 0], [some 5, none], none⟩),
  (147, ⟨2, 32, true, .struct [(0, 46), (1, 3)], [nilV, .int .i64 0], [some 5, none], none⟩),
  (148, ⟨1, 8, false, .other, [.nilFunc], [none], none⟩),
  (149, ⟨1, 8, false, .other, [.nilFunc], [none], none⟩),
  (150, ⟨1, 8, false, .other, [.nilFunc], [none], none⟩),
  (151, ⟨1, 8, false, .other, [.nilFunc], [none], none⟩),
  (152, ⟨1, 8, false, .other, [.nilFunc], [none], none⟩),
  (153, ⟨1, 24, false, .slice 24, [nilV], [some 24], none⟩),
  (154, ⟨1, 8, false, .other, [.nilFunc], [none], none⟩),
  (155, ⟨1, 8, false, .other, [.nilFunc], [none], none⟩),
  (156, ⟨1, 8, false, .other, [.nilFunc], [none], none⟩),
  (157, ⟨1, 8, false, .other, [.nilFunc], [none], none⟩),
  (158, ⟨1, 8, false, .map 9 3, [.map none], [none], none⟩),
  (159, ⟨1, 24, false, .slice 162, [nilV], [some 162], none⟩),
  (160, ⟨1, 24, false, .slice 162, [nilV], [some 162], none⟩),
  (161, ⟨2, 32, true, .struct [(0, 29), (1, 3)], [nilV, .int .i64 0], [some 54, none], none⟩),
  (162, ⟨2, 32, true, .struct [(0, 29), (1, 3)], [nilV, .int .i64 0], [some 54, none], none⟩),
  (163, ⟨1, 8, false, .other, [.nilFunc], [none], none⟩),
  (164, ⟨1, 8, false, .ptr, [.pointer none], [none], none⟩),
  (165, ⟨1, 8, false, .other, [.nilFunc], [none], none⟩),
  (166, ⟨1, 8, false, .other, [.nilFunc], [none], none⟩),
  (167, ⟨1, 8, false, .other, [.nilFunc], [none], none⟩),
  (168, ⟨1, 8, false, .other, [.nilFunc], [none], none⟩),
  (169, ⟨1, 8, false, .other, [.nilFunc], [none], none⟩),
  (170, ⟨1, 8, false, .other, [.nilFunc], [none], none⟩),
  (171, ⟨2, 24, true, .struct [(0, 9), (1, 3)], [.string ⟨#[]⟩, .int .i64 0], [none, none], some [.str, .int .i64]⟩),
  (172, ⟨2, 24, true, .struct [(0, 9), (1, 3)], [.string ⟨#[]⟩, .int .i64 0], [none, none], some [.str, .int .i64]⟩),
  (173, ⟨0, 0, true, .struct [], [], [], some []⟩),
  (174, ⟨0, 0, true, .struct [], [], [], some []⟩),
  (175, ⟨1, 8, true, .struct [(0, 3)], [.int .i64 0], [none], some [.int .i64]⟩),
  (176, ⟨1, 8, true, .struct [(0, 3)], [.int .i64 0], [none], some [.int .i64]⟩),
  (177, ⟨0, 0, true, .struct [], [], [], some []⟩),
  (178, ⟨1, 8, false, .other, [.nilFunc], [none], none⟩),
  (179, ⟨2, 32, true, .struct [(0, 22), (1, 3)], [nilV, .int .i64 0], [some 78, none], none⟩),
  (180, ⟨2, 32, true, .struct [(0, 22), (1, 3)], [nilV, .int .i64 0], [some 78, none], none⟩),
  (181, ⟨1, 8, false, .other, [.nilFunc], [none], none⟩),
  (182, ⟨1, 8, false, .other, [.nilFunc], [none], none⟩),
  (183, ⟨1, 8, false, .other, [.nilFunc], [none], none⟩),
  (184, ⟨1, 8, false, .other, [.nilFunc], [none], none⟩),
  (185, ⟨1, 8, false, .other, [.nilFunc], [none], none⟩),
  (186, ⟨1, 8, false, .other, [.nilFunc], [none], none⟩),
  (188, ⟨1, 8, false, .other, [.nilFunc], [none], none⟩),
  (189, ⟨1, 8, false, .other, [.nilFunc], [none], none⟩),
  (190, ⟨1, 8, false, .other, [.nilFunc], [none], none⟩),
  (191, ⟨1, 8, false, .other, [.nilFunc], [none], none⟩),
  (192, ⟨1, 8, false, .other, [.nilFunc], [none], none⟩),
  (193, ⟨1, 8, false, .other, [.nilFunc], [none], none⟩),
  (194, ⟨1, 8, false, .other, [.nilFunc], [none], none⟩),
  (195, ⟨1, 8, false, .other, [.nilFunc], [none], none⟩),
  (196, ⟨1, 8, false, .other, [.nilFunc], [none], none⟩),
  (197, ⟨1, 8, false, .other, [.nilFunc], [none], none⟩),
  (198, ⟨1, 16, false, .other, [.nilIface], [none], none⟩),
  (199, ⟨1, 16, false, .other, [.nilIface], [none], none⟩),
  (200, ⟨1, 8, false, .other, [.nilFunc], [none], none⟩),
  (201, ⟨1, 8, false, .other, [.nilFunc], [none], none⟩),
  (202, ⟨1, 8, false, .other, [.nilFunc], [none], none⟩),
  (203, ⟨1, 8, false, .other, [.nilFunc], [none], none⟩),
  (204, ⟨1, 8, false, .other, [.nilFunc], [none], none⟩),
  (205, ⟨1, 8, false, .other, [.nilFunc], [none], none⟩),
  (206, ⟨1, 8, false, .other, [.nilFunc], [none], none⟩),
  (207, ⟨1, 8, false, .other, [.nilFunc], [none], none⟩),
  (208, ⟨1, 8, false, .other, [.nilFunc], [none], none⟩),
  (209, ⟨1, 8, false, .other, [.nilFunc], [none], none⟩),
  (210, ⟨1, 8, false, .other, [.nilFunc], [none], none⟩),
  (211, ⟨1, 8, false, .other, [.nilFunc], [none], none⟩),
  (212, ⟨1, 8, false, .other, [.nilFunc], [none], none⟩),
  (213, ⟨1, 8, false, .other, [.nilFunc], [none], none⟩),
  (214, ⟨1, 8, false, .int .u64, [.int .u64 0], [none], none⟩),
  (215, ⟨1, 8, false, .other, [.nilFunc], [none], none⟩),
  (216, ⟨1, 8, false, .other, [.nilFunc], [none], none⟩),
  (218, ⟨1, 8, false, .other, [.nilFunc], [none], none⟩),
  (219, ⟨1, 8, false, .other, [.nilFunc], [none], none⟩),
  (220, ⟨1, 8, false, .other, [.nilFunc], [none], none⟩),
  (221, ⟨1, 8, false, .other, [.nilFunc], [none], none⟩),
  (222, ⟨1, 8, false, .other, [.nilFunc], [none], none⟩),
  (223, ⟨4, 40, true, .struct [(0, 17), (1, 17), (2, 17), (3, 9)], [.pointer none, .pointer none, .pointer none, .string ⟨#[]⟩], [none, none, none, none], none⟩),
  (224, ⟨4, 40, true, .struct [(0, 17), (1, 17), (2, 17), (3, 9)], [.pointer none, .pointer none, .pointer none, .string ⟨#[]⟩], [none, none, none, none], none⟩),
  (225, ⟨0, 0, true, .array 0 16, [], [], none⟩),
  (228, ⟨1, 4, false, .int .u32, [.int .u32 0], [none], none⟩),
  (229, ⟨1, 1, false, .int .u8, [.int .u8 0], [none], none⟩),
  (230, ⟨1, 1, false, .int .u8, [.int .u8 0], [none], none⟩),
  (231, ⟨1, 8, false, .other, [.nilFunc], [none], none⟩),
  (232, ⟨1, 8, false, .ptr, [.pointer none], [none], none⟩),
  (233, ⟨1, 4, false, .int .i32, [.int .i32 0], [none], none⟩),
  (234, ⟨1, 4, false, .int .i32, [.int .i32 0], [none], none⟩),
  (235, ⟨11, 48, true, .struct [(0, 12), (1, 12), (2, 228), (3, 229), (4, 5), (5, 5), (6, 230), (7, 231), (8, 232), (9, 233), (10, 234)], [.int .u64 0, .int .u64 0, .int .u32 0, .int .u8 0, .int .u8 0, .int .u8 0, .int .u8 0, .nilFunc, .pointer none, .int .i32 0, .int .i32 0], [none, none, none, none, none, none, none, none, none, none, none], none⟩),
  (236, ⟨11, 48, true, .struct [(0, 12), (1, 12), (2, 228), (3, 229), (4, 5), (5, 5), (6, 230), (7, 231), (8, 232), (9, 233), (10, 234)], [.int .u64 0, .int .u64 0, .int .u32 0, .int .u8 0, .int .u8 0, .int .u8 0, .int .u8 0, .nilFunc, .pointer none, .int .i32 0, .int .i32 0], [none, none, none, none, none, none, none, none, none, none, none], none⟩),
  (237, ⟨1, 8, false, .other, [.nilFunc], [none], none⟩),
  (238, ⟨1, 8, false, .other, [.nilFunc], [none], none⟩),
  (239, ⟨1, 8, false, .other, [.pointer none], [none], none⟩),
  (240, ⟨1, 8, false, .int .u64, [.int .u64 0], [none], none⟩)]
set_option maxRecDepth 100000
theorem tab_ok : tabB Tryz.prog tab = true := by kernel_rfl
theorem mixed : Tryz.prog.follows .mixedOrders = true := by kernel_rfl
def mtab : List (TypeId × String × MI) := [(164, "Len", .load 243 160), (164, "Less", .load 244 160), (164, "Pop", .val 246), (164, "Push", .val 252), (164, "Swap", .load 245 160), (172, "loop.example/comptoir/impl.on", .val 247), (174, "loop.example/comptoir/impl.on", .val 248), (176, "loop.example/comptoir/impl.on", .val 249), (177, "loop.example/comptoir/impl.on", .val 250)]
theorem mtab_ok : mtB Tryz.prog mtab = true := by kernel_rfl
noncomputable def En (m : Nat) (md : FuncId → Nat) (cb : List Nat := []) (vw : List Nat := []) (fz : List Nat := []) (fb : List Nat := []) : Env := ⟨Tryz.prog, findT tab, md, m, cb, mtab, vw, fz, fb⟩
theorem en_ok (m : Nat) (md : FuncId → Nat) (cb : List Nat := []) (vw : List Nat := []) (fz : List Nat := []) (fb : List Nat := []) : EOk (En m md cb vw fz fb) := eok_of tab_ok mtab_ok mixed
def md0 : FuncId → Nat := fun _ => 0
def md1 (l : List FuncId) : FuncId → Nat := fun f => bif l.elem f then 1 else 0
end Go.Proofs.YtcnongahanmclaaGreat

namespace Go.Proofs.YtcnongahanmclaaGreat
open Go Go.Proofs Ev
set_option maxRecDepth 100000
set_option linter.unusedSimpArgs false
set_option linter.unusedVariables false
set_option maxHeartbeats 1000000
theorem impl_KeyOk (s : ByteArray) (hs : s.size ≤ maxLen) : AFn Tryz.prog 97 [av (.string s)] [] (rb (keyOk s)) [] := by
  refine AFn.introX (E := En 0 md0) (en_ok 0 md0) Tryz.func97 rfl rfl rfl fun _ _ => ?_
  unfold maxLen at hs
  have fin : ∀ {c : Bool}, c = keyOk s → rb c = rb (keyOk s) := fun h => by rw [h]
  refine Split.mk fun t ht => ?_
  cases t
  case true => exact Need.mk ⟨[], _, .same, fin (keyOk_len (by simp at ht; omega)).symm, rfl⟩ trivial
  refine Split.mk fun t ht2 => ?_
  cases t
  case true => exact Need.mk ⟨[], _, .same, fin (keyOk_len (by simp at ht2; omega)).symm, rfl⟩ trivial
  have hsz : 1 ≤ s.size ∧ s.size ≤ 8 := by simp at ht ht2; omega
  refine ALoop.mk (fun m s' => ∃ i : Nat, i ≤ s.size ∧ m = s.size - i ∧ (∀ j : Nat, j < i → okc (byteAt s j) = true) ∧
      s' = ⟨some (av (.string s)) :: none :: some (av (.bool false)) :: none :: none :: none :: none :: none :: none :: none :: none :: none :: none :: none :: some (av (.int .i64 s.size)) :: some (av (.int .i64 i)) :: List.replicate 25 none, List.replicate 41 absent⟩)
    ⟨s.size, _, Weak.nrm [true, false, true, false, false, false, false, false, false, false, false, false, false, false, true, true] [] rfl rfl rfl, 0, Nat.zero_le _, rfl, by intro j hj; omega, rfl⟩ ?_
  rintro m s' ⟨i, hi, rfl, hall, rfl⟩
  refine Split.mk fun t ht => ?_
  cases t
  · have hin : i = s.size := by simp at ht; omega
    subst hin
    exact Need.mk ⟨[], _, .same, fin (by rw [keyOk_all hall]; simp [hsz]), rfl⟩ trivial
  have hia : i < s.size := by simpa using ht
  have more : okc (byteAt s i) = true → ∀ j : Nat, j < i + 1 → okc (byteAt s j) = true := fun hc j hj => by
    by_cases hji : j = i
    · rw [hji]; exact hc
    · exact hall j (by omega)
  refine Need.mk ⟨by omega, by omega⟩ ?_
  refine Split.mk fun t h1 => ?_
  cases t
  · refine Split.mk fun t h3 => ?_
    cases t
    · refine Split.mk fun t h5 => ?_
      cases t
      · have hc : okc (byteAt s i) = false := by simp at h1 h3 h5; simp [okc]; omega
        exact Need.mk ⟨[], _, .same, fin (keyOk_bad hia hc).symm, rfl⟩ trivial
      · have hc : okc (byteAt s i) = true := by simp at h1 h3 h5; simp [okc]; omega
        refine Num.mk _ (wrapS (by omega)) ?_
        exact ⟨s.size - (i + 1), _, by omega, Weak.nrm [true, false, true, false, false, false, false, false, false, false, false, false, false, false, true, true] [] rfl rfl rfl, i + 1, by omega, rfl, more hc, rfl⟩
    · refine Split.mk fun t h4 => ?_
      cases t
      · refine Split.mk fun t h5 => ?_
        cases t
        · have hc : okc (byteAt s i) = false := by simp at h1 h3 h4 h5; simp [okc]; omega
          exact Need.mk ⟨[], _, .same, fin (keyOk_bad hia hc).symm, rfl⟩ trivial
        · have hc : okc (byteAt s i) = true := by simp at h1 h3 h4 h5; simp [okc]; omega
          refine Num.mk _ (wrapS (by omega)) ?_
          exact ⟨s.size - (i + 1), _, by omega, Weak.nrm [true, false, true, false, false, false, false, false, false, false, false, false, false, false, true, true] [] rfl rfl rfl, i + 1, by omega, rfl, more hc, rfl⟩
      · have hc : okc (byteAt s i) = true := by simp at h1 h3 h4; simp [okc]; omega
        refine Num.mk _ (wrapS (by omega)) ?_
        exact ⟨s.size - (i + 1), _, by omega, Weak.nrm [true, false, true, false, false, false, false, false, false, false, false, false, false, false, true, true] [] rfl rfl rfl, i + 1, by omega, rfl, more hc, rfl⟩
  · refine Split.mk fun t h2 => ?_
    cases t
    · refine Split.mk fun t h3 => ?_
      cases t
      · refine Split.mk fun t h5 => ?_
        cases t
        · have hc : okc (byteAt s i) = false := by simp at h1 h2 h3 h5; simp [okc]; omega
          exact Need.mk ⟨[], _, .same, fin (keyOk_bad hia hc).symm, rfl⟩ trivial
        · have hc : okc (byteAt s i) = true := by simp at h1 h2 h3 h5; simp [okc]; omega
          refine Num.mk _ (wrapS (by omega)) ?_
          exact ⟨s.size - (i + 1), _, by omega, Weak.nrm [true, false, true, false, false, false, false, false, false, false, false, false, false, false, true, true] [] rfl rfl rfl, i + 1, by omega, rfl, more hc, rfl⟩
      · refine Split.mk fun t h4 => ?_
        cases t
        · refine Split.mk fun t h5 => ?_
          cases t
          · have hc : okc (byteAt s i) = false := by simp at h1 h2 h3 h4 h5; simp [okc]; omega
            exact Need.mk ⟨[], _, .same, fin (keyOk_bad hia hc).symm, rfl⟩ trivial
          · have hc : okc (byteAt s i) = true := by simp at h1 h2 h3 h4 h5; simp [okc]; omega
            refine Num.mk _ (wrapS (by omega)) ?_
            exact ⟨s.size - (i + 1), _, by omega, Weak.nrm [true, false, true, false, false, false, false, false, false, false, false, false, false, false, true, true] [] rfl rfl rfl, i + 1, by omega, rfl, more hc, rfl⟩
        · have hc : okc (byteAt s i) = true := by simp at h1 h2 h3 h4; simp [okc]; omega
          refine Num.mk _ (wrapS (by omega)) ?_
          exact ⟨s.size - (i + 1), _, by omega, Weak.nrm [true, false, true, false, false, false, false, false, false, false, false, false, false, false, true, true] [] rfl rfl rfl, i + 1, by omega, rfl, more hc, rfl⟩
    · have hc : okc (byteAt s i) = true := by simp at h1 h2; simp [okc]; omega
      refine Num.mk _ (wrapS (by omega)) ?_
      exact ⟨s.size - (i + 1), _, by omega, Weak.nrm [true, false, true, false, false, false, false, false, false, false, false, false, false, false, true, true] [] rfl rfl rfl, i + 1, by omega, rfl, more hc, rfl⟩
theorem spec_KeyOk (s : ByteArray) (hs : s.size ≤ maxLen) : AFn Tryz.prog 194 [av (.string s)] [] (rb (keyOk s)) [] := by
  refine AFn.introX (E := En 0 md0) (en_ok 0 md0) Tryz.func194 rfl rfl rfl fun _ _ => ?_
  unfold maxLen at hs
  have fin : ∀ {c : Bool}, c = keyOk s → rb c = rb (keyOk s) := fun h => by rw [h]
  refine ALoop.mk (fun m s' => ∃ i : Nat, i ≤ s.size ∧ m = s.size - i ∧ (∀ j : Nat, j < i → okc (byteAt s j) = true) ∧
      s' = ⟨some (av (.string s)) :: none :: some (av (.bool false)) :: some (av (.int .i64 i)) :: List.replicate 36 none, List.replicate 40 absent⟩)
    ⟨s.size, _, Weak.nrm [true, false, true, true] [] rfl rfl rfl, 0, Nat.zero_le _, rfl, by intro j hj; omega, rfl⟩ ?_
  rintro m s' ⟨i, hi, rfl, hall, rfl⟩
  refine Split.mk fun t ht => ?_
  cases t
  · have hin : i = s.size := by simp at ht; omega
    subst hin
    refine Split.mk fun t h1 => ?_
    cases t
    · exact Need.mk ⟨[], _, .same, fin (by rw [keyOk_all hall]; simp at h1; simp; omega), rfl⟩ trivial
    · refine Split.mk fun t h2 => ?_
      cases t
      · exact Need.mk ⟨[], _, .same, fin (by rw [keyOk_all hall]; simp at h1 h2; simp; omega), rfl⟩ trivial
      · exact Need.mk ⟨[], _, .same, fin (by rw [keyOk_all hall]; simp at h1 h2; simp; omega), rfl⟩ trivial
  have hia : i < s.size := by simpa using ht
  have more : okc (byteAt s i) = true → ∀ j : Nat, j < i + 1 → okc (byteAt s j) = true := fun hc j hj => by
    by_cases hji : j = i
    · rw [hji]; exact hc
    · exact hall j (by omega)
  refine Need.mk ⟨by omega, by omega⟩ ?_
  refine Split.mk fun t h1 => ?_
  cases t
  · refine Need.mk ⟨by omega, by omega⟩ ?_
    refine Split.mk fun t h2 => ?_
    cases t
    · have hc : okc (byteAt s i) = true := by simp at h1 h2; simp [okc]; omega
      refine Num.mk _ (wrapS (by omega)) ?_
      exact ⟨s.size - (i + 1), _, by omega, Weak.nrm [true, false, true, true] [] rfl rfl rfl, i + 1, by omega, rfl, more hc, rfl⟩
    · refine Need.mk ⟨by omega, by omega⟩ ?_
      refine Split.mk fun t h3 => ?_
      cases t
      · refine Need.mk ⟨by omega, by omega⟩ ?_
        refine Split.mk fun t h4 => ?_
        cases t
        · have hc : okc (byteAt s i) = true := by simp at h1 h2 h3 h4; simp [okc]; omega
          refine Num.mk _ (wrapS (by omega)) ?_
          exact ⟨s.size - (i + 1), _, by omega, Weak.nrm [true, false, true, true] [] rfl rfl rfl, i + 1, by omega, rfl, more hc, rfl⟩
        · have hc : okc (byteAt s i) = false := by simp at h1 h2 h3 h4; simp [okc]; omega
          exact Need.mk ⟨[], _, .same, fin (keyOk_bad hia hc).symm, rfl⟩ trivial
      · have hc : okc (byteAt s i) = false := by simp at h1 h2 h3; simp [okc]; omega
        exact Need.mk ⟨[], _, .same, fin (keyOk_bad hia hc).symm, rfl⟩ trivial
  · refine Need.mk ⟨by omega, by omega⟩ ?_
    refine Split.mk fun t h3 => ?_
    cases t
    · refine Need.mk ⟨by omega, by omega⟩ ?_
      refine Split.mk fun t h4 => ?_
      cases t
      · have hc : okc (byteAt s i) = true := by simp at h1 h3 h4; simp [okc]; omega
        refine Num.mk _ (wrapS (by omega)) ?_
        exact ⟨s.size - (i + 1), _, by omega, Weak.nrm [true, false, true, true] [] rfl rfl rfl, i + 1, by omega, rfl, more hc, rfl⟩
      · have hc : okc (byteAt s i) = false := by simp at h1 h3 h4; simp [okc]; omega
        exact Need.mk ⟨[], _, .same, fin (keyOk_bad hia hc).symm, rfl⟩ trivial
    · have hc : okc (byteAt s i) = false := by simp at h1 h3; simp [okc]; omega
      exact Need.mk ⟨[], _, .same, fin (keyOk_bad hia hc).symm, rfl⟩ trivial
theorem impl_EntryLess (a b : Ent) : AFn Tryz.prog 160 [.agg (a.enc.map .c), .agg (b.enc.map .c)] [] (rb (eLess a b)) [] := by
  refine AFn.introX (E := En 0 md0) (en_ok 0 md0) Tryz.func160 rfl rfl rfl fun _ _ => ?_
  have fin : ∀ {c : Bool}, c = eLess a b → rb c = rb (eLess a b) := fun h => by rw [h]
  refine Split.mk fun t ht => ?_
  rw [bytes_beq] at ht
  cases t
  · have he : a.key = b.key := by simpa using ht
    refine Split.mk fun t ht2 => ?_
    exact Need.mk ⟨[], _, .same, fin (by rw [← ht2]; simp [eLess, he, slt_irr]), rfl⟩ trivial
  · have he : a.key ≠ b.key := by simpa using ht
    refine Split.mk fun t ht2 => ?_
    exact Need.mk ⟨[], _, .same, fin (by rw [← ht2]; simp [eLess, he]), rfl⟩ trivial
theorem spec_EntryLess (a b : Ent) : AFn Tryz.prog 149 [.agg (a.enc.map .c), .agg (b.enc.map .c)] [] (rb (eLess a b)) [] := by
  refine AFn.introX (E := En 0 md0) (en_ok 0 md0) Tryz.func149 rfl rfl rfl fun _ _ => ?_
  have fin : ∀ {c : Bool}, c = eLess a b → rb c = rb (eLess a b) := fun h => by rw [h]
  refine Split.mk fun t ht => ?_
  have ht : slt a.key b.key = t := ht
  cases t
  · refine Split.mk fun t ht2 => ?_
    rw [bytes_beq] at ht2
    cases t
    · exact Need.mk ⟨[], _, .same, fin (by simp at ht2; simp [eLess, ht, ht2]), rfl⟩ trivial
    · refine Split.mk fun t ht3 => ?_
      exact Need.mk ⟨[], _, .same, fin (by rw [← ht3]; simp at ht2; simp [eLess, ht2, slt_irr]), rfl⟩ trivial
  · exact Need.mk ⟨[], _, .same, fin (by simp [eLess, ht]), rfl⟩ trivial
end Go.Proofs.YtcnongahanmclaaGreat

namespace Go.Proofs.YtcnongahanmclaaGreat
open Go Go.Proofs Ev
set_option maxRecDepth 100000
set_option linter.unusedSimpArgs false
set_option linter.unusedVariables false
set_option maxHeartbeats 1000000
theorem spec_l3Sum (n : Int) : AFn Tryz.prog 195 [av (.int .i64 n)] [] (rb (sumOk n)) [] := by
  refine AFn.introX (E := En 0 md0) (en_ok 0 md0) Tryz.func195 rfl rfl rfl fun _ _ => ?_
  have fin : ∀ {c : Bool}, c = sumOk n → rb c = rb (sumOk n) := fun h => by rw [h]
  refine Split.mk fun t h1 => ?_
  cases t
  · exact Need.mk ⟨[], _, .same, fin (by simp at h1; simp [sumOk]; omega), rfl⟩ trivial
  · refine Split.mk fun t h2 => ?_
    cases t
    · exact Need.mk ⟨[], _, .same, fin (by simp at h1 h2; simp [sumOk]; omega), rfl⟩ trivial
    · exact Need.mk ⟨[], _, .same, fin (by simp at h1 h2; simp [sumOk]; omega), rfl⟩ trivial
theorem impl_EntryOk (e : Ent) (he : e.Ok) : AFn Tryz.prog 37 [.agg (e.enc.map .c)] [] (rb (entOk e)) [] := by
  refine AFn.introX (E := En 0 md0) (en_ok 0 md0) Tryz.func37 rfl rfl rfl fun _ _ => ?_
  have fin : ∀ {c : Bool}, c = entOk e → rb c = rb (entOk e) := fun h => by rw [h]
  refine ACall.mk _ _ (impl_KeyOk e.key he.1) ?_
  refine Split.mk fun t h_k => ?_
  cases t
  · have f_k : keyOk e.key = false := by exact h_k
    exact Need.mk ⟨[], _, .same, fin (by simp [entOk, f_k]), rfl⟩ trivial
  · refine Split.mk fun t h_s1 => ?_
    cases t
    · refine Split.mk fun t h_s2 => ?_
      cases t
      · refine Split.mk fun t h_tx => ?_
        cases t
        · refine Split.mk fun t h_n1 => ?_
          cases t
          · refine Split.mk fun t h_n2 => ?_
            cases t
            · refine Split.mk fun t h_c1 => ?_
              cases t
              · refine Split.mk fun t h_c2 => ?_
                cases t
                · refine Split.mk fun t h_c3 => ?_
                  cases t
                  · have f_k : keyOk e.key = true := by exact h_k
                    have f_s1 : decide (1 ≤ e.seq) = true := by simp at h_s1; simp; omega
                    have f_s2 : decide (e.seq ≤ 100000) = true := by simp at h_s2; simp; omega
                    have f_tx : decide (e.text.size ≤ 60) = true := by simp at h_tx; simp; omega
                    have f_c1 : decide (e.kind = 1) = false := by simp at h_c1; simp; omega
                    have f_c2 : decide (e.kind = 2) = false := by simp at h_c2; simp; omega
                    have f_c3 : decide (e.kind = 3) = false := by simp at h_c3; simp; omega
                    have f_su : sumOk e.n = true := by simp at h_n1 h_n2; simp [sumOk]; omega
                    exact Need.mk ⟨[], _, .same, fin (by simp [entOk, f_k, f_s1, f_s2, f_tx, f_c1, f_c2, f_c3, f_su]), rfl⟩ trivial
                  · refine Split.mk fun t h_t => ?_
                    rw [bytes_beq] at h_t
                    cases t
                    · have f_k : keyOk e.key = true := by exact h_k
                      have f_s1 : decide (1 ≤ e.seq) = true := by simp at h_s1; simp; omega
                      have f_s2 : decide (e.seq ≤ 100000) = true := by simp at h_s2; simp; omega
                      have f_tx : decide (e.text.size ≤ 60) = true := by simp at h_tx; simp; omega
                      have f_c1 : decide (e.kind = 1) = false := by simp at h_c1; simp; omega
                      have f_c2 : decide (e.kind = 2) = false := by simp at h_c2; simp; omega
                      have f_c3 : decide (e.kind = 3) = true := by simp at h_c3; simp; omega
                      have f_t : decide (e.text = ⟨#[]⟩) = false := by exact h_t
                      have f_su : sumOk e.n = true := by simp at h_n1 h_n2; simp [sumOk]; omega
                      exact Need.mk ⟨[], _, .same, fin (by simp [entOk, f_k, f_s1, f_s2, f_tx, f_c1, f_c2, f_c3, f_t, f_su]), rfl⟩ trivial
                    · have f_k : keyOk e.key = true := by exact h_k
                      have f_s1 : decide (1 ≤ e.seq) = true := by simp at h_s1; simp; omega
                      have f_s2 : decide (e.seq ≤ 100000) = true := by simp at h_s2; simp; omega
                      have f_tx : decide (e.text.size ≤ 60) = true := by simp at h_tx; simp; omega
                      have f_c1 : decide (e.kind = 1) = false := by simp at h_c1; simp; omega
                      have f_c2 : decide (e.kind = 2) = false := by simp at h_c2; simp; omega
                      have f_c3 : decide (e.kind = 3) = true := by simp at h_c3; simp; omega
                      have f_t : decide (e.text = ⟨#[]⟩) = true := by exact h_t
                      have f_su : sumOk e.n = true := by simp at h_n1 h_n2; simp [sumOk]; omega
                      exact Need.mk ⟨[], _, .same, fin (by simp [entOk, f_k, f_s1, f_s2, f_tx, f_c1, f_c2, f_c3, f_t, f_su]), rfl⟩ trivial
                · refine Split.mk fun t h_t => ?_
                  rw [bytes_beq] at h_t
                  cases t
                  · have f_k : keyOk e.key = true := by exact h_k
                    have f_s1 : decide (1 ≤ e.seq) = true := by simp at h_s1; simp; omega
                    have f_s2 : decide (e.seq ≤ 100000) = true := by simp at h_s2; simp; omega
                    have f_tx : decide (e.text.size ≤ 60) = true := by simp at h_tx; simp; omega
                    have f_c1 : decide (e.kind = 1) = false := by simp at h_c1; simp; omega
                    have f_c2 : decide (e.kind = 2) = true := by simp at h_c2; simp; omega
                    have f_t : decide (e.text = ⟨#[]⟩) = false := by exact h_t
                    have f_su : sumOk e.n = true := by simp at h_n1 h_n2; simp [sumOk]; omega
                    exact Need.mk ⟨[], _, .same, fin (by simp [entOk, f_k, f_s1, f_s2, f_tx, f_c1, f_c2, f_t, f_su]), rfl⟩ trivial
                  · refine Split.mk fun t h_z => ?_
                    cases t
                    · have f_k : keyOk e.key = true := by exact h_k
                      have f_s1 : decide (1 ≤ e.seq) = true := by simp at h_s1; simp; omega
                      have f_s2 : decide (e.seq ≤ 100000) = true := by simp at h_s2; simp; omega
                      have f_tx : decide (e.text.size ≤ 60) = true := by simp at h_tx; simp; omega
                      have f_c1 : decide (e.kind = 1) = false := by simp at h_c1; simp; omega
                      have f_c2 : decide (e.kind = 2) = true := by simp at h_c2; simp; omega
                      have f_t : decide (e.text = ⟨#[]⟩) = true := by exact h_t
                      have f_z : decide (e.n = 0) = false := by simp at h_z; simp; omega
                      have f_c3 : decide (e.kind = 3) = false := by simp at h_c2; simp; omega
                      have f_su : sumOk e.n = true := by simp at h_n1 h_n2; simp [sumOk]; omega
                      exact Need.mk ⟨[], _, .same, fin (by simp [entOk, f_k, f_s1, f_s2, f_tx, f_c1, f_c2, f_t, f_z, f_c3, f_su]), rfl⟩ trivial
                    · have f_k : keyOk e.key = true := by exact h_k
                      have f_s1 : decide (1 ≤ e.seq) = true := by simp at h_s1; simp; omega
                      have f_s2 : decide (e.seq ≤ 100000) = true := by simp at h_s2; simp; omega
                      have f_tx : decide (e.text.size ≤ 60) = true := by simp at h_tx; simp; omega
                      have f_c1 : decide (e.kind = 1) = false := by simp at h_c1; simp; omega
                      have f_c2 : decide (e.kind = 2) = true := by simp at h_c2; simp; omega
                      have f_t : decide (e.text = ⟨#[]⟩) = true := by exact h_t
                      have f_z : decide (e.n = 0) = true := by simp at h_z; simp; omega
                      have f_su : sumOk e.n = true := by simp at h_n1 h_n2; simp [sumOk]; omega
                      exact Need.mk ⟨[], _, .same, fin (by simp [entOk, f_k, f_s1, f_s2, f_tx, f_c1, f_c2, f_t, f_z, f_su]), rfl⟩ trivial
              · have f_k : keyOk e.key = true := by exact h_k
                have f_s1 : decide (1 ≤ e.seq) = true := by simp at h_s1; simp; omega
                have f_s2 : decide (e.seq ≤ 100000) = true := by simp at h_s2; simp; omega
                have f_tx : decide (e.text.size ≤ 60) = true := by simp at h_tx; simp; omega
                have f_c1 : decide (e.kind = 1) = true := by simp at h_c1; simp; omega
                have f_su : sumOk e.n = true := by simp at h_n1 h_n2; simp [sumOk]; omega
                exact Need.mk ⟨[], _, .same, fin (by simp [entOk, f_k, f_s1, f_s2, f_tx, f_c1, f_su]), rfl⟩ trivial
            · have f_k : keyOk e.key = true := by exact h_k
              have f_s1 : decide (1 ≤ e.seq) = true := by simp at h_s1; simp; omega
              have f_s2 : decide (e.seq ≤ 100000) = true := by simp at h_s2; simp; omega
              have f_tx : decide (e.text.size ≤ 60) = true := by simp at h_tx; simp; omega
              have f_su : sumOk e.n = false := by simp at h_n1 h_n2; simp [sumOk]; omega
              exact Need.mk ⟨[], _, .same, fin (by simp [entOk, f_k, f_s1, f_s2, f_tx, f_su]), rfl⟩ trivial
          · have f_k : keyOk e.key = true := by exact h_k
            have f_s1 : decide (1 ≤ e.seq) = true := by simp at h_s1; simp; omega
            have f_s2 : decide (e.seq ≤ 100000) = true := by simp at h_s2; simp; omega
            have f_tx : decide (e.text.size ≤ 60) = true := by simp at h_tx; simp; omega
            have f_su : sumOk e.n = false := by simp at h_n1; simp [sumOk]; omega
            exact Need.mk ⟨[], _, .same, fin (by simp [entOk, f_k, f_s1, f_s2, f_tx, f_su]), rfl⟩ trivial
        · have f_k : keyOk e.key = true := by exact h_k
          have f_s1 : decide (1 ≤ e.seq) = true := by simp at h_s1; simp; omega
          have f_s2 : decide (e.seq ≤ 100000) = true := by simp at h_s2; simp; omega
          have f_tx : decide (e.text.size ≤ 60) = false := by simp at h_tx; simp; omega
          exact Need.mk ⟨[], _, .same, fin (by simp [entOk, f_k, f_s1, f_s2, f_tx]), rfl⟩ trivial
      · have f_k : keyOk e.key = true := by exact h_k
        have f_s1 : decide (1 ≤ e.seq) = true := by simp at h_s1; simp; omega
        have f_s2 : decide (e.seq ≤ 100000) = false := by simp at h_s2; simp; omega
        exact Need.mk ⟨[], _, .same, fin (by simp [entOk, f_k, f_s1, f_s2]), rfl⟩ trivial
    · have f_k : keyOk e.key = true := by exact h_k
      have f_s1 : decide (1 ≤ e.seq) = false := by simp at h_s1; simp; omega
      exact Need.mk ⟨[], _, .same, fin (by simp [entOk, f_k, f_s1]), rfl⟩ trivial
theorem spec_EntryOk (e : Ent) (he : e.Ok) : AFn Tryz.prog 148 [.agg (e.enc.map .c)] [] (rb (entOk e)) [] := by
  refine AFn.introX (E := En 0 md0) (en_ok 0 md0) Tryz.func148 rfl rfl rfl fun _ _ => ?_
  have fin : ∀ {c : Bool}, c = entOk e → rb c = rb (entOk e) := fun h => by rw [h]
  refine ACall.mk _ _ (spec_KeyOk e.key he.1) ?_
  refine Split.mk fun t h_k => ?_
  cases t
  · have f_k : keyOk e.key = false := by exact h_k
    exact Need.mk ⟨[], _, .same, fin (by simp [entOk, f_k]), rfl⟩ trivial
  · refine Split.mk fun t h_s1 => ?_
    cases t
    · refine Split.mk fun t h_s2 => ?_
      cases t
      · refine ACall.mk _ _ (spec_l3Sum e.n) ?_
        refine Split.mk fun t h_su => ?_
        cases t
        · have f_k : keyOk e.key = true := by exact h_k
          have f_s1 : decide (1 ≤ e.seq) = true := by simp at h_s1; simp; omega
          have f_s2 : decide (e.seq ≤ 100000) = true := by simp at h_s2; simp; omega
          have f_su : sumOk e.n = false := by exact h_su
          exact Need.mk ⟨[], _, .same, fin (by simp [entOk, f_k, f_s1, f_s2, f_su]), rfl⟩ trivial
        · refine Split.mk fun t h_tx => ?_
          cases t
          · refine Split.mk fun t h_c1 => ?_
            cases t
            · refine Split.mk fun t h_c2 => ?_
              cases t
              · refine Split.mk fun t h_c3 => ?_
                cases t
                · have f_k : keyOk e.key = true := by exact h_k
                  have f_s1 : decide (1 ≤ e.seq) = true := by simp at h_s1; simp; omega
                  have f_s2 : decide (e.seq ≤ 100000) = true := by simp at h_s2; simp; omega
                  have f_su : sumOk e.n = true := by exact h_su
                  have f_tx : decide (e.text.size ≤ 60) = true := by simp at h_tx; simp; omega
                  have f_c1 : decide (e.kind = 1) = false := by simp at h_c1; simp; omega
                  have f_c2 : decide (e.kind = 2) = false := by simp at h_c2; simp; omega
                  have f_c3 : decide (e.kind = 3) = false := by simp at h_c3; simp; omega
                  exact Need.mk ⟨[], _, .same, fin (by simp [entOk, f_k, f_s1, f_s2, f_su, f_tx, f_c1, f_c2, f_c3]), rfl⟩ trivial
                · refine Split.mk fun t h_t => ?_
                  rw [bytes_beq] at h_t
                  cases t
                  · have f_k : keyOk e.key = true := by exact h_k
                    have f_s1 : decide (1 ≤ e.seq) = true := by simp at h_s1; simp; omega
                    have f_s2 : decide (e.seq ≤ 100000) = true := by simp at h_s2; simp; omega
                    have f_su : sumOk e.n = true := by exact h_su
                    have f_tx : decide (e.text.size ≤ 60) = true := by simp at h_tx; simp; omega
                    have f_c1 : decide (e.kind = 1) = false := by simp at h_c1; simp; omega
                    have f_c2 : decide (e.kind = 2) = false := by simp at h_c2; simp; omega
                    have f_c3 : decide (e.kind = 3) = true := by simp at h_c3; simp; omega
                    have f_t : decide (e.text = ⟨#[]⟩) = false := by exact h_t
                    exact Need.mk ⟨[], _, .same, fin (by simp [entOk, f_k, f_s1, f_s2, f_su, f_tx, f_c1, f_c2, f_c3, f_t]), rfl⟩ trivial
                  · have f_k : keyOk e.key = true := by exact h_k
                    have f_s1 : decide (1 ≤ e.seq) = true := by simp at h_s1; simp; omega
                    have f_s2 : decide (e.seq ≤ 100000) = true := by simp at h_s2; simp; omega
                    have f_su : sumOk e.n = true := by exact h_su
                    have f_tx : decide (e.text.size ≤ 60) = true := by simp at h_tx; simp; omega
                    have f_c1 : decide (e.kind = 1) = false := by simp at h_c1; simp; omega
                    have f_c2 : decide (e.kind = 2) = false := by simp at h_c2; simp; omega
                    have f_c3 : decide (e.kind = 3) = true := by simp at h_c3; simp; omega
                    have f_t : decide (e.text = ⟨#[]⟩) = true := by exact h_t
                    exact Need.mk ⟨[], _, .same, fin (by simp [entOk, f_k, f_s1, f_s2, f_su, f_tx, f_c1, f_c2, f_c3, f_t]), rfl⟩ trivial
              · refine Split.mk fun t h_t => ?_
                rw [bytes_beq] at h_t
                cases t
                · have f_k : keyOk e.key = true := by exact h_k
                  have f_s1 : decide (1 ≤ e.seq) = true := by simp at h_s1; simp; omega
                  have f_s2 : decide (e.seq ≤ 100000) = true := by simp at h_s2; simp; omega
                  have f_su : sumOk e.n = true := by exact h_su
                  have f_tx : decide (e.text.size ≤ 60) = true := by simp at h_tx; simp; omega
                  have f_c1 : decide (e.kind = 1) = false := by simp at h_c1; simp; omega
                  have f_c2 : decide (e.kind = 2) = true := by simp at h_c2; simp; omega
                  have f_t : decide (e.text = ⟨#[]⟩) = false := by exact h_t
                  exact Need.mk ⟨[], _, .same, fin (by simp [entOk, f_k, f_s1, f_s2, f_su, f_tx, f_c1, f_c2, f_t]), rfl⟩ trivial
                · refine Split.mk fun t h_z => ?_
                  cases t
                  · have f_k : keyOk e.key = true := by exact h_k
                    have f_s1 : decide (1 ≤ e.seq) = true := by simp at h_s1; simp; omega
                    have f_s2 : decide (e.seq ≤ 100000) = true := by simp at h_s2; simp; omega
                    have f_su : sumOk e.n = true := by exact h_su
                    have f_tx : decide (e.text.size ≤ 60) = true := by simp at h_tx; simp; omega
                    have f_c1 : decide (e.kind = 1) = false := by simp at h_c1; simp; omega
                    have f_c2 : decide (e.kind = 2) = true := by simp at h_c2; simp; omega
                    have f_t : decide (e.text = ⟨#[]⟩) = true := by exact h_t
                    have f_z : decide (e.n = 0) = false := by simp at h_z; simp; omega
                    have f_c3 : decide (e.kind = 3) = false := by simp at h_c2; simp; omega
                    exact Need.mk ⟨[], _, .same, fin (by simp [entOk, f_k, f_s1, f_s2, f_su, f_tx, f_c1, f_c2, f_t, f_z, f_c3]), rfl⟩ trivial
                  · have f_k : keyOk e.key = true := by exact h_k
                    have f_s1 : decide (1 ≤ e.seq) = true := by simp at h_s1; simp; omega
                    have f_s2 : decide (e.seq ≤ 100000) = true := by simp at h_s2; simp; omega
                    have f_su : sumOk e.n = true := by exact h_su
                    have f_tx : decide (e.text.size ≤ 60) = true := by simp at h_tx; simp; omega
                    have f_c1 : decide (e.kind = 1) = false := by simp at h_c1; simp; omega
                    have f_c2 : decide (e.kind = 2) = true := by simp at h_c2; simp; omega
                    have f_t : decide (e.text = ⟨#[]⟩) = true := by exact h_t
                    have f_z : decide (e.n = 0) = true := by simp at h_z; simp; omega
                    exact Need.mk ⟨[], _, .same, fin (by simp [entOk, f_k, f_s1, f_s2, f_su, f_tx, f_c1, f_c2, f_t, f_z]), rfl⟩ trivial
            · have f_k : keyOk e.key = true := by exact h_k
              have f_s1 : decide (1 ≤ e.seq) = true := by simp at h_s1; simp; omega
              have f_s2 : decide (e.seq ≤ 100000) = true := by simp at h_s2; simp; omega
              have f_su : sumOk e.n = true := by exact h_su
              have f_tx : decide (e.text.size ≤ 60) = true := by simp at h_tx; simp; omega
              have f_c1 : decide (e.kind = 1) = true := by simp at h_c1; simp; omega
              exact Need.mk ⟨[], _, .same, fin (by simp [entOk, f_k, f_s1, f_s2, f_su, f_tx, f_c1]), rfl⟩ trivial
          · have f_k : keyOk e.key = true := by exact h_k
            have f_s1 : decide (1 ≤ e.seq) = true := by simp at h_s1; simp; omega
            have f_s2 : decide (e.seq ≤ 100000) = true := by simp at h_s2; simp; omega
            have f_su : sumOk e.n = true := by exact h_su
            have f_tx : decide (e.text.size ≤ 60) = false := by simp at h_tx; simp; omega
            exact Need.mk ⟨[], _, .same, fin (by simp [entOk, f_k, f_s1, f_s2, f_su, f_tx]), rfl⟩ trivial
      · have f_k : keyOk e.key = true := by exact h_k
        have f_s1 : decide (1 ≤ e.seq) = true := by simp at h_s1; simp; omega
        have f_s2 : decide (e.seq ≤ 100000) = false := by simp at h_s2; simp; omega
        exact Need.mk ⟨[], _, .same, fin (by simp [entOk, f_k, f_s1, f_s2]), rfl⟩ trivial
    · have f_k : keyOk e.key = true := by exact h_k
      have f_s1 : decide (1 ≤ e.seq) = false := by simp at h_s1; simp; omega
      exact Need.mk ⟨[], _, .same, fin (by simp [entOk, f_k, f_s1]), rfl⟩ trivial
end Go.Proofs.YtcnongahanmclaaGreat

namespace Go.Proofs.YtcnongahanmclaaGreat
open Go Go.Proofs Ev
set_option maxRecDepth 100000
set_option linter.unusedSimpArgs false
set_option linter.unusedVariables false
set_option maxHeartbeats 1000000
theorem impl_inOrder (xs : List Ent) (hx : OkE xs) (hxl : xs.length ≤ 1099511627776) : AFn Tryz.prog 105 [sl (xs.map Ent.enc)] [] (rb (ordOk xs)) [] := by
  refine AFn.introX (E := En 0 md0) (en_ok 0 md0) Tryz.func105 rfl rfl rfl fun _ _ => ?_
  have fin : ∀ {c : Bool}, c = ordOk xs → rb c = rb (ordOk xs) := fun h => by rw [h]
  refine ALoop.mk (fun m s => ∃ i : Nat, i ≤ xs.length ∧ m = xs.length - i ∧ (∀ (j : Nat) (h : j < xs.length), j < i → entOk xs[j] = true ∧ (∀ k (hk : k + 1 = j), eLess (xs[k]'(by omega)) xs[j] = true)) ∧
      s = ⟨some (sl (xs.map Ent.enc)) :: none :: some (av (.bool false)) :: none :: none :: some (sl (xs.map Ent.enc)) :: some (av (.int .i64 xs.length)) :: some (av (.int .i64 i)) :: List.replicate 22 none, List.replicate 30 absent⟩)
    ⟨xs.length, _, Weak.nrm [true, false, true, false, false, true, true, true] [] rfl rfl rfl, 0, Nat.zero_le _, rfl, by intro j h hj; omega, by rw [show ((xs.length : Nat) : Int) = ((xs.map Ent.enc).length : Nat) by rw [List.length_map]]; rfl⟩ ?_
  rintro m s ⟨i, hi, rfl, hall, rfl⟩
  refine Split.mk fun t ht => ?_
  cases t
  · have hin : i = xs.length := by simp at ht; omega
    subst hin
    exact Need.mk ⟨[], _, .same, fin ((ordOk_iff xs).2 fun j h => hall j h h).symm, rfl⟩ trivial
  have hia : i < xs.length := by simpa using ht
  refine Need.mk (by omega) ?_
  refine Row.mk _ (map_get _ xs i hia) ?_
  refine ACall.mk _ _ (impl_EntryOk xs[i] (hx _ (List.getElem_mem _))) ?_
  refine Split.mk fun t h1 => ?_
  cases t
  · refine Need.mk rfl ?_
    exact Need.mk ⟨[], _, .same, fin (ordOk_bad hia (.inl h1)).symm, rfl⟩ trivial
  refine Split.mk fun t h2 => ?_
  cases t
  · have h0 : i = 0 := by simp at h2; omega
    refine Need.mk rfl ?_
    refine Num.mk _ (wrapS (by omega)) ?_
    refine ⟨xs.length - (i + 1), _, by omega, Weak.nrm [true, false, true, false, false, true, true, true] [] rfl rfl rfl, i + 1, by omega, rfl, fun j h hj => ?_, rfl⟩
    have : j = i := by omega
    subst this
    exact ⟨h1, fun k hk => by omega⟩
  · have h0 : 0 < i := by simp at h2; omega
    refine Num.mk ((i - 1 : Nat) : Int) (wrapI' (by omega) (by omega)) ?_
    refine Need.mk (by omega) ?_
    refine Row.mk _ (map_get _ xs (i - 1) (by omega)) ?_
    refine ACall.mk _ _ (impl_EntryLess (xs[i - 1]'(by omega)) xs[i]) ?_
    refine Split.mk fun t h3 => ?_
    cases t
    · refine Need.mk rfl ?_
      exact Need.mk ⟨[], _, .same, fin (ordOk_bad hia (.inr ⟨i - 1, by omega, h3⟩)).symm, rfl⟩ trivial
    · refine Need.mk rfl ?_
      refine Num.mk _ (wrapS (by omega)) ?_
      refine ⟨xs.length - (i + 1), _, by omega, Weak.nrm [true, false, true, false, false, true, true, true] [] rfl rfl rfl, i + 1, by omega, rfl, fun j h hj => ?_, rfl⟩
      by_cases hji : j = i
      · subst hji
        refine ⟨h1, fun k hk => ?_⟩
        have : k = j - 1 := by omega
        subst this
        exact h3
      · exact hall j h (by omega)
theorem spec_l4Right (xs : List Ent) (hx : OkE xs) (hxl : xs.length ≤ 1099511627776) : AFn Tryz.prog 88 [sl (xs.map Ent.enc)] [] (rb (ordOk xs)) [] := by
  refine AFn.introX (E := En 0 md0) (en_ok 0 md0) Tryz.func88 rfl rfl rfl fun _ _ => ?_
  have fin : ∀ {c : Bool}, c = ordOk xs → rb c = rb (ordOk xs) := fun h => by rw [h]
  have hn : (xs.map Ent.enc).length = xs.length := List.length_map ..
  refine ALoop.mk (fun m s => ∃ i : Nat, i ≤ xs.length ∧ m = xs.length - i ∧ (∀ (j : Nat) (h : j < xs.length), j < i → entOk xs[j] = true ∧ (∀ k (hk : k + 1 = j), eLess (xs[k]'(by omega)) xs[j] = true)) ∧
      s = ⟨some (sl (xs.map Ent.enc)) :: none :: some (av (.bool false)) :: some (av (.int .i64 i)) :: List.replicate 29 none, List.replicate 33 absent⟩)
    ⟨xs.length, _, Weak.nrm [true, false, true, true] [] rfl rfl rfl, 0, Nat.zero_le _, rfl, by intro j h hj; omega, rfl⟩ ?_
  rintro m s ⟨i, hi, rfl, hall, rfl⟩
  refine Split.mk fun t ht => ?_
  rw [hn] at ht
  cases t
  · have hin : i = xs.length := by simp at ht; omega
    subst hin
    exact Need.mk ⟨[], _, .same, fin ((ordOk_iff xs).2 fun j h => hall j h h).symm, rfl⟩ trivial
  have hia : i < xs.length := by simpa using ht
  refine Need.mk (by omega) ?_
  refine Row.mk _ (map_get _ xs i hia) ?_
  refine ACall.mk _ _ (spec_EntryOk xs[i] (hx _ (List.getElem_mem _))) ?_
  refine Split.mk fun t h1 => ?_
  cases t
  · refine Need.mk rfl ?_
    exact Need.mk ⟨[], _, .same, fin (ordOk_bad hia (.inl h1)).symm, rfl⟩ trivial
  refine Split.mk fun t h2 => ?_
  cases t
  · have h0 : i = 0 := by simp at h2; omega
    refine Need.mk rfl ?_
    refine Num.mk _ (wrapS (by omega)) ?_
    refine ⟨xs.length - (i + 1), _, by omega, Weak.nrm [true, false, true, true] [] rfl rfl rfl, i + 1, by omega, rfl, fun j h hj => ?_, rfl⟩
    have : j = i := by omega
    subst this
    exact ⟨h1, fun k hk => by omega⟩
  · have h0 : 0 < i := by simp at h2; omega
    refine Num.mk ((i - 1 : Nat) : Int) (wrapI' (by omega) (by omega)) ?_
    refine Need.mk (by omega) ?_
    refine Row.mk _ (map_get _ xs (i - 1) (by omega)) ?_
    refine Need.mk (by omega) ?_
    refine Row.mk _ (map_get _ xs i hia) ?_
    refine ACall.mk _ _ (spec_EntryLess (xs[i - 1]'(by omega)) xs[i]) ?_
    refine Split.mk fun t h3 => ?_
    cases t
    · refine Need.mk rfl ?_
      exact Need.mk ⟨[], _, .same, fin (ordOk_bad hia (.inr ⟨i - 1, by omega, h3⟩)).symm, rfl⟩ trivial
    · refine Need.mk rfl ?_
      refine Num.mk _ (wrapS (by omega)) ?_
      refine ⟨xs.length - (i + 1), _, by omega, Weak.nrm [true, false, true, true] [] rfl rfl rfl, i + 1, by omega, rfl, fun j h hj => ?_, rfl⟩
      by_cases hji : j = i
      · subst hji
        refine ⟨h1, fun k hk => ?_⟩
        have : k = j - 1 := by omega
        subst this
        exact h3
      · exact hall j h (by omega)
end Go.Proofs.YtcnongahanmclaaGreat

namespace Go.Proofs.YtcnongahanmclaaGreat
open Go Go.Proofs Ev
set_option maxRecDepth 100000
set_option linter.unusedSimpArgs false
set_option linter.unusedVariables false
theorem spec_l4Bit (n : Nat) (hn : n < 16) : AFn Tryz.prog 219 [av (.int .i64 n)] [] (.one (vi ((2 ^ n : Nat) : Int))) [] := by
  refine AFn.introX (E := En 0 md0) (en_ok 0 md0) Tryz.func219 rfl rfl rfl fun _ _ => ?_
  refine ALoop.mk (fun m s => ∃ i : Nat, i ≤ n ∧ m = n - i ∧ s = ⟨some (av (.int .i64 n)) :: none :: some (av (.int .i64 0)) :: some (av (.int .i64 ((2 ^ i : Nat) : Int))) :: some (av (.int .i64 i)) :: List.replicate 8 none, List.replicate 13 absent⟩)
    ⟨n, _, Weak.nrm [true, false, true, true, true] [] rfl rfl rfl, 0, Nat.zero_le _, rfl, rfl⟩ ?_
  rintro m s ⟨i, hi, rfl, rfl⟩
  refine Split.mk fun t ht => ?_
  cases t
  · have hin : i = n := by simp at ht; omega
    subst hin
    exact Need.mk ⟨[], _, .same, rfl, rfl⟩ trivial
  · have hia : i < n := by simpa using ht
    have hp : 2 ^ i < 65536 := Nat.pow_lt_pow_right (a := 2) (by decide) (show i < 16 by omega)
    refine Num.mk ((2 ^ (i + 1) : Nat) : Int) (wrapI' (by rw [Nat.pow_succ]; omega) (by rw [Nat.pow_succ]; omega)) ?_
    refine Num.mk _ (wrapS (by omega)) ?_
    exact ⟨n - (i + 1), _, by omega, Weak.nrm [true, false, true, true, true] [] rfl rfl rfl, i + 1, by omega, rfl, rfl⟩
theorem spec_l4Or (a b : Nat) (ha : a < 65536) (hb : b < 65536) : AFn Tryz.prog 207 [av (.int .i64 a), av (.int .i64 b)] [] (.one (vi ((a ||| b : Nat) : Int))) [] := by
  refine AFn.introX (E := En 0 md0) (en_ok 0 md0) Tryz.func207 rfl rfl rfl fun _ _ => ?_
  have hlt : a ||| b < 65536 := Nat.or_lt_two_pow (n := 16) ha hb
  let S : Int → Nat → St := fun i o => ⟨some (av (.int .i64 a)) :: some (av (.int .i64 b)) :: none :: none :: some (av (.int .i64 0)) :: some (av (.int .i64 o)) :: some (av (.int .i64 i)) :: List.replicate 23 none, List.replicate 30 absent⟩
  refine ALoop.mk (fun m s => ∃ k : Nat, k ≤ 16 ∧ m = k ∧ s = S ((k : Int) - 1) ((a ||| b) / 2 ^ k))
    ⟨16, _, Weak.nrm [true, true, false, false, true, true, true] [] rfl rfl rfl, 16, Nat.le_refl _, rfl, by rw [show (a ||| b) / 2 ^ 16 = 0 from Nat.div_eq_of_lt hlt]; rfl⟩ ?_
  rintro m s ⟨k, hk, rfl, hs⟩
  by_cases h0 : m = 0
  · subst h0
    rw [Nat.pow_zero, Nat.div_one] at hs
    subst hs
    refine Split.mk fun t ht => ?_
    cases t
    · exact Need.mk ⟨[], _, .same, rfl, rfl⟩ trivial
    · simp at ht
  · have hex : ∃ i, m = i + 1 := ⟨m - 1, by omega⟩
    obtain ⟨i, hmi⟩ := hex
    subst hmi
    have hpos : 0 < 2 ^ i := Nat.pow_pos (by decide)
    have hstep : (a ||| b) / 2 ^ i = 2 * ((a ||| b) / 2 ^ (i + 1)) + (a ||| b) / 2 ^ i % 2 := bit_step
    have hor := or_bit (a := a) (b := b) (i := i)
    have hle : (a ||| b) / 2 ^ i ≤ a ||| b := Nat.div_le_self _ _
    have hda : a / 2 ^ i ≤ a := Nat.div_le_self _ _
    have hdb : b / 2 ^ i ≤ b := Nat.div_le_self _ _
    have hii : (((i + 1 : Nat) : Int) - 1) = (i : Int) := by omega
    rw [hii] at hs
    subst hs
    refine Split.mk fun t ht => ?_
    cases t
    · simp at ht <;> omega
    refine Num.mk ((2 * ((a ||| b) / 2 ^ (i + 1)) : Nat) : Int) (wrapI' (by omega) (by omega)) ?_
    refine ACall.mk _ _ (spec_l4Bit i (by omega)) ?_
    refine Need.mk (by omega) ?_
    refine Num.mk ((a / 2 ^ i : Nat) : Int) (wrapI' (tdivN' _ _) (by omega)) ?_
    refine Need.mk (by decide) ?_
    refine Split.mk fun t h1 => ?_
    have h1 : ((((a / 2 ^ i % 2 : Nat) : Int) == 1)) = t := h1
    cases t
    · refine ACall.mk _ _ (spec_l4Bit i (by omega)) ?_
      refine Need.mk (by omega) ?_
      refine Num.mk ((b / 2 ^ i : Nat) : Int) (wrapI' (tdivN' _ _) (by omega)) ?_
      refine Need.mk (by decide) ?_
      refine Split.mk fun t h2 => ?_
      have h2 : ((((b / 2 ^ i % 2 : Nat) : Int) == 1)) = t := h2
      cases t
      · have e : (a ||| b) / 2 ^ i % 2 = 0 := by rw [hor, if_neg (fun h => h.elim (fun e => by rw [e] at h1; cases h1) (fun e => by rw [e] at h2; cases h2))]
        refine Num.mk ((i : Int) - 1) (wrapI (by omega) (by omega)) ?_
        exact ⟨i, _, by omega, Weak.nrm [true, true, false, false, true, true, true] [] rfl rfl rfl, i, by omega, rfl, by rw [hstep, e, Nat.add_zero]; rfl⟩
      · have e : (a ||| b) / 2 ^ i % 2 = 1 := by rw [hor, if_pos (.inr (Int.ofNat_inj.1 (beq_iff_eq.1 h2)))]
        refine Num.mk ((2 * ((a ||| b) / 2 ^ (i + 1)) + 1 : Nat) : Int) (wrapI' (by omega) (by omega)) ?_
        refine Num.mk ((i : Int) - 1) (wrapI (by omega) (by omega)) ?_
        exact ⟨i, _, by omega, Weak.nrm [true, true, false, false, true, true, true] [] rfl rfl rfl, i, by omega, rfl, by rw [hstep, e]; rfl⟩
    · have e : (a ||| b) / 2 ^ i % 2 = 1 := by rw [hor, if_pos (.inl (Int.ofNat_inj.1 (beq_iff_eq.1 h1)))]
      refine Num.mk ((2 * ((a ||| b) / 2 ^ (i + 1)) + 1 : Nat) : Int) (wrapI' (by omega) (by omega)) ?_
      refine Num.mk ((i : Int) - 1) (wrapI (by omega) (by omega)) ?_
      exact ⟨i, _, by omega, Weak.nrm [true, true, false, false, true, true, true] [] rfl rfl rfl, i, by omega, rfl, by rw [hstep, e]; rfl⟩
theorem spec_KeyMask (s : ByteArray) (hs : s.size ≤ maxLen) : AFn Tryz.prog 208 [av (.string s)] [] (.one (vi (kmask s : Nat))) [] := by
  refine AFn.introX (E := En 0 md0) (en_ok 0 md0) Tryz.func208 rfl rfl rfl fun _ _ => ?_
  unfold maxLen at hs
  refine ALoop.mk (fun m s' => ∃ i : Nat, i ≤ s.size ∧ m = s.size - i ∧ s' = ⟨some (av (.string s)) :: none :: some (av (.int .i64 0)) :: some (av (.int .i64 (hsh s i : Nat))) :: some (av (.int .i64 i)) :: List.replicate 22 none, List.replicate 27 absent⟩)
    ⟨s.size, _, Weak.nrm [true, false, true, true, true] [] rfl rfl rfl, 0, Nat.zero_le _, rfl, rfl⟩ ?_
  rintro m s' ⟨i, hi, rfl, hs'⟩
  by_cases hin : i = s.size
  · subst hin
    have h1 := hsh_lt s s.size
    subst hs'
    refine Split.mk fun t ht => ?_
    cases t
    · refine Need.mk (by decide) ?_
      refine ACall.mk _ _ (spec_l4Bit (hsh s s.size % 16) (Nat.mod_lt _ (by decide))) ?_
      refine Need.mk (by decide) ?_
      refine Num.mk ((hsh s s.size / 16 : Nat) : Int) (wrapI' (tdivN' _ _) (by omega)) ?_
      refine Need.mk (by decide) ?_
      refine ACall.mk _ _ (spec_l4Bit (hsh s s.size / 16 % 16) (Nat.mod_lt _ (by decide))) ?_
      refine ACall.mk _ _ (spec_l4Or (2 ^ (hsh s s.size % 16)) (2 ^ (hsh s s.size / 16 % 16)) (p16_lt _) (p16_lt _)) ?_
      exact Need.mk ⟨[], _, .same, rfl, rfl⟩ trivial
    · simp at ht
  · have hia : i < s.size := by omega
    have h1 := hsh_lt s i
    have h2 := byteAt_lt s i
    have h3 : byteAt s i = (((byteAt s i).toNat : Nat) : Int) := by omega
    have h4 : ((hsh s i : Int) * 31 + ((byteAt s i).toNat : Int)).tmod 65521 = ((hsh s (i + 1) : Nat) : Int) := by
      rw [show (hsh s i : Int) * 31 + ((byteAt s i).toNat : Int) = ((31 * hsh s i + (byteAt s i).toNat : Nat) : Int) by omega]
      exact tmodN' _ _
    subst hs'
    refine Split.mk fun t ht => ?_
    cases t
    · simp at ht; omega
    refine Num.mk ((hsh s i : Int) * 31) (wrapI (by omega) (by omega)) ?_
    refine Need.mk ⟨by omega, by omega⟩ ?_
    refine Num.mk (((byteAt s i).toNat : Nat) : Int) (by rw [IntKind.wrap_i64]; omega) ?_
    refine Num.mk ((hsh s i : Int) * 31 + ((byteAt s i).toNat : Int)) (wrapI (by omega) (by omega)) ?_
    refine Need.mk (by decide) ?_
    refine Num.mk _ (wrapS (by omega)) ?_
    exact ⟨s.size - (i + 1), _, by omega, Weak.nrm [true, false, true, true, true] [] rfl rfl rfl, i + 1, by omega, rfl, by rw [← h4]; rfl⟩
theorem impl_KeyMask (s : ByteArray) (hs : s.size ≤ maxLen) : AFn Tryz.prog 181 [av (.string s)] [] (.one (vi (kmask s : Nat))) [] := by
  refine AFn.introX (E := En 0 md0) (en_ok 0 md0) Tryz.func181 rfl rfl rfl fun _ _ => ?_
  unfold maxLen at hs
  refine ALoop.mk (fun m s' => ∃ i : Nat, i ≤ s.size ∧ m = s.size - i ∧ s' = ⟨some (av (.string s)) :: none :: some (av (.int .i64 0)) :: some (av (.int .i64 (hsh s i : Nat))) :: none :: none :: some (av (.int .i64 s.size)) :: some (av (.int .i64 i)) :: List.replicate 19 none, List.replicate 27 absent⟩)
    ⟨s.size, _, Weak.nrm [true, false, true, true, false, false, true, true] [] rfl rfl rfl, 0, Nat.zero_le _, rfl, rfl⟩ ?_
  rintro m s' ⟨i, hi, rfl, hs'⟩
  by_cases hin : i = s.size
  · subst hin
    have h1 := hsh_lt s s.size
    have p1 := p16_lt (hsh s s.size)
    have p2 := p16_lt (hsh s s.size / 16)
    have sh : ∀ k : Nat, k < 16 → IntKind.i64.wrap ((1 : Int) * 2 ^ (min (k : Int).toNat IntKind.i64.bits)) = ((2 ^ k : Nat) : Int) := fun k hk => by
      have hp : 2 ^ k < 65536 := Nat.pow_lt_pow_right (a := 2) (by decide) hk
      have hb : IntKind.i64.bits = 64 := rfl
      refine wrapI' ?_ (by omega)
      rw [Int.toNat_natCast, Nat.min_eq_left (by rw [hb]; omega), Int.one_mul]
      simp
    subst hs'
    refine Split.mk fun t ht => ?_
    cases t
    · refine Need.mk (by decide) ?_
      refine Need.mk (Int.natCast_nonneg (hsh s s.size % 16)) ?_
      refine Num.mk _ (sh (hsh s s.size % 16) (Nat.mod_lt _ (by decide))) ?_
      refine Need.mk (by decide) ?_
      refine Num.mk ((hsh s s.size / 16 : Nat) : Int) (wrapI' (tdivN' _ _) (by omega)) ?_
      refine Need.mk (by decide) ?_
      refine Need.mk (Int.natCast_nonneg (hsh s s.size / 16 % 16)) ?_
      refine Num.mk _ (sh (hsh s s.size / 16 % 16) (Nat.mod_lt _ (by decide))) ?_
      refine Need.mk rfl ?_
      refine Need.mk ⟨[], _, .same, ?_, rfl⟩ trivial
      exact congrArg (fun z => RV.one (vi z)) (orN p1 p2)
    · simp at ht
  · have hia : i < s.size := by omega
    have h1 := hsh_lt s i
    have h2 := byteAt_lt s i
    have h4 : ((31 : Int) * (hsh s i : Int) + ((byteAt s i).toNat : Int)).tmod 65521 = ((hsh s (i + 1) : Nat) : Int) := by
      rw [show (31 : Int) * (hsh s i : Int) + ((byteAt s i).toNat : Int) = ((31 * hsh s i + (byteAt s i).toNat : Nat) : Int) by omega]
      exact tmodN' _ _
    subst hs'
    refine Split.mk fun t ht => ?_
    cases t
    · simp at ht; omega
    refine Num.mk ((31 : Int) * (hsh s i : Int)) (wrapI (by omega) (by omega)) ?_
    refine Need.mk ⟨by omega, by omega⟩ ?_
    refine Num.mk (((byteAt s i).toNat : Nat) : Int) (by rw [IntKind.wrap_i64]; omega) ?_
    refine Num.mk ((31 : Int) * (hsh s i : Int) + ((byteAt s i).toNat : Int)) (wrapI (by omega) (by omega)) ?_
    refine Need.mk (by decide) ?_
    refine Num.mk _ (wrapS (by omega)) ?_
    exact ⟨s.size - (i + 1), _, by omega, Weak.nrm [true, false, true, true, false, false, true, true] [] rfl rfl rfl, i + 1, by omega, rfl, by rw [← h4]; rfl⟩
end Go.Proofs.YtcnongahanmclaaGreat

namespace Go.Proofs.YtcnongahanmclaaGreat
open Go Go.Proofs Ev
set_option maxRecDepth 100000
set_option linter.unusedSimpArgs false
set_option linter.unusedVariables false
theorem spec_l4Mask (xs : List Ent) (hx : OkE xs) (hxl : xs.length ≤ 1099511627776) : AFn Tryz.prog 178 [sl (xs.map Ent.enc)] [] (.one (vi (rmask xs : Nat))) [] := by
  refine AFn.introX (E := En 0 md0) (en_ok 0 md0) Tryz.func178 rfl rfl rfl fun _ _ => ?_
  have hn : (xs.map Ent.enc).length = xs.length := List.length_map ..
  refine ALoop.mk (fun m s => ∃ i : Nat, i ≤ xs.length ∧ m = xs.length - i ∧ s = ⟨some (sl (xs.map Ent.enc)) :: none :: some (av (.int .i64 0)) :: some (av (.int .i64 (rmask (xs.take i) : Nat))) :: some (av (.int .i64 i)) :: List.replicate 15 none, List.replicate 20 absent⟩)
    ⟨xs.length, _, Weak.nrm [true, false, true, true, true] [] rfl rfl rfl, 0, Nat.zero_le _, rfl, rfl⟩ ?_
  rintro m s ⟨i, hi, rfl, hs⟩
  by_cases hin : i = xs.length
  · subst hin
    rw [List.take_length] at hs
    subst hs
    refine Split.mk fun t ht => ?_
    rw [hn] at ht
    cases t
    · exact Need.mk ⟨[], _, .same, rfl, rfl⟩ trivial
    · simp at ht
  · have hia : i < xs.length := by omega
    have he := rmask_snoc (xs.take i) xs[i]
    rw [← List.take_succ_eq_append_getElem hia] at he
    subst hs
    refine Split.mk fun t ht => ?_
    rw [hn] at ht
    cases t
    · simp at ht; omega
    refine Need.mk (by omega) ?_
    refine Row.mk _ (map_get _ xs i hia) ?_
    refine ACall.mk _ _ (spec_KeyMask xs[i].key (hx _ (List.getElem_mem _)).1) ?_
    refine ACall.mk _ _ (spec_l4Or (rmask (xs.take i)) (kmask xs[i].key) (rmask_lt _) (kmask_lt _)) ?_
    refine Num.mk _ (wrapS (by omega)) ?_
    exact ⟨xs.length - (i + 1), _, by omega, Weak.nrm [true, false, true, true, true] [] rfl rfl rfl, i + 1, by omega, rfl, by rw [he]; rfl⟩
end Go.Proofs.YtcnongahanmclaaGreat

namespace Go.Proofs.YtcnongahanmclaaGreat
open Go Go.Proofs Ev
set_option maxRecDepth 100000
set_option linter.unusedSimpArgs false
set_option linter.unusedVariables false
def encO (r : Rn) : List C := [.us 54 (r.ents.map Ent.enc), vi r.mask]
def encLO (l : List Rn) : List C := [.us 68 (l.map encO)]
theorem clO (xs : List Rn) : ∀ r ∈ xs.map encO, ClL r := cl_map (f := encO) (fun l => .us (clE l.ents) (.v .nil)) xs
theorem clLO (xs : List (List Rn)) : ∀ r ∈ xs.map encLO, ClL r := cl_map (f := encLO) (fun l => .us (clO l) .nil) xs
end Go.Proofs.YtcnongahanmclaaGreat

namespace Go.Proofs.YtcnongahanmclaaGreat
open Go Go.Proofs Ev
set_option maxRecDepth 100000
set_option linter.unusedSimpArgs false
set_option linter.unusedVariables false
theorem frzR (xs : List Rn) : Frz (.us 68 (xs.map encO)) (.sl (xs.map Rn.enc)) := frz_map fun r _ => .cons (frzE r.ents) (.cons .v .nil)
theorem frzRR (xs : List (List Rn)) : Frz (.us 66 (xs.map encLO)) (.sl (xs.map encL)) := frz_map fun r _ => .cons (frzR r) .nil
end Go.Proofs.YtcnongahanmclaaGreat

namespace Go.Proofs.YtcnongahanmclaaGreat
open Go Go.Proofs Ev
set_option maxRecDepth 100000
set_option linter.unusedSimpArgs false
set_option linter.unusedVariables false
set_option maxHeartbeats 4000000
theorem closedE (e : TypeId) (xs : List Ent) : Closed (.us e (xs.map Ent.enc)) := by
  refine .us fun r hr c hc => ?_
  obtain ⟨x, _, rfl⟩ := List.mem_map.1 hr
  simp only [Ent.enc, List.mem_cons, List.not_mem_nil, or_false] at hc
  rcases hc with h | h | h | h | h <;> subst h <;> exact .v
theorem closed_rof (e : TypeId) (xs : List Ent) (v w : Value) : ∀ c ∈ ([C.us e (xs.map Ent.enc), .v v, .v w] : List C), Closed c := fun c hc => by
  simp only [List.mem_cons, List.not_mem_nil, or_false] at hc
  rcases hc with h | h | h <;> subst h
  · exact closedE e xs
  · exact .v
  · exact .v
theorem rowsOk (R : List (List C)) (ys : List Ent) (h : R = ys.map Ent.enc) : Plain R ∧ ∀ r ∈ R, r.length = 5 := by
  subst h; exact ⟨plainE ys, lenE ys⟩
theorem sizeOk (a b : List (List C)) (ys zs : List Ent) (ha : a = ys.map Ent.enc) (hb : b = zs.map Ent.enc) (h : ys.length + zs.length ≤ 2000000) : (a.length + b.length) * 56 ≤ 140737488355328 ∧ a.length + b.length ≤ maxLen := by
  subst ha; subst hb
  rw [List.length_map, List.length_map]
  exact ⟨by omega, Nat.le_trans h (by decide)⟩
theorem spec_l4Put (xs : List Ent) (e : Ent) (hx : xs.length ≤ 1048576) : AFn Tryz.prog 122 [sl (xs.map Ent.enc), .agg (e.enc.map .c)] [] (.one (.us 54 ((ins eLess xs e).map Ent.enc))) [] := by
  refine AFn.introX (E := En 0 md0) (en_ok 0 _) Tryz.func122 rfl rfl rfl fun _ _ => ?_
  have hn : (xs.map Ent.enc).length = xs.length := List.length_map ..
  let S : Int → St := fun k => ⟨some (sl (xs.map Ent.enc)) :: none :: none :: some (.bx 3 0) :: none :: some (av (.int .i64 k)) :: List.replicate 31 none, absent :: absent :: absent :: ⟨0, 0, some e.enc⟩ :: List.replicate 33 absent⟩
  refine ALoop.mk (fun m s => ∃ k : Nat, k ≤ xs.length ∧ m = k ∧ ins eLess xs e = ins eLess (xs.take k) e ++ xs.drop k ∧ s = S (k : Int))
    ⟨xs.length, _, Weak.nrm [true, false, false, true, false, true] [(3, 3)] rfl rfl rfl, xs.length, Nat.le_refl _, rfl, by simp, congrArg S (show (((xs.map Ent.enc).length : Nat) : Int) = ((xs.length : Nat) : Int) by rw [hn])⟩ ?_
  rintro m s ⟨k, hk, rfl, hins, hs⟩
  have plain : ∀ ys : List Ent, Plain (ys.map Ent.enc) := plainE
  by_cases hstop : m = 0 ∨ ∃ h : 0 < m, eLess e (xs[m - 1]'(by omega)) = false
  · have hfin : ins eLess xs e = xs.take m ++ [e] ++ xs.drop m := by
      rw [hins]
      congr 1
      rcases hstop with h | ⟨h, hl⟩
      · subst h; rfl
      · have e1 : xs.take m = xs.take (m - 1) ++ [xs[m - 1]'(by omega)] := by
          conv => lhs; rw [show m = m - 1 + 1 by omega]
          exact List.take_succ_eq_append_getElem (by omega)
        rw [e1]; exact ins_stop eLess e _ _ hl
    have d1 : ((xs.map Ent.enc).drop (m : Int).toNat).take (((xs.map Ent.enc).length : Int) - (m : Int)).toNat = (xs.drop m).map Ent.enc := by
      rw [Int.toNat_natCast, ← List.map_drop]
      exact List.take_of_length_le (by rw [List.length_map, List.length_drop, hn]; omega)
    have d2 : ((xs.map Ent.enc).drop (0 : Int).toNat).take ((m : Int) - 0).toNat = (xs.take m).map Ent.enc := by
      rw [show (0 : Int).toNat = 0 from rfl, List.drop_zero, Int.sub_zero, Int.toNat_natCast, ← List.map_take]
    have d3 : ((xs.map Ent.enc).drop (0 : Int).toNat).take ((m : Int) - 0).toNat ++ [e.enc] = (xs.take m ++ [e]).map Ent.enc := by
      rw [d2, List.map_append]; rfl
    have d4 : ((xs.map Ent.enc).drop (0 : Int).toNat).take ((m : Int) - 0).toNat ++ [e.enc] ++ ((xs.map Ent.enc).drop (m : Int).toNat).take (((xs.map Ent.enc).length : Int) - (m : Int)).toNat = (xs.take m ++ [e] ++ xs.drop m).map Ent.enc := by
      rw [d3, d1, ← List.map_append]
    have l1 : ((xs.drop m).map Ent.enc).length = xs.length - m := by rw [List.length_map, List.length_drop]
    have l2 : ((xs.take m).map Ent.enc).length = m := by rw [List.length_map, List.length_take]; omega
    have fin : ∀ rows : List (List C), rows = (xs.take m ++ [e] ++ xs.drop m).map Ent.enc → RV.one (.us 54 rows) = .one (.us 54 ((ins eLess xs e).map Ent.enc)) := fun rows h => by rw [h, hfin]
    rcases Nat.eq_zero_or_pos m with h0 | h0
    · subst hs
      refine Split.mk fun t ht => ?_
      cases t
      case true => simp at ht; omega
      refine Need.mk rfl ?_
      refine Need.mk ⟨by omega, by omega, by omega, lenE xs⟩ ?_
      refine Need.mk (rowsOk _ _ d1) ?_
      refine Need.mk (sizeOk _ _ [] (xs.drop m) rfl d1 (by rw [List.length_drop]; simp; omega)) ?_
      refine Need.mk ⟨by omega, by omega, by omega, lenE xs⟩ ?_
      refine Need.mk (rowsOk _ _ d2) ?_
      refine Need.mk (sizeOk _ _ [] (xs.take m) rfl d2 (by rw [List.length_take]; simp; omega)) ?_
      refine Need.mk (sizeOk _ _ (xs.take m) [e] d2 rfl (by rw [List.length_take]; simp; omega)) ?_
      refine Need.mk (rowsOk _ _ d1).1 ?_
      refine Need.mk (sizeOk _ _ (xs.take m ++ [e]) (xs.drop m) d3 d1 (by rw [List.length_append, List.length_take, List.length_drop]; simp; omega)) ?_
      refine Need.mk rfl ?_
      exact Need.mk ⟨[], _, .same, fin _ d4, rfl⟩ trivial
    · have hl : eLess e (xs[m - 1]'(by omega)) = false := by
        refine hstop.elim (fun h => absurd h (by omega)) fun h => ?_
        exact h.2
      subst hs
      refine Split.mk fun t ht => ?_
      cases t
      · simp at ht; omega
      refine Num.mk ((m - 1 : Nat) : Int) (wrapI' (by omega) (by omega)) ?_
      refine Need.mk (by omega) ?_
      refine Row.mk _ (map_get _ xs (m - 1) (by omega)) ?_
      refine ACall.mk _ _ (spec_EntryLess e (xs[m - 1]'(by omega))) ?_
      refine Split.mk fun t ht2 => ?_
      cases t
      case true => rw [hl] at ht2; cases ht2
      refine Need.mk rfl ?_
      refine Need.mk ⟨by omega, by omega, by omega, lenE xs⟩ ?_
      refine Need.mk (rowsOk _ _ d1) ?_
      refine Need.mk (sizeOk _ _ [] (xs.drop m) rfl d1 (by rw [List.length_drop]; simp; omega)) ?_
      refine Need.mk ⟨by omega, by omega, by omega, lenE xs⟩ ?_
      refine Need.mk (rowsOk _ _ d2) ?_
      refine Need.mk (sizeOk _ _ [] (xs.take m) rfl d2 (by rw [List.length_take]; simp; omega)) ?_
      refine Need.mk (sizeOk _ _ (xs.take m) [e] d2 rfl (by rw [List.length_take]; simp; omega)) ?_
      refine Need.mk (rowsOk _ _ d1).1 ?_
      refine Need.mk (sizeOk _ _ (xs.take m ++ [e]) (xs.drop m) d3 d1 (by rw [List.length_append, List.length_take, List.length_drop]; simp; omega)) ?_
      refine Need.mk rfl ?_
      exact Need.mk ⟨[], _, .same, fin _ d4, rfl⟩ trivial
  · have h0 : 0 < m := Nat.pos_of_ne_zero fun h => hstop (.inl h)
    have hl : eLess e (xs[m - 1]'(by omega)) = true := by
      cases hx : eLess e (xs[m - 1]'(by omega)) with
      | true => rfl
      | false => exact absurd (.inr ⟨h0, hx⟩) hstop
    have e1 : xs.take m = xs.take (m - 1) ++ [xs[m - 1]'(by omega)] := by
      conv => lhs; rw [show m = m - 1 + 1 by omega]
      exact List.take_succ_eq_append_getElem (by omega)
    have hins' : ins eLess xs e = ins eLess (xs.take (m - 1)) e ++ xs.drop (m - 1) := by
      rw [hins, e1, ins_step eLess e _ _ hl, List.append_assoc]
      congr 1
      conv => rhs; rw [List.drop_eq_getElem_cons (show m - 1 < xs.length by omega)]
      rw [show m - 1 + 1 = m by omega]; rfl
    subst hs
    refine Split.mk fun t ht => ?_
    cases t
    · simp at ht; omega
    refine Num.mk ((m - 1 : Nat) : Int) (wrapI' (by omega) (by omega)) ?_
    refine Need.mk (by omega) ?_
    refine Row.mk _ (map_get _ xs (m - 1) (by omega)) ?_
    refine ACall.mk _ _ (spec_EntryLess e (xs[m - 1]'(by omega))) ?_
    refine Split.mk fun t ht2 => ?_
    cases t
    · rw [hl] at ht2; cases ht2
    refine Need.mk rfl ?_
    refine Num.mk ((m - 1 : Nat) : Int) (wrapI' (by omega) (by omega)) ?_
    exact ⟨m - 1, _, by omega, Weak.nrm [true, false, false, true, false, true] [(3, 3)] rfl rfl rfl, m - 1, by omega, rfl, hins', rfl⟩
end Go.Proofs.YtcnongahanmclaaGreat

namespace Go.Proofs.YtcnongahanmclaaGreat
open Go Go.Proofs Ev
set_option maxRecDepth 100000
set_option linter.unusedSimpArgs false
set_option linter.unusedVariables false
set_option maxHeartbeats 40000000
theorem impl_stamped' (seq : Int) (batch : List Ent) (hs : 0 ≤ seq ∧ seq ≤ 100000) (hx : OkE batch) (hl : batch.length ≤ 1048576) (o : List Ent) (c : Bool) (ho : (if stampB seq batch = true then stampT seq 0 batch else []) = o) (hcb : stampB seq batch = c) : AFn Tryz.prog 126 [av (.int .i64 seq), sl (batch.map Ent.enc)] [] (.tup [.one (.us 54 (o.map Ent.enc)), .one (vb c)]) [] := by
  have hn : (batch.map Ent.enc).length = batch.length := List.length_map ..
  have hfalse : stampB seq batch = false → o = [] ∧ c = false := fun h => ⟨by rw [← ho, h]; rfl, by rw [← hcb, h]⟩
  have htrue : stampB seq batch = true → o = stampT seq 0 batch ∧ c = true := fun h => ⟨by rw [← ho, if_pos h], by rw [← hcb, h]⟩
  by_cases h1 : batch.length < 1
  · have hb : stampB seq batch = false := by rw [Bool.eq_false_iff]; intro h; have := (stampB_iff.1 h).2.1; omega
    obtain ⟨rfl, rfl⟩ := hfalse hb
    refine AFn.introX (E := En 0 md0) (en_ok 0 _ _ _ _ _) Tryz.func126 rfl rfl rfl fun _ _ => ?_
    refine Split.mk fun t h1 => ?_
    cases t
    case false => (exfalso; rw [decide_eq_false_iff_not] at h1; omega)
    rw [decide_eq_true_iff] at h1
    exact Need.mk ⟨[false], _, (.nil (pos_of tab_ok (t := 54) rfl) .same), rfl, rfl⟩ trivial
  · by_cases h2 : 12 < batch.length
    · have hb : stampB seq batch = false := by rw [Bool.eq_false_iff]; intro h; have := (stampB_iff.1 h).2.2; omega
      obtain ⟨rfl, rfl⟩ := hfalse hb
      refine AFn.introX (E := En 0 md0) (en_ok 0 _ _ _ _ _) Tryz.func126 rfl rfl rfl fun _ _ => ?_
      refine Split.mk fun t h1 => ?_
      cases t
      case true => (exfalso; rw [decide_eq_true_iff] at h1; omega)
      rw [decide_eq_false_iff_not] at h1
      refine Split.mk fun t h2 => ?_
      cases t
      case false => (exfalso; rw [decide_eq_false_iff_not] at h2; omega)
      rw [decide_eq_true_iff] at h2
      exact Need.mk ⟨[false], _, (.nil (pos_of tab_ok (t := 54) rfl) .same), rfl, rfl⟩ trivial
    · refine AFn.introX (E := En 0 md0) (en_ok 0 _ _ _ _ _) Tryz.func126 rfl rfl rfl fun _ _ => ?_
      refine Split.mk fun t h1 => ?_
      cases t
      case true => (exfalso; rw [decide_eq_true_iff] at h1; omega)
      rw [decide_eq_false_iff_not] at h1
      refine Split.mk fun t h2 => ?_
      cases t
      case true => (exfalso; rw [decide_eq_true_iff] at h2; omega)
      rw [decide_eq_false_iff_not] at h2
      let S : Nat → List (List C) → St := fun i R => ⟨some (av (.int .i64 seq)) :: none :: none :: none :: none :: none :: some (.one (.ref 6 0 (.cell 0))) :: none :: none :: none :: none :: none :: none :: none :: none :: none :: none :: some (sl (List.map Ent.enc batch)) :: some (av (.int .i64 (↑(List.map Ent.enc batch).length))) :: some (av (.int .i64 i)) :: List.replicate 21 none, absent :: absent :: absent :: absent :: absent :: absent :: ⟨0, 1, some [.us 54 R]⟩ :: List.replicate 34 absent⟩
      refine ALoop.mk (fun m s => ∃ (i : Nat) (R : List (List C)), i ≤ batch.length ∧ m = batch.length - i ∧ (∀ j (_ : j < i) (h : j < batch.length), batch[j].seq = 0 ∧ entOk (stampE seq (0 + j) batch[j]) = true) ∧ R = (stampT seq 0 (batch.take i)).map Ent.enc ∧ s = S i R)
        ⟨_, _, Weak.trans (Weak.nrm [true, false, false, false, false, false, true, false, false, false, false, false, false, false, false, false, false, true, true, true] [] rfl rfl rfl) (Weak.nilOwn 6 6 54 rfl rfl (pos_of tab_ok (t := 54) rfl)), 0, [], Nat.zero_le _, rfl, fun j h => by omega, rfl, rfl⟩ ?_
      rintro m s ⟨i, R, hi, rfl, hno, hR, hs⟩
      by_cases hin : i < batch.length
      · have hRl : R.length ≤ 12 := by rw [hR, List.length_map, stampT_len, List.length_take]; omega
        have hrow := map_get Ent.enc batch i hin
        have hw1 : IntKind.i64.wrap (seq + 1) = seq + 1 := wrapI (by omega) (by omega)
        have hw2 : IntKind.i64.wrap (seq + 1 + (i : Nat)) = seq + 1 + (i : Nat) := wrapI (by omega) (by omega)
        have hE := impl_EntryOk (stampE seq i batch[i]) (show (stampE seq i batch[i]).Ok from hx batch[i] (List.getElem_mem hin))
        have hbad : ¬ (batch[i].seq = 0 ∧ entOk (stampE seq i batch[i]) = true) → stampB seq batch = false := fun h => by
          have := stampP_bad (seq := seq) (i := 0) hin (fun j hj => hno j hj (by omega)) (by rw [Nat.zero_add]; exact h)
          unfold stampB
          rw [this]; rfl
        by_cases hz : batch[i].seq = 0
        · have hex : ∃ d, entOk (stampE seq i batch[i]) = d := ⟨_, rfl⟩
          obtain ⟨d, hc⟩ := hex
          rw [hc] at hE
          cases d
          · obtain ⟨ho0, hc0⟩ := hfalse (hbad (fun h => by rw [hc] at h; cases h.2))
            subst ho0
            subst hc0
            subst hs
            refine Split.mk fun t h1 => ?_
            cases t
            case false => (exfalso; rw [decide_eq_false_iff_not] at h1; omega)
            rw [decide_eq_true_iff] at h1
            refine Need.mk (by omega) ?_
            refine Row.mk _ hrow ?_
            refine Split.mk fun t h2 => ?_
            cases t
            case true => (exfalso; rw [bne_iff_ne] at h2; omega)
            rw [bne_eq_false_iff_eq] at h2
            refine Num.mk _ hw1 ?_
            refine Num.mk _ hw2 ?_
            refine ACall.mk _ _ hE ?_
            refine Split.mk fun t h3 => ?_
            cases t
            case true => cases h3
            exact Need.mk ⟨[false], _, (.nil (pos_of tab_ok (t := 54) rfl) .same), rfl, rfl⟩ trivial
          · have hno2 : ∀ j (_ : j < i + 1) (h : j < batch.length), batch[j].seq = 0 ∧ entOk (stampE seq (0 + j) batch[j]) = true := fun j hj h => by
              by_cases hji : j = i
              · subst hji; rw [Nat.zero_add]; exact ⟨hz, hc⟩
              · exact hno j (by omega) h
            have hRR : R ++ [(stampE seq i batch[i]).enc] = (stampT seq 0 (batch.take (i + 1))).map Ent.enc := by rw [stampT_snoc hin, List.map_append, hR]; rfl
            subst hs
            refine Split.mk fun t h1 => ?_
            cases t
            case false => (exfalso; rw [decide_eq_false_iff_not] at h1; omega)
            rw [decide_eq_true_iff] at h1
            refine Need.mk (by omega) ?_
            refine Row.mk _ hrow ?_
            refine Split.mk fun t h2 => ?_
            cases t
            case true => (exfalso; rw [bne_iff_ne] at h2; omega)
            rw [bne_eq_false_iff_eq] at h2
            refine Num.mk _ hw1 ?_
            refine Num.mk _ hw2 ?_
            refine ACall.mk _ _ hE ?_
            refine Split.mk fun t h3 => ?_
            cases t
            case false => cases h3
            refine Need.mk (appEq (A' := _) (B' := [[vs batch[i].key, vi (seq + 1 + ↑i), vi batch[i].kind, vs batch[i].text, vi batch[i].n]]) rfl rfl (by simp only [List.length_append, List.length_map, List.length_take, List.length_drop, List.length_cons, List.length_nil, List.length_reverse, List.length_replicate, List.length_set]; omega) (by decide)) ?_
            refine Num.mk _ (wrapS (by omega)) ?_
            exact ⟨_, _, by omega, Weak.nrm [true, false, false, false, false, false, true, false, false, false, false, false, false, false, false, false, false, true, true, true] [(38, 6)] rfl rfl rfl, i + 1, _, by omega, rfl, hno2, hRR, rfl⟩
        · obtain ⟨ho0, hc0⟩ := hfalse (hbad (fun h => hz h.1))
          subst ho0
          subst hc0
          subst hs
          refine Split.mk fun t h1 => ?_
          cases t
          case false => (exfalso; rw [decide_eq_false_iff_not] at h1; omega)
          rw [decide_eq_true_iff] at h1
          refine Need.mk (by omega) ?_
          refine Row.mk _ hrow ?_
          refine Split.mk fun t h2 => ?_
          cases t
          case false => (exfalso; rw [bne_eq_false_iff_eq] at h2; omega)
          rw [bne_iff_ne] at h2
          exact Need.mk ⟨[false], _, (.nil (pos_of tab_ok (t := 54) rfl) .same), rfl, rfl⟩ trivial
      · have hin : i = batch.length := by omega
        have hb : stampB seq batch = true := stampB_iff.2 ⟨by rw [stampP_ok fun j h => hno j (by omega) h], by omega, by omega⟩
        rw [hin, List.take_length] at hR
        obtain ⟨ho0, hc0⟩ := htrue hb
        rw [← ho0] at hR
        subst hc0
        subst hR
        subst hs
        refine Split.mk fun t h1 => ?_
        cases t
        case true => (exfalso; rw [decide_eq_true_iff] at h1; omega)
        rw [decide_eq_false_iff_not] at h1
        exact Need.mk ⟨[], _, .same, rfl, rfl⟩ trivial
theorem impl_stamped (seq : Int) (batch : List Ent) (hs : 0 ≤ seq ∧ seq ≤ 100000) (hx : OkE batch) (hl : batch.length ≤ 1048576) : AFn Tryz.prog 126 [av (.int .i64 seq), sl (batch.map Ent.enc)] [] (.tup [.one (.us 54 ((if stampB seq batch = true then stampT seq 0 batch else []).map Ent.enc)), .one (vb (stampB seq batch))]) [] :=
  impl_stamped' seq batch hs hx hl _ _ rfl rfl
theorem spec_l5Stamp' (seq : Int) (batch : List Ent) (hs : 0 ≤ seq ∧ seq ≤ 100000) (hx : OkE batch) (hl : batch.length ≤ 1048576) (o : List Ent) (c : Bool) (ho : (stampP seq 0 batch).1 = o) (hcb : stampB seq batch = c) : AFn Tryz.prog 121 [sl (batch.map Ent.enc), av (.int .i64 seq)] [] (.tup [.one (.us 54 (o.map Ent.enc)), .one (vb c)]) [] := by
  have hn : (batch.map Ent.enc).length = batch.length := List.length_map ..
  refine AFn.introX (E := En 0 md0) (en_ok 0 _ _ _ _ _) Tryz.func121 rfl rfl rfl fun _ _ => ?_
  let S : Nat → List (List C) → St := fun i R => ⟨some (sl (List.map Ent.enc batch)) :: some (av (.int .i64 seq)) :: none :: none :: none :: none :: some (.one (.ref 6 0 (.cell 0))) :: some (av (.int .i64 i)) :: List.replicate 38 none, absent :: absent :: absent :: absent :: absent :: absent :: ⟨0, 1, some [.us 54 R]⟩ :: List.replicate 39 absent⟩
  refine ALoop.mk (fun m s => ∃ (i : Nat) (R : List (List C)), i ≤ batch.length ∧ m = batch.length - i ∧ (∀ j (_ : j < i) (h : j < batch.length), batch[j].seq = 0 ∧ entOk (stampE seq (0 + j) batch[j]) = true) ∧ R = (stampT seq 0 (batch.take i)).map Ent.enc ∧ s = S i R)
    ⟨_, _, Weak.trans (Weak.nrm [true, true, false, false, false, false, true, true] [(9, 6)] rfl rfl rfl) Weak.one, 0, [], Nat.zero_le _, rfl, fun j h => by omega, rfl, rfl⟩ ?_
  rintro m s ⟨i, R, hi, rfl, hno, hR, hs⟩
  by_cases hin : i < batch.length
  · have hRl : R.length ≤ 1048576 := by rw [hR, List.length_map, stampT_len, List.length_take]; omega
    have hrow := map_get Ent.enc batch i hin
    have hw1 : IntKind.i64.wrap (seq + 1) = seq + 1 := wrapI (by omega) (by omega)
    have hw2 : IntKind.i64.wrap (seq + 1 + (i : Nat)) = seq + 1 + (i : Nat) := wrapI (by omega) (by omega)
    have hE := spec_EntryOk (stampE seq i batch[i]) (show (stampE seq i batch[i]).Ok from hx batch[i] (List.getElem_mem hin))
    have hbad : ¬ (batch[i].seq = 0 ∧ entOk (stampE seq i batch[i]) = true) → c = false ∧ o.map Ent.enc = R := fun h => by
      have := stampP_bad (seq := seq) (i := 0) hin (fun j hj => hno j hj (by omega)) (by rw [Nat.zero_add]; exact h)
      refine ⟨?_, by rw [← ho, this, hR]⟩
      rw [← hcb]
      unfold stampB
      rw [this]; rfl
    by_cases hz : batch[i].seq = 0
    · have hex : ∃ d, entOk (stampE seq i batch[i]) = d := ⟨_, rfl⟩
      obtain ⟨d, hc⟩ := hex
      rw [hc] at hE
      cases d
      · obtain ⟨hb1, hb2⟩ := hbad (fun h => by rw [hc] at h; cases h.2)
        subst hb1
        have hres : (RV.tup [.one (.us 54 R), .one (vb false)]) = .tup [.one (.us 54 (o.map Ent.enc)), .one (vb false)] := by rw [hb2]
        subst hs
        refine Split.mk fun t h1 => ?_
        cases t
        case false => (exfalso; rw [decide_eq_false_iff_not] at h1; omega)
        rw [decide_eq_true_iff] at h1
        refine Need.mk (by omega) ?_
        refine Row.mk _ hrow ?_
        refine Split.mk fun t h2 => ?_
        cases t
        case true => (exfalso; rw [bne_iff_ne] at h2; omega)
        rw [bne_eq_false_iff_eq] at h2
        refine Num.mk _ hw1 ?_
        refine Num.mk _ hw2 ?_
        refine ACall.mk _ _ hE ?_
        refine Split.mk fun t h3 => ?_
        cases t
        case true => cases h3
        exact Need.mk ⟨[], _, .same, hres, rfl⟩ trivial
      · have hno2 : ∀ j (_ : j < i + 1) (h : j < batch.length), batch[j].seq = 0 ∧ entOk (stampE seq (0 + j) batch[j]) = true := fun j hj h => by
          by_cases hji : j = i
          · subst hji; rw [Nat.zero_add]; exact ⟨hz, hc⟩
          · exact hno j (by omega) h
        have hRR : R ++ [(stampE seq i batch[i]).enc] = (stampT seq 0 (batch.take (i + 1))).map Ent.enc := by rw [stampT_snoc hin, List.map_append, hR]; rfl
        subst hs
        refine Split.mk fun t h1 => ?_
        cases t
        case false => (exfalso; rw [decide_eq_false_iff_not] at h1; omega)
        rw [decide_eq_true_iff] at h1
        refine Need.mk (by omega) ?_
        refine Row.mk _ hrow ?_
        refine Split.mk fun t h2 => ?_
        cases t
        case true => (exfalso; rw [bne_iff_ne] at h2; omega)
        rw [bne_eq_false_iff_eq] at h2
        refine Num.mk _ hw1 ?_
        refine Num.mk _ hw2 ?_
        refine ACall.mk _ _ hE ?_
        refine Split.mk fun t h3 => ?_
        cases t
        case false => cases h3
        refine Need.mk (appEq (A' := _) (B' := [[vs batch[i].key, vi (seq + 1 + ↑i), vi batch[i].kind, vs batch[i].text, vi batch[i].n]]) rfl rfl (by simp only [List.length_append, List.length_map, List.length_take, List.length_drop, List.length_cons, List.length_nil, List.length_reverse, List.length_replicate, List.length_set]; omega) (by decide)) ?_
        refine Num.mk _ (wrapS (by omega)) ?_
        exact ⟨_, _, by omega, Weak.nrm [true, true, false, false, false, false, true, true] [(36, 6)] rfl rfl rfl, i + 1, _, by omega, rfl, hno2, hRR, rfl⟩
    · obtain ⟨hb1, hb2⟩ := hbad (fun h => hz h.1)
      subst hb1
      have hres : (RV.tup [.one (.us 54 R), .one (vb false)]) = .tup [.one (.us 54 (o.map Ent.enc)), .one (vb false)] := by rw [hb2]
      subst hs
      refine Split.mk fun t h1 => ?_
      cases t
      case false => (exfalso; rw [decide_eq_false_iff_not] at h1; omega)
      rw [decide_eq_true_iff] at h1
      refine Need.mk (by omega) ?_
      refine Row.mk _ hrow ?_
      refine Split.mk fun t h2 => ?_
      cases t
      case false => (exfalso; rw [bne_eq_false_iff_eq] at h2; omega)
      rw [bne_iff_ne] at h2
      exact Need.mk ⟨[], _, .same, hres, rfl⟩ trivial
  · have hin : i = batch.length := by omega
    have hP : stampP seq 0 batch = (stampT seq 0 batch, true) := stampP_ok fun j h => hno j (by omega) h
    rw [hin, List.take_length] at hR
    rw [hP] at ho
    have ho0 : stampT seq 0 batch = o := ho
    rw [ho0] at hR
    by_cases h1 : 1 ≤ batch.length
    · by_cases h2 : batch.length ≤ 12
      · have hb : stampB seq batch = true := stampB_iff.2 ⟨by rw [hP], h1, h2⟩
        have hc0 : c = true := by rw [← hcb, hb]
        subst hc0
        subst hR
        subst hs
        refine Split.mk fun t h1 => ?_
        cases t
        case true => (exfalso; rw [decide_eq_true_iff] at h1; omega)
        rw [decide_eq_false_iff_not] at h1
        refine Split.mk fun t h2 => ?_
        cases t
        case false => (exfalso; rw [decide_eq_false_iff_not] at h2; omega)
        rw [decide_eq_true_iff] at h2
        refine Split.mk fun t h3 => ?_
        cases t
        case false => (exfalso; rw [decide_eq_false_iff_not] at h3; omega)
        rw [decide_eq_true_iff] at h3
        exact Need.mk ⟨[], _, .same, rfl, rfl⟩ trivial
      · have hb : stampB seq batch = false := by rw [Bool.eq_false_iff]; intro h; exact h2 (stampB_iff.1 h).2.2
        have hc0 : c = false := by rw [← hcb, hb]
        subst hc0
        subst hR
        subst hs
        refine Split.mk fun t h1 => ?_
        cases t
        case true => (exfalso; rw [decide_eq_true_iff] at h1; omega)
        rw [decide_eq_false_iff_not] at h1
        refine Split.mk fun t h2 => ?_
        cases t
        case false => (exfalso; rw [decide_eq_false_iff_not] at h2; omega)
        rw [decide_eq_true_iff] at h2
        refine Split.mk fun t h3 => ?_
        cases t
        case true => (exfalso; rw [decide_eq_true_iff] at h3; omega)
        rw [decide_eq_false_iff_not] at h3
        exact Need.mk ⟨[], _, .same, rfl, rfl⟩ trivial
    · have hb : stampB seq batch = false := by rw [Bool.eq_false_iff]; intro h; exact h1 (stampB_iff.1 h).2.1
      have hc0 : c = false := by rw [← hcb, hb]
      subst hc0
      subst hR
      subst hs
      refine Split.mk fun t h1 => ?_
      cases t
      case true => (exfalso; rw [decide_eq_true_iff] at h1; omega)
      rw [decide_eq_false_iff_not] at h1
      refine Split.mk fun t h2 => ?_
      cases t
      case true => (exfalso; rw [decide_eq_true_iff] at h2; omega)
      rw [decide_eq_false_iff_not] at h2
      exact Need.mk ⟨[], _, .same, rfl, rfl⟩ trivial
theorem spec_l5Stamp (seq : Int) (batch : List Ent) (hs : 0 ≤ seq ∧ seq ≤ 100000) (hx : OkE batch) (hl : batch.length ≤ 1048576) : AFn Tryz.prog 121 [sl (batch.map Ent.enc), av (.int .i64 seq)] [] (.tup [.one (.us 54 ((stampP seq 0 batch).1.map Ent.enc)), .one (vb (stampB seq batch))]) [] :=
  spec_l5Stamp' seq batch hs hx hl _ _ rfl rfl
end Go.Proofs.YtcnongahanmclaaGreat

namespace Go.Proofs.YtcnongahanmclaaGreat
open Go Go.Proofs Ev
set_option maxRecDepth 100000
set_option linter.unusedSimpArgs false
set_option linter.unusedVariables false
def encTO (t : Tre) : List C := [vi t.seq, .us 54 (t.mem.map Ent.enc), .us 66 (t.levels.map encLO), .us 3 (t.snaps.map encI)]
theorem clTO (t : Tre) : ClL (encTO t) := .v (.us (clE _) (.us (clLO _) (.us (clI _) .nil)))
end Go.Proofs.YtcnongahanmclaaGreat

namespace Go.Proofs.YtcnongahanmclaaGreat
open Go Go.Proofs Ev
set_option maxRecDepth 100000
set_option linter.unusedSimpArgs false
set_option linter.unusedVariables false
def encXO (l : List Ent) : List C := [.us 54 (l.map Ent.enc)]
theorem frzX (xs : List (List Ent)) : Frz (.us 29 (xs.map encXO)) (.sl (xs.map encX)) := frz_map fun r _ => .cons (frzE r) .nil
theorem clX (xs : List (List Ent)) : ∀ r ∈ xs.map encXO, ClL r := cl_map (f := encXO) (fun l => .us (clE l) .nil) xs
end Go.Proofs.YtcnongahanmclaaGreat

namespace Go.Proofs.YtcnongahanmclaaGreat
open Go Go.Proofs Ev
set_option maxRecDepth 100000
set_option linter.unusedSimpArgs false
set_option linter.unusedVariables false
set_option maxHeartbeats 4000000
theorem slices_IndexI (xs : List Int) (z : Int) (hl : xs.length ≤ 1048576) : AFn Tryz.prog 94 [sl (xs.map encI), av (.int .i64 z)] [] (.one (vi (idxV xs z))) [] := by
  have hn : (xs.map encI).length = xs.length := List.length_map ..
  refine AFn.introX (E := En 0 md0) (en_ok 0 _) Tryz.func94 rfl rfl rfl fun _ _ => ?_
  let S : Nat → St := fun i => ⟨some (sl (xs.map encI)) :: some (av (.int .i64 z)) :: none :: none :: none :: none :: none :: some (av (.int .i64 (xs.map encI).length)) :: some (av (.int .i64 i)) :: List.replicate 10 none, List.replicate 19 absent⟩
  refine ALoop.mk (fun m s => ∃ i : Nat, i ≤ xs.length ∧ m = xs.length - i ∧ (∀ j, j < i → ∀ h : j < xs.length, xs[j] ≠ z) ∧ s = S i)
    ⟨_, _, Weak.nrm [true, true, false, false, false, false, false, true, true] [] rfl rfl rfl, 0, Nat.zero_le _, rfl, fun j h => absurd h (by omega), rfl⟩ ?_
  rintro m s ⟨i, hi, rfl, hall, hs⟩
  by_cases hin : i = xs.length
  · have hres : RV.one (vi (-1)) = RV.one (vi (idxV xs z)) := by rw [idxV_none fun j hj => hall j (by omega)]
    subst hs
    refine Split.mk fun t h1 => ?_
    cases t
    case true => (exfalso; rw [decide_eq_true_iff] at h1; omega)
    rw [decide_eq_false_iff_not] at h1
    exact Need.mk ⟨[], _, .same, hres, rfl⟩ trivial
  · have hia : i < xs.length := by omega
    by_cases hz : z = xs[i]
    · have hres : RV.one (vi (i : Int)) = RV.one (vi (idxV xs z)) := by rw [idxV_some hia hz.symm hall]
      subst hs
      refine Split.mk fun t h1 => ?_
      cases t
      case false => (exfalso; rw [decide_eq_false_iff_not] at h1; omega)
      rw [decide_eq_true_iff] at h1
      refine Need.mk (by omega) ?_
      refine Row.mk _ (map_get _ xs i (by omega)) ?_
      refine Split.mk fun t h2 => ?_
      cases t
      case false => (exfalso; rw [beq_eq_false_iff_ne] at h2; omega)
      rw [beq_iff_eq] at h2
      exact Need.mk ⟨[], _, .same, hres, rfl⟩ trivial
    · have hok : ∀ h : i < xs.length, xs[i] ≠ z := fun _ h => hz h.symm
      subst hs
      refine Split.mk fun t h1 => ?_
      cases t
      case false => (exfalso; rw [decide_eq_false_iff_not] at h1; omega)
      rw [decide_eq_true_iff] at h1
      refine Need.mk (by omega) ?_
      refine Row.mk _ (map_get _ xs i (by omega)) ?_
      refine Split.mk fun t h2 => ?_
      cases t
      case true => (exfalso; rw [beq_iff_eq] at h2; omega)
      rw [beq_eq_false_iff_ne] at h2
      refine Num.mk _ (wrapS (by omega)) ?_
      exact ⟨_, _, by omega, Weak.nrm [true, true, false, false, false, false, false, true, true] [] rfl rfl rfl, i + 1, by omega, rfl, allS hall hok, rfl⟩
theorem impl_runCopy (r : Rn) (hl : r.ents.length ≤ 1048576) : AFn Tryz.prog 206 [.agg (r.enc.map .c)] [] (.agg (encO r)) [] := by
  refine AFn.introX (E := En 0 md0) (en_ok 0 _) Tryz.func206 rfl rfl rfl fun _ _ => ?_
  refine Need.mk (⟨(plainE _), (lenE _)⟩) ?_
  refine Need.mk (appEq (A' := []) (B' := _) rfl rfl (by simp only [List.length_append, List.length_map, List.length_take, List.length_drop, List.length_cons, List.length_nil, List.length_reverse, List.length_replicate, List.length_set]; omega) (by decide)) ?_
  refine Need.mk (rfl) ?_
  exact Need.mk ⟨[], _, .same, rfl, rfl⟩ trivial
theorem impl_levelsCopy (L : List (List Rn)) (hL : L.length ≤ 1048576) (hl : ∀ l ∈ L, l.length ≤ 1048576 ∧ ∀ r ∈ l, r.ents.length ≤ 1048576) : AFn Tryz.prog 176 [sl (L.map encL)] [] (.one (.us 66 (L.map encLO))) [] := by
  have hn : (L.map encL).length = L.length := List.length_map ..
  refine AFn.introX (E := En 0 md0) (en_ok 0 _) Tryz.func176 rfl rfl rfl fun _ _ => ?_
  have hpos : 0 < Tryz.prog.cellsOf 66 := pos_of tab_ok (t := 66) rfl
  have hpos2 : 0 < Tryz.prog.cellsOf 68 := pos_of tab_ok (t := 68) rfl
  let S : List (List C) → Nat → St := fun R i => ⟨none :: none :: none :: some (.one (.ref 3 0 (.cell 0))) :: none :: none :: none :: none :: none :: some (sl (L.map encL)) :: some (av (.int .i64 (L.map encL).length)) :: some (av (.int .i64 i)) :: List.replicate 21 none, absent :: absent :: absent :: ⟨0, 1, some [.us 66 R]⟩ :: List.replicate 29 absent⟩
  refine ALoop.mk (fun m s => ∃ i : Nat, i ≤ L.length ∧ m = L.length - i ∧ s = S ((L.take i).map encLO) i)
    ⟨_, _, Weak.trans (Weak.nrm [false, false, false, true, false, false, false, false, false, true, true, true] [] rfl rfl rfl) (Weak.nilOwn 3 3 66 rfl rfl hpos), 0, Nat.zero_le _, rfl, rfl⟩ ?_
  rintro m s ⟨i, hi, rfl, hs⟩
  by_cases hin : i = L.length
  · rw [hin, List.take_length] at hs
    subst hs
    refine Split.mk fun t h1 => ?_
    cases t
    case true => (exfalso; rw [decide_eq_true_iff] at h1; omega)
    rw [decide_eq_false_iff_not] at h1
    exact Need.mk ⟨[], _, .same, rfl, rfl⟩ trivial
  · have hia : i < L.length := by omega
    have hx := hl _ (List.getElem_mem hia)
    have hex : ∃ xs, L[i] = xs := ⟨_, rfl⟩
    obtain ⟨xs, hxs⟩ := hex
    have hrow : (L.map encL)[i]? = some (encL xs) := by rw [map_get _ L i hia, hxs]
    have hsn : (L.take (i + 1)).map encLO = (L.take i).map encLO ++ [encLO xs] := by rw [List.take_succ_eq_append_getElem hia, List.map_append, hxs]; rfl
    rw [hxs] at hx
    have hxn : (xs.map Rn.enc).length = xs.length := List.length_map ..
    have hRl : ((L.take i).map encLO).length ≤ 1048576 := by rw [List.length_map, List.length_take]; omega
    have hex : ∃ R, (L.take i).map encLO = R := ⟨_, rfl⟩
    obtain ⟨R, hR⟩ := hex
    rw [hR] at hs hsn hRl
    subst hs
    refine Split.mk fun t h1 => ?_
    cases t
    case false => (exfalso; rw [decide_eq_false_iff_not] at h1; omega)
    rw [decide_eq_true_iff] at h1
    refine Need.mk (by omega) ?_
    refine Row.mk _ hrow ?_
    let S1 : List (List C) → Nat → St := fun Z q => ⟨none :: none :: none :: some (.one (.ref 3 0 (.cell 0))) :: none :: none :: some (.one (.ref 6 0 (.cell 0))) :: none :: none :: some (sl (L.map encL)) :: some (av (.int .i64 (L.map encL).length)) :: some (av (.int .i64 i)) :: none :: none :: none :: some (sl (xs.map Rn.enc)) :: some (av (.int .i64 (xs.map Rn.enc).length)) :: some (av (.int .i64 q)) :: List.replicate 15 none, absent :: absent :: absent :: ⟨0, 1, some [.us 66 R]⟩ :: absent :: absent :: ⟨0, 1, some [.us 68 Z]⟩ :: List.replicate 26 absent⟩
    refine ALoop.mk (fun m s => ∃ q : Nat, q ≤ xs.length ∧ m = xs.length - q ∧ s = S1 ((xs.take q).map encO) q)
      ⟨_, _, Weak.trans (Weak.nrm [false, false, false, true, false, false, true, false, false, true, true, true, false, false, false, true, true, true] [(3, 3)] rfl rfl rfl) (Weak.nilOwn 6 6 68 rfl rfl hpos2), 0, Nat.zero_le _, rfl, rfl⟩ ?_
    rintro m s ⟨q, hq, hm2, hs⟩
    by_cases hqn : q = xs.length
    · rw [hqn, List.take_length] at hs
      subst hs
      refine Split.mk fun t h1 => ?_
      cases t
      case true => (exfalso; rw [decide_eq_true_iff] at h1; omega)
      rw [decide_eq_false_iff_not] at h1
      refine Need.mk (appEq (A' := _) (B' := [[.us 68 (List.map encO xs)]]) rfl rfl (by simp only [List.length_append, List.length_map, List.length_take, List.length_drop, List.length_cons, List.length_nil, List.length_reverse, List.length_replicate, List.length_set]; omega) (by decide)) ?_
      refine Num.mk _ (wrapS (by omega)) ?_
      exact ⟨_, _, by omega, Weak.nrm [false, false, false, true, false, false, false, false, false, true, true, true] [(30, 3)] rfl rfl rfl, i + 1, by omega, rfl, Eq.trans (b := S (R ++ [encLO xs]) (i + 1)) rfl (by rw [hsn])⟩
    · have hqa : q < xs.length := by omega
      have hrc := impl_runCopy xs[q] (hx.2 _ (List.getElem_mem hqa))
      have hsn2 : (xs.take (q + 1)).map encO = (xs.take q).map encO ++ [encO xs[q]] := by rw [List.take_succ_eq_append_getElem hqa, List.map_append]; rfl
      have hZl : ((xs.take q).map encO).length ≤ 1048576 := by rw [List.length_map, List.length_take]; omega
      have hex : ∃ Z, (xs.take q).map encO = Z := ⟨_, rfl⟩
      obtain ⟨Z, hZ⟩ := hex
      rw [hZ] at hs hsn2 hZl
      subst hs
      refine Split.mk fun t h1 => ?_
      cases t
      case false => (exfalso; rw [decide_eq_false_iff_not] at h1; omega)
      rw [decide_eq_true_iff] at h1
      refine Need.mk (by omega) ?_
      refine Row.mk _ (map_get _ xs q (by omega)) ?_
      refine ACall.mk _ _ hrc ?_
      refine Need.mk (appEq (A' := _) (B' := [[.us 54 (List.map Ent.enc xs[q].ents), vi xs[q].mask]]) rfl rfl (by simp only [List.length_append, List.length_map, List.length_take, List.length_drop, List.length_cons, List.length_nil, List.length_reverse, List.length_replicate, List.length_set]; omega) (by decide)) ?_
      refine Num.mk _ (wrapS (by omega)) ?_
      exact ⟨_, _, by omega, Weak.nrm [false, false, false, true, false, false, true, false, false, true, true, true, false, false, false, true, true, true] [(3, 3), (25, 6)] rfl rfl rfl, q + 1, by omega, rfl, Eq.trans (b := S1 (Z ++ [encO xs[q]]) (q + 1)) rfl (by rw [hsn2])⟩
theorem spec_l5CopyLevels (L : List (List Rn)) (hL : L.length ≤ 1048576) (hl : ∀ l ∈ L, l.length ≤ 1048576 ∧ ∀ r ∈ l, r.ents.length ≤ 1048576) : AFn Tryz.prog 123 [sl (L.map encL)] [] (.one (.us 66 (L.map encLO))) [] := by
  have hn : (L.map encL).length = L.length := List.length_map ..
  refine AFn.introX (E := En 0 md0) (en_ok 0 _) Tryz.func123 rfl rfl rfl fun _ _ => ?_
  let S : List (List C) → Nat → St := fun R i => ⟨some (sl (L.map encL)) :: none :: none :: some (.one (.ref 3 0 (.cell 0))) :: some (av (.int .i64 i)) :: List.replicate 46 none, absent :: absent :: absent :: ⟨0, 1, some [.us 66 R]⟩ :: List.replicate 47 absent⟩
  refine ALoop.mk (fun m s => ∃ i : Nat, i ≤ L.length ∧ m = L.length - i ∧ s = S ((L.take i).map encLO) i)
    ⟨_, _, Weak.trans (Weak.nrm [true, false, false, true, true] [(7, 3)] rfl rfl rfl) Weak.one, 0, Nat.zero_le _, rfl, rfl⟩ ?_
  rintro m s ⟨i, hi, rfl, hs⟩
  by_cases hin : i = L.length
  · rw [hin, List.take_length] at hs
    subst hs
    refine Split.mk fun t h1 => ?_
    cases t
    case true => (exfalso; rw [decide_eq_true_iff] at h1; omega)
    rw [decide_eq_false_iff_not] at h1
    exact Need.mk ⟨[], _, .same, rfl, rfl⟩ trivial
  · have hia : i < L.length := by omega
    have hx := hl _ (List.getElem_mem hia)
    have hex : ∃ xs, L[i] = xs := ⟨_, rfl⟩
    obtain ⟨xs, hxs⟩ := hex
    have hrow : (L.map encL)[i]? = some (encL xs) := by rw [map_get _ L i hia, hxs]
    have hsn : (L.take (i + 1)).map encLO = (L.take i).map encLO ++ [encLO xs] := by rw [List.take_succ_eq_append_getElem hia, List.map_append, hxs]; rfl
    rw [hxs] at hx
    have hxn : (xs.map Rn.enc).length = xs.length := List.length_map ..
    have hRl : ((L.take i).map encLO).length ≤ 1048576 := by rw [List.length_map, List.length_take]; omega
    have hex : ∃ R, (L.take i).map encLO = R := ⟨_, rfl⟩
    obtain ⟨R, hR⟩ := hex
    rw [hR] at hs hsn hRl
    subst hs
    refine Split.mk fun t h1 => ?_
    cases t
    case false => (exfalso; rw [decide_eq_false_iff_not] at h1; omega)
    rw [decide_eq_true_iff] at h1
    let S1 : List (List C) → Nat → St := fun Z q => ⟨some (sl (L.map encL)) :: none :: none :: some (.one (.ref 3 0 (.cell 0))) :: some (av (.int .i64 i)) :: some (.one (.ref 5 0 (.cell 0))) :: some (av (.int .i64 q)) :: List.replicate 44 none, absent :: absent :: absent :: ⟨0, 1, some [.us 66 R]⟩ :: absent :: ⟨0, 1, some [.us 68 Z]⟩ :: List.replicate 45 absent⟩
    refine ALoop.mk (fun m s => ∃ q : Nat, q ≤ xs.length ∧ m = xs.length - q ∧ s = S1 ((xs.take q).map encO) q)
      ⟨_, _, Weak.trans (Weak.nrm [true, false, false, true, true, true, true] [(3, 3), (14, 5)] rfl rfl rfl) Weak.one, 0, Nat.zero_le _, rfl, rfl⟩ ?_
    rintro m s ⟨q, hq, hm2, hs⟩
    by_cases hqn : q = xs.length
    · rw [hqn, List.take_length] at hs
      subst hs
      refine Need.mk (by omega) ?_
      refine Row.mk _ hrow ?_
      refine Split.mk fun t h1 => ?_
      cases t
      case true => (exfalso; rw [decide_eq_true_iff] at h1; omega)
      rw [decide_eq_false_iff_not] at h1
      refine Need.mk (appEq (A' := _) (B' := [[.us 68 (List.map encO xs)]]) rfl rfl (by simp only [List.length_append, List.length_map, List.length_take, List.length_drop, List.length_cons, List.length_nil, List.length_reverse, List.length_replicate, List.length_set]; omega) (by decide)) ?_
      refine Num.mk _ (wrapS (by omega)) ?_
      exact ⟨_, _, by omega, Weak.nrm [true, false, false, true, true] [(49, 3)] rfl rfl rfl, i + 1, by omega, rfl, Eq.trans (b := S (R ++ [encLO xs]) (i + 1)) rfl (by rw [hsn])⟩
    · have hqa : q < xs.length := by omega
      have hel := hx.2 _ (List.getElem_mem hqa)
      have hsn2 : (xs.take (q + 1)).map encO = (xs.take q).map encO ++ [encO xs[q]] := by rw [List.take_succ_eq_append_getElem hqa, List.map_append]; rfl
      have hZl : ((xs.take q).map encO).length ≤ 1048576 := by rw [List.length_map, List.length_take]; omega
      have hex : ∃ Z, (xs.take q).map encO = Z := ⟨_, rfl⟩
      obtain ⟨Z, hZ⟩ := hex
      rw [hZ] at hs hsn2 hZl
      subst hs
      refine Need.mk (by omega) ?_
      refine Row.mk _ hrow ?_
      refine Split.mk fun t h1 => ?_
      cases t
      case false => (exfalso; rw [decide_eq_false_iff_not] at h1; omega)
      rw [decide_eq_true_iff] at h1
      refine Need.mk (by omega) ?_
      refine Row.mk _ hrow ?_
      refine Need.mk (by omega) ?_
      refine Row.mk _ (map_get _ xs q (by omega)) ?_
      refine Need.mk (⟨(plainE _), (lenE _)⟩) ?_
      refine Need.mk (appEq (A' := []) (B' := _) rfl rfl (by simp only [List.length_append, List.length_map, List.length_take, List.length_drop, List.length_cons, List.length_nil, List.length_reverse, List.length_replicate, List.length_set]; omega) (by decide)) ?_
      refine Need.mk (by omega) ?_
      refine Row.mk _ hrow ?_
      refine Need.mk (by omega) ?_
      refine Row.mk _ (map_get _ xs q (by omega)) ?_
      refine Need.mk (appEq (A' := _) (B' := [[.us 54 ([] ++ (List.map Ent.enc xs[q].ents)), vi xs[q].mask]]) rfl rfl (by simp only [List.length_append, List.length_map, List.length_take, List.length_drop, List.length_cons, List.length_nil, List.length_reverse, List.length_replicate, List.length_set]; omega) (by decide)) ?_
      refine Need.mk (rfl) ?_
      refine Num.mk _ (wrapS (by omega)) ?_
      exact ⟨_, _, by omega, Weak.nrm [true, false, false, true, true, true, true] [(3, 3), (45, 5)] rfl rfl rfl, q + 1, by omega, rfl, Eq.trans (b := S1 (Z ++ [encO xs[q]]) (q + 1)) rfl (by rw [hsn2])⟩
end Go.Proofs.YtcnongahanmclaaGreat
