/-
  Contracts of functions, part 1.
-/
import Derived.Test.YtpcimdalgpfkaaaGreatDoorEvC
import Derived.Test.YtpcimdalgpfkaaaGreatDoorProg
import Derived.KernelRfl
set_option linter.unusedVariables false
set_option linter.unusedSimpArgs false
namespace Go.Proofs.YtpcimdalgpfkaaaGreatDoor
open Go Go.Proofs Ev
def tab : List (TypeId × TI) := [
 (2, ⟨1, 8, false, .int .i64, [.int .i64 0], [none], none⟩),
 (3, ⟨1, 8, false, .int .i64, [.int .i64 0], [none], none⟩),
 (4, ⟨1, 1, false, .bool, [.bool false], [none], none⟩),
 (5, ⟨1, 1, false, .int .u8, [.int .u8 0], [none], none⟩),
 (9, ⟨1, 16, false, .str, [.string ⟨#[]⟩], [none], none⟩),
 (12, ⟨1, 8, false, .int .u64, [.int .u64 0], [none], none⟩),
 (20, ⟨1, 16, false, .other, [.nilIface], [none], none⟩),
 (21, ⟨1, 4, false, .int .i32, [.int .i32 0], [none], none⟩),
 (22, ⟨1, 24, false, .slice 134, [nilV], [some 134], none⟩),
 (23, ⟨1, 24, false, .slice 136, [nilV], [some 136], none⟩),
 (24, ⟨1, 24, false, .slice 3, [nilV], [some 3], none⟩),
 (25, ⟨4, 80, true, .struct [(0, 3), (1, 22), (2, 23), (3, 24)], [.int .i64 0, nilV, nilV, nilV], [none, some 134, some 136, some 3], none⟩),
 (26, ⟨4, 80, true, .struct [(0, 3), (1, 22), (2, 23), (3, 24)], [.int .i64 0, nilV, nilV, nilV], [none, some 134, some 136, some 3], none⟩),
 (27, ⟨4, 56, true, .struct [(0, 9), (1, 3), (2, 23), (3, 3)], [.string ⟨#[]⟩, .int .i64 0, nilV, .int .i64 0], [none, none, some 136, none], none⟩),
 (28, ⟨4, 56, true, .struct [(0, 9), (1, 3), (2, 23), (3, 3)], [.string ⟨#[]⟩, .int .i64 0, nilV, .int .i64 0], [none, none, some 136, none], none⟩),
 (29, ⟨9, 144, true, .struct [(0, 4), (1, 26), (5, 28)], [.bool false, .int .i64 0, nilV, nilV, nilV, .string ⟨#[]⟩, .int .i64 0, nilV, .int .i64 0], [none, none, some 134, some 136, some 3, none, none, some 136, none], none⟩),
 (30, ⟨9, 144, true, .struct [(0, 4), (1, 26), (5, 28)], [.bool false, .int .i64 0, nilV, nilV, nilV, .string ⟨#[]⟩, .int .i64 0, nilV, .int .i64 0], [none, none, some 134, some 136, some 3, none, none, some 136, none], none⟩),
 (31, ⟨1, 8, false, .other, [.nilFunc], [none], none⟩),
 (32, ⟨1, 24, false, .slice 83, [nilV], [some 83], none⟩),
 (33, ⟨1, 24, false, .slice 110, [nilV], [some 110], none⟩),
 (34, ⟨4, 80, true, .struct [(0, 3), (1, 32), (2, 33), (3, 24)], [.int .i64 0, nilV, nilV, nilV], [none, some 83, some 110, some 3], none⟩),
 (35, ⟨4, 80, true, .struct [(0, 3), (1, 32), (2, 33), (3, 24)], [.int .i64 0, nilV, nilV, nilV], [none, some 83, some 110, some 3], none⟩),
 (36, ⟨4, 56, true, .struct [(0, 9), (1, 3), (2, 33), (3, 3)], [.string ⟨#[]⟩, .int .i64 0, nilV, .int .i64 0], [none, none, some 110, none], none⟩),
 (37, ⟨4, 56, true, .struct [(0, 9), (1, 3), (2, 33), (3, 3)], [.string ⟨#[]⟩, .int .i64 0, nilV, .int .i64 0], [none, none, some 110, none], none⟩),
 (38, ⟨9, 144, true, .struct [(0, 4), (1, 35), (5, 37)], [.bool false, .int .i64 0, nilV, nilV, nilV, .string ⟨#[]⟩, .int .i64 0, nilV, .int .i64 0], [none, none, some 83, some 110, some 3, none, none, some 110, none], none⟩),
 (39, ⟨9, 144, true, .struct [(0, 4), (1, 35), (5, 37)], [.bool false, .int .i64 0, nilV, nilV, nilV, .string ⟨#[]⟩, .int .i64 0, nilV, .int .i64 0], [none, none, some 83, some 110, some 3, none, none, some 110, none], none⟩),
 (40, ⟨1, 8, false, .other, [.nilFunc], [none], none⟩),
 (41, ⟨1, 8, false, .other, [.nilFunc], [none], none⟩),
 (42, ⟨1, 8, false, .other, [.nilFunc], [none], none⟩),
 (43, ⟨1, 8, false, .other, [.nilFunc], [none], none⟩),
 (44, ⟨1, 8, false, .other, [.nilFunc], [none], none⟩),
 (45, ⟨1, 24, false, .slice 5, [nilV], [some 5], none⟩),
 (46, ⟨1, 8, false, .other, [.nilFunc], [none], none⟩),
 (47, ⟨1, 8, false, .other, [.nilFunc], [none], none⟩),
 (48, ⟨1, 8, false, .other, [.nilFunc], [none], none⟩),
 (49, ⟨1, 8, false, .other, [.nilFunc], [none], none⟩),
 (51, ⟨1, 8, false, .other, [.nilFunc], [none], none⟩),
 (52, ⟨1, 8, false, .other, [.nilFunc], [none], none⟩),
 (53, ⟨1, 8, false, .other, [.nilFunc], [none], none⟩),
 (54, ⟨1, 8, false, .other, [.nilFunc], [none], none⟩),
 (55, ⟨1, 8, false, .other, [.nilFunc], [none], none⟩),
 (56, ⟨1, 8, false, .other, [.nilFunc], [none], none⟩),
 (57, ⟨1, 8, false, .other, [.nilFunc], [none], none⟩),
 (58, ⟨1, 8, false, .other, [.nilFunc], [none], none⟩),
 (59, ⟨1, 8, false, .other, [.nilFunc], [none], none⟩),
 (61, ⟨1, 8, false, .other, [.nilFunc], [none], none⟩),
 (62, ⟨1, 8, false, .other, [.nilFunc], [none], none⟩),
 (63, ⟨1, 8, false, .other, [.nilFunc], [none], none⟩),
 (64, ⟨1, 8, false, .other, [.nilFunc], [none], none⟩),
 (65, ⟨1, 8, false, .other, [.nilFunc], [none], none⟩),
 (66, ⟨1, 8, false, .other, [.nilFunc], [none], none⟩),
 (67, ⟨1, 8, false, .ptr, [.pointer none], [none], none⟩),
 (68, ⟨1, 8, false, .other, [.nilFunc], [none], none⟩),
 (69, ⟨1, 8, false, .other, [.nilFunc], [none], none⟩),
 (70, ⟨1, 8, false, .other, [.nilFunc], [none], none⟩),
 (71, ⟨1, 8, false, .other, [.nilFunc], [none], none⟩),
 (72, ⟨1, 8, false, .other, [.nilFunc], [none], none⟩),
 (73, ⟨1, 8, false, .other, [.nilFunc], [none], none⟩),
 (74, ⟨1, 8, false, .other, [.nilFunc], [none], none⟩),
 (75, ⟨1, 8, false, .other, [.nilFunc], [none], none⟩),
 (76, ⟨1, 24, false, .slice 32, [nilV], [some 32], none⟩),
 (78, ⟨1, 8, false, .other, [.nilFunc], [none], none⟩),
 (80, ⟨1, 8, false, .other, [.nilFunc], [none], none⟩),
 (81, ⟨1, 8, false, .other, [.nilFunc], [none], none⟩),
 (82, ⟨5, 56, true, .struct [(0, 9), (1, 3), (2, 3), (3, 9), (4, 3)], [.string ⟨#[]⟩, .int .i64 0, .int .i64 0, .string ⟨#[]⟩, .int .i64 0], [none, none, none, none, none], some [.str, .int .i64, .int .i64, .str, .int .i64]⟩),
 (83, ⟨5, 56, true, .struct [(0, 9), (1, 3), (2, 3), (3, 9), (4, 3)], [.string ⟨#[]⟩, .int .i64 0, .int .i64 0, .string ⟨#[]⟩, .int .i64 0], [none, none, none, none, none], some [.str, .int .i64, .int .i64, .str, .int .i64]⟩),
 (84, ⟨1, 8, false, .other, [.nilFunc], [none], none⟩),
 (85, ⟨1, 8, false, .other, [.nilFunc], [none], none⟩),
 (86, ⟨1, 8, false, .other, [.nilFunc], [none], none⟩),
 (87, ⟨1, 8, false, .other, [.nilFunc], [none], none⟩),
 (88, ⟨1, 8, false, .other, [.nilFunc], [none], none⟩),
 (89, ⟨1, 8, false, .other, [.nilFunc], [none], none⟩),
 (90, ⟨1, 8, false, .other, [.nilFunc], [none], none⟩),
 (91, ⟨1, 8, false, .other, [.nilFunc], [none], none⟩),
 (92, ⟨1, 8, false, .other, [.nilFunc], [none], none⟩),
 (93, ⟨1, 8, false, .other, [.nilFunc], [none], none⟩),
 (94, ⟨1, 8, false, .other, [.nilFunc], [none], none⟩),
 (95, ⟨1, 8, false, .other, [.nilFunc], [none], none⟩),
 (96, ⟨1, 8, false, .other, [.nilFunc], [none], none⟩),
 (97, ⟨2, 32, true, .struct [(0, 45), (1, 3)], [nilV, .int .i64 0], [some 5, none], none⟩),
 (98, ⟨2, 32, true, .struct [(0, 45), (1, 3)], [nilV, .int .i64 0], [some 5, none], none⟩),
 (99, ⟨1, 8, false, .ptr, [.pointer none], [none], none⟩),
 (100, ⟨2, 32, true, .struct [(0, 99), (1, 45)], [.pointer none, nilV], [none, some 5], none⟩),
 (101, ⟨2, 32, true, .struct [(0, 99), (1, 45)], [.pointer none, nilV], [none, some 5], none⟩),
 (102, ⟨1, 16, false, .other, [.nilIface], [none], none⟩),
 (103, ⟨1, 16, false, .other, [.nilIface], [none], none⟩),
 (105, ⟨1, 8, false, .other, [.nilFunc], [none], none⟩),
 (106, ⟨1, 8, false, .other, [.nilFunc], [none], none⟩),
 (107, ⟨1, 8, false, .other, [.nilFunc], [none], none⟩),
 (108, ⟨1, 8, false, .other, [.nilFunc], [none], none⟩),
 (109, ⟨1, 8, false, .other, [.nilFunc], [none], none⟩),
 (110, ⟨1, 24, false, .slice 113, [nilV], [some 113], none⟩),
 (111, ⟨1, 8, false, .other, [.nilFunc], [none], none⟩),
 (112, ⟨2, 32, true, .struct [(0, 32), (1, 3)], [nilV, .int .i64 0], [some 83, none], none⟩),
 (113, ⟨2, 32, true, .struct [(0, 32), (1, 3)], [nilV, .int .i64 0], [some 83, none], none⟩),
 (114, ⟨1, 8, false, .other, [.nilFunc], [none], none⟩),
 (115, ⟨1, 8, false, .other, [.nilFunc], [none], none⟩),
 (116, ⟨1, 8, false, .other, [.nilFunc], [none], none⟩),
 (117, ⟨1, 8, false, .other, [.nilFunc], [none], none⟩),
 (118, ⟨1, 8, false, .other, [.nilFunc], [none], none⟩),
 (119, ⟨1, 8, false, .other, [.nilFunc], [none], none⟩),
 (120, ⟨1, 8, false, .other, [.nilFunc], [none], none⟩),
 (121, ⟨1, 8, false, .other, [.nilFunc], [none], none⟩),
 (122, ⟨2, 24, true, .struct [(0, 9), (1, 3)], [.string ⟨#[]⟩, .int .i64 0], [none, none], some [.str, .int .i64]⟩),
 (123, ⟨2, 24, true, .struct [(0, 9), (1, 3)], [.string ⟨#[]⟩, .int .i64 0], [none, none], some [.str, .int .i64]⟩),
 (125, ⟨1, 8, false, .other, [.nilFunc], [none], none⟩),
 (126, ⟨1, 8, false, .other, [.nilFunc], [none], none⟩),
 (127, ⟨1, 8, false, .other, [.nilFunc], [none], none⟩),
 (128, ⟨1, 8, false, .other, [.nilFunc], [none], none⟩),
 (129, ⟨1, 8, false, .other, [.nilFunc], [none], none⟩),
 (130, ⟨1, 8, false, .other, [.nilFunc], [none], none⟩),
 (131, ⟨1, 8, false, .other, [.nilFunc], [none], none⟩),
 (132, ⟨1, 8, false, .other, [.nilFunc], [none], none⟩),
 (133, ⟨1, 8, false, .other, [.nilFunc], [none], none⟩),
 (134, ⟨5, 56, true, .struct [(0, 9), (1, 3), (2, 3), (3, 9), (4, 3)], [.string ⟨#[]⟩, .int .i64 0, .int .i64 0, .string ⟨#[]⟩, .int .i64 0], [none, none, none, none, none], some [.str, .int .i64, .int .i64, .str, .int .i64]⟩),
 (135, ⟨1, 8, false, .other, [.nilFunc], [none], none⟩),
 (136, ⟨1, 24, false, .slice 173, [nilV], [some 173], none⟩),
 (137, ⟨1, 8, false, .other, [.nilFunc], [none], none⟩),
 (138, ⟨1, 8, false, .other, [.nilFunc], [none], none⟩),
 (139, ⟨1, 8, false, .other, [.nilFunc], [none], none⟩),
 (140, ⟨1, 8, false, .other, [.nilFunc], [none], none⟩),
 (141, ⟨1, 8, false, .other, [.nilFunc], [none], none⟩),
 (142, ⟨1, 8, false, .ptr, [.pointer none], [none], none⟩),
 (143, ⟨1, 8, false, .other, [.nilFunc], [none], none⟩),
 (144, ⟨1, 8, false, .other, [.nilFunc], [none], none⟩),
 (145, ⟨1, 8, false, .other, [.nilFunc], [none], none⟩),
 (146, ⟨1, 8, false, .other, [.nilFunc], [none], none⟩),
 (147, ⟨1, 8, false, .other, [.nilFunc], [none], none⟩),
 (148, ⟨1, 8, false, .map 9 3, [.map none], [none], none⟩),
 (149, ⟨1, 8, false, .ptr, [.pointer none], [none], none⟩),
 (151, ⟨1, 8, false, .other, [.nilFunc], [none], none⟩),
 (153, ⟨1, 8, false, .other, [.nilFunc], [none], none⟩),
 (155, ⟨1, 8, false, .other, [.nilFunc], [none], none⟩),
 (156, ⟨1, 8, false, .other, [.nilFunc], [none], none⟩),
 (157, ⟨1, 8, false, .other, [.nilFunc], [none], none⟩),
 (158, ⟨1, 8, false, .other, [.nilFunc], [none], none⟩),
 (159, ⟨1, 8, false, .other, [.nilFunc], [none], none⟩),
 (161, ⟨1, 8, false, .other, [.nilFunc], [none], none⟩),
 (162, ⟨1, 8, false, .other, [.nilFunc], [none], none⟩),
 (163, ⟨1, 8, false, .other, [.nilFunc], [none], none⟩),
 (164, ⟨1, 8, false, .other, [.nilFunc], [none], none⟩),
 (165, ⟨1, 8, false, .other, [.nilFunc], [none], none⟩),
 (166, ⟨1, 8, false, .other, [.nilFunc], [none], none⟩),
 (167, ⟨1, 8, false, .other, [.nilFunc], [none], none⟩),
 (168, ⟨1, 8, false, .other, [.nilFunc], [none], none⟩),
 (169, ⟨1, 24, false, .slice 9, [nilV], [some 9], none⟩),
 (170, ⟨1, 8, false, .other, [.nilFunc], [none], none⟩),
 (171, ⟨1, 8, false, .other, [.nilFunc], [none], none⟩),
 (172, ⟨2, 32, true, .struct [(0, 22), (1, 3)], [nilV, .int .i64 0], [some 134, none], none⟩),
 (173, ⟨2, 32, true, .struct [(0, 22), (1, 3)], [nilV, .int .i64 0], [some 134, none], none⟩),
 (174, ⟨1, 8, false, .other, [.nilFunc], [none], none⟩),
 (175, ⟨1, 8, false, .other, [.nilFunc], [none], none⟩),
 (176, ⟨1, 8, false, .other, [.pointer none], [none], none⟩),
 (177, ⟨1, 8, false, .other, [.nilFunc], [none], none⟩),
 (179, ⟨1, 8, false, .other, [.nilFunc], [none], none⟩),
 (180, ⟨1, 8, false, .other, [.nilFunc], [none], none⟩),
 (181, ⟨1, 8, false, .other, [.nilFunc], [none], none⟩),
 (183, ⟨1, 8, false, .other, [.nilFunc], [none], none⟩),
 (184, ⟨1, 8, false, .other, [.nilFunc], [none], none⟩),
 (185, ⟨4, 32, true, .array 4 3, [.int .i64 0, .int .i64 0, .int .i64 0, .int .i64 0], [none, none, none, none], none⟩),
 (186, ⟨1, 8, false, .other, [.nilFunc], [none], none⟩),
 (187, ⟨1, 8, false, .other, [.nilFunc], [none], none⟩),
 (188, ⟨1, 8, false, .other, [.nilFunc], [none], none⟩),
 (189, ⟨1, 8, false, .other, [.nilFunc], [none], none⟩),
 (190, ⟨1, 8, false, .other, [.nilFunc], [none], none⟩),
 (191, ⟨1, 8, false, .other, [.nilFunc], [none], none⟩),
 (192, ⟨1, 8, false, .other, [.nilFunc], [none], none⟩),
 (193, ⟨1, 8, false, .other, [.nilFunc], [none], none⟩),
 (194, ⟨1, 8, false, .other, [.nilFunc], [none], none⟩),
 (195, ⟨1, 8, false, .other, [.nilFunc], [none], none⟩),
 (197, ⟨1, 8, false, .other, [.nilFunc], [none], none⟩),
 (198, ⟨1, 8, false, .other, [.nilFunc], [none], none⟩),
 (200, ⟨1, 8, false, .other, [.nilFunc], [none], none⟩),
 (201, ⟨1, 8, false, .other, [.nilFunc], [none], none⟩),
 (202, ⟨1, 8, false, .other, [.nilFunc], [none], none⟩),
 (203, ⟨1, 8, false, .other, [.nilFunc], [none], none⟩),
 (204, ⟨1, 8, false, .int .u64, [.int .u64 0], [none], none⟩),
 (205, ⟨1, 8, false, .other, [.nilFunc], [none], none⟩),
 (206, ⟨1, 8, false, .other, [.nilFunc], [none], none⟩),
 (207, ⟨1, 8, false, .other, [.nilFunc], [none], none⟩),
 (208, ⟨1, 8, false, .other, [.nilFunc], [none], none⟩),
 (209, ⟨24, 24, true, .array 24 5, [.int .u8 0, .int .u8 0, .int .u8 0, .int .u8 0, .int .u8 0, .int .u8 0, .int .u8 0, .int .u8 0, .int .u8 0, .int .u8 0, .int .u8 0, .int .u8 0, .int .u8 0, .int .u8 0, .int .u8 0, .int .u8 0, .int .u8 0, .int .u8 0, .int .u8 0, .int .u8 0, .int .u8 0, .int .u8 0, .int .u8 0, .int .u8 0], [none, none, none, none, none, none, none, none, none, none, none, none, none, none, none, none, none, none, none, none, none, none, none, none], none⟩),
 (210, ⟨1, 8, false, .int .u64, [.int .u64 0], [none], none⟩),
 (211, ⟨1, 8, false, .other, [.nilFunc], [none], none⟩),
 (212, ⟨1, 8, false, .other, [.nilFunc], [none], none⟩),
 (214, ⟨1, 8, false, .other, [.nilFunc], [none], none⟩),
 (215, ⟨1, 8, false, .int .i64, [.int .i64 0], [none], none⟩),
 (217, ⟨1, 8, false, .other, [.nilFunc], [none], none⟩),
 (218, ⟨1, 8, false, .ptr, [.pointer none], [none], none⟩),
 (219, ⟨1, 8, false, .other, [.nilFunc], [none], none⟩),
 (220, ⟨1, 8, false, .other, [.nilFunc], [none], none⟩),
 (221, ⟨1, 8, false, .other, [.nilFunc], [none], none⟩),
 (222, ⟨1, 8, false, .other, [.nilFunc], [none], none⟩),
 (224, ⟨1, 8, false, .other, [.nilFunc], [none], none⟩),
 (226, ⟨1, 8, false, .other, [.nilFunc], [none], none⟩),
 (227, ⟨1, 8, false, .other, [.nilFunc], [none], none⟩),
 (228, ⟨1, 8, false, .other, [.nilFunc], [none], none⟩),
 (229, ⟨1, 8, false, .other, [.nilFunc], [none], none⟩),
 (230, ⟨1, 8, false, .other, [.nilFunc], [none], none⟩),
 (231, ⟨1, 8, false, .other, [.nilFunc], [none], none⟩),
 (232, ⟨1, 8, false, .other, [.nilFunc], [none], none⟩),
 (233, ⟨1, 8, false, .other, [.nilFunc], [none], none⟩),
 (234, ⟨1, 8, false, .other, [.nilFunc], [none], none⟩),
 (235, ⟨20, 160, true, .array 20 210, [.int .u64 0, .int .u64 0, .int .u64 0, .int .u64 0, .int .u64 0, .int .u64 0, .int .u64 0, .int .u64 0, .int .u64 0, .int .u64 0, .int .u64 0, .int .u64 0, .int .u64 0, .int .u64 0, .int .u64 0, .int .u64 0, .int .u64 0, .int .u64 0, .int .u64 0, .int .u64 0], [none, none, none, none, none, none, none, none, none, none, none, none, none, none, none, none, none, none, none, none], none⟩),
 (236, ⟨1, 4, false, .int .u32, [.int .u32 0], [none], none⟩),
 (237, ⟨65, 65, true, .array 65 5, [.int .u8 0, .int .u8 0, .int .u8 0, .int .u8 0, .int .u8 0, .int .u8 0, .int .u8 0, .int .u8 0, .int .u8 0, .int .u8 0, .int .u8 0, .int .u8 0, .int .u8 0, .int .u8 0, .int .u8 0, .int .u8 0, .int .u8 0, .int .u8 0, .int .u8 0, .int .u8 0, .int .u8 0, .int .u8 0, .int .u8 0, .int .u8 0, .int .u8 0, .int .u8 0, .int .u8 0, .int .u8 0, .int .u8 0, .int .u8 0, .int .u8 0, .int .u8 0, .int .u8 0, .int .u8 0, .int .u8 0, .int .u8 0, .int .u8 0, .int .u8 0, .int .u8 0, .int .u8 0, .int .u8 0, .int .u8 0, .int .u8 0, .int .u8 0, .int .u8 0, .int .u8 0, .int .u8 0, .int .u8 0, .int .u8 0, .int .u8 0, .int .u8 0, .int .u8 0, .int .u8 0, .int .u8 0, .int .u8 0, .int .u8 0, .int .u8 0, .int .u8 0, .int .u8 0, .int .u8 0, .int .u8 0, .int .u8 0, .int .u8 0, .int .u8 0, .int .u8 0], [none, none, none, none, none, none, none, none, none, none, none, none, none, none, none, none, none, none, none, none, none, none, none, none, none, none, none, none, none, none, none, none, none, none, none, none, none, none, none, none, none, none, none, none, none, none, none, none, none, none, none, none, none, none, none, none, none, none, none, none, none, none, none, none, none], none⟩),
 (238, ⟨1, 8, false, .other, [.nilFunc], [none], none⟩),
 (240, ⟨1, 8, false, .other, [.nilFunc], [none], none⟩),
 (241, ⟨1, 8, false, .other, [.nilFunc], [none], none⟩),
 (242, ⟨3, 48, true, .struct [(0, 9), (1, 9), (2, 103)], [.string ⟨#[]⟩, .string ⟨#[]⟩, .nilIface], [none, none, none], none⟩),
 (243, ⟨3, 48, true, .struct [(0, 9), (1, 9), (2, 103)], [.string ⟨#[]⟩, .string ⟨#[]⟩, .nilIface], [none, none, none], none⟩),
 (244, ⟨1, 8, false, .other, [.nilFunc], [none], none⟩),
 (245, ⟨1, 8, false, .other, [.nilFunc], [none], none⟩),
 (246, ⟨1, 8, false, .other, [.nilFunc], [none], none⟩),
 (247, ⟨1, 8, false, .other, [.nilFunc], [none], none⟩),
 (248, ⟨1, 8, false, .other, [.nilFunc], [none], none⟩),
 (249, ⟨1, 8, false, .ptr, [.pointer none], [none], none⟩),
 (250, ⟨1, 16, true, .struct [(0, 9)], [.string ⟨#[]⟩], [none], some [.str]⟩),
 (251, ⟨1, 16, true, .struct [(0, 9)], [.string ⟨#[]⟩], [none], some [.str]⟩),
 (252, ⟨32, 32, true, .array 32 5, [.int .u8 0, .int .u8 0, .int .u8 0, .int .u8 0, .int .u8 0, .int .u8 0, .int .u8 0, .int .u8 0, .int .u8 0, .int .u8 0, .int .u8 0, .int .u8 0, .int .u8 0, .int .u8 0, .int .u8 0, .int .u8 0, .int .u8 0, .int .u8 0, .int .u8 0, .int .u8 0, .int .u8 0, .int .u8 0, .int .u8 0, .int .u8 0, .int .u8 0, .int .u8 0, .int .u8 0, .int .u8 0, .int .u8 0, .int .u8 0, .int .u8 0, .int .u8 0], [none, none, none, none, none, none, none, none, none, none, none, none, none, none, none, none, none, none, none, none, none, none, none, none, none, none, none, none, none, none, none, none], none⟩),
 (253, ⟨64, 64, true, .array 64 5, [.int .u8 0, .int .u8 0, .int .u8 0, .int .u8 0, .int .u8 0, .int .u8 0, .int .u8 0, .int .u8 0, .int .u8 0, .int .u8 0, .int .u8 0, .int .u8 0, .int .u8 0, .int .u8 0, .int .u8 0, .int .u8 0, .int .u8 0, .int .u8 0, .int .u8 0, .int .u8 0, .int .u8 0, .int .u8 0, .int .u8 0, .int .u8 0, .int .u8 0, .int .u8 0, .int .u8 0, .int .u8 0, .int .u8 0, .int .u8 0, .int .u8 0, .int .u8 0, .int .u8 0, .int .u8 0, .int .u8 0, .int .u8 0, .int .u8 0, .int .u8 0, .int .u8 0, .int .u8 0, .int .u8 0, .int .u8 0, .int .u8 0, .int .u8 0, .int .u8 0, .int .u8 0, .int .u8 0, .int .u8 0, .int .u8 0, .int .u8 0, .int .u8 0, .int .u8 0, .int .u8 0, .int .u8 0, .int .u8 0, .int .u8 0, .int .u8 0, .int .u8 0, .int .u8 0, .int .u8 0, .int .u8 0, .int .u8 0, .int .u8 0, .int .u8 0], [none, none, none, none, none, none, none, none, none, none, none, none, none, none, none, none, none, none, none, none, none, none, none, none, none, none, none, none, none, none, none, none, none, none, none, none, none, none, none, none, none, none, none, none, none, none, none, none, none, none, none, none, none, none, none, none, none, none, none, none, none, none, none, none], none⟩),
 (254, ⟨4, 40, true, .struct [(0, 17), (1, 17), (2, 17), (3, 9)], [.pointer none, .pointer none, .pointer none, .string ⟨#[]⟩], [none, none, none, none], none⟩),
 (255, ⟨4, 40, true, .struct [(0, 17), (1, 17), (2, 17), (3, 9)], [.pointer none, .pointer none, .pointer none, .string ⟨#[]⟩], [none, none, none, none], none⟩),
 (256, ⟨0, 0, true, .array 0 16, [], [], none⟩),
 (259, ⟨1, 1, false, .int .u8, [.int .u8 0], [none], none⟩),
 (260, ⟨1, 1, false, .int .u8, [.int .u8 0], [none], none⟩),
 (261, ⟨1, 8, false, .other, [.nilFunc], [none], none⟩),
 (262, ⟨1, 4, false, .int .i32, [.int .i32 0], [none], none⟩),
 (263, ⟨1, 4, false, .int .i32, [.int .i32 0], [none], none⟩),
 (264, ⟨11, 48, true, .struct [(0, 12), (1, 12), (2, 236), (3, 259), (4, 5), (5, 5), (6, 260), (7, 261), (8, 142), (9, 262), (10, 263)], [.int .u64 0, .int .u64 0, .int .u32 0, .int .u8 0, .int .u8 0, .int .u8 0, .int .u8 0, .nilFunc, .pointer none, .int .i32 0, .int .i32 0], [none, none, none, none, none, none, none, none, none, none, none], none⟩),
 (265, ⟨11, 48, true, .struct [(0, 12), (1, 12), (2, 236), (3, 259), (4, 5), (5, 5), (6, 260), (7, 261), (8, 142), (9, 262), (10, 263)], [.int .u64 0, .int .u64 0, .int .u32 0, .int .u8 0, .int .u8 0, .int .u8 0, .int .u8 0, .nilFunc, .pointer none, .int .i32 0, .int .i32 0], [none, none, none, none, none, none, none, none, none, none, none], none⟩),
 (266, ⟨1, 8, false, .other, [.nilFunc], [none], none⟩)]
set_option maxRecDepth 100000
theorem tab_ok : tabB Tryz.prog tab = true := by kernel_rfl
theorem mixed : Tryz.prog.follows .mixedOrders = true := by kernel_rfl
def mtab : List (TypeId × String × MI) := [(149, "loop.example/comptoir/impl.batch", .val 104), (149, "loop.example/comptoir/impl.entry", .val 147), (149, "loop.example/comptoir/impl.number", .val 145), (149, "loop.example/comptoir/impl.take", .val 146), (149, "loop.example/comptoir/impl.word", .val 180)]
theorem mtab_ok : mtB Tryz.prog mtab = true := by kernel_rfl
noncomputable def En (m : Nat) (md : FuncId → Nat) (cb : List Nat := []) (vw : List Nat := []) (fz : List Nat := []) (fb : List Nat := []) (ws : List Nat := []) (me : Option TypeId := none) : Env := ⟨Tryz.prog, findT tab, md, m, cb, mtab, vw, fz, fb, ws, me⟩
theorem en_ok (m : Nat) (md : FuncId → Nat) (cb : List Nat := []) (vw : List Nat := []) (fz : List Nat := []) (fb : List Nat := []) (ws : List Nat := []) (me : Option TypeId := none) : EOk (En m md cb vw fz fb ws me) := eok_of tab_ok mtab_ok mixed
def md0 : FuncId → Nat := fun _ => 0
def md1 (l : List FuncId) : FuncId → Nat := fun f => bif l.elem f then 1 else 0
end Go.Proofs.YtpcimdalgpfkaaaGreatDoor

namespace Go.Proofs.YtpcimdalgpfkaaaGreatDoor
open Go Go.Proofs Ev
set_option maxRecDepth 100000
set_option maxHeartbeats 40000000
set_option linter.unusedSimpArgs false
set_option linter.unusedVariables false
section
open Go.RowKit Go.Shelf
theorem sizeBld : (Tryz.prog.info? 101).map (·.size) = some 2 := by kernel_rfl
theorem liesBld : liesAt Tryz.prog Tryz.prog.depth 101 (2 / Tryz.prog.cellsOf 101) 0 101 1 = true := by kernel_rfl
set_option maxHeartbeats 4000000 in
theorem cc_used (b : Nat) (w : World) (h0 : w.cell? ⟨b, 0, none⟩ = some (.pointer (some ⟨b, 0, none⟩))) :
  Calls Tryz.prog 133 #[.pointer (some ⟨b, 0, none⟩)] w fun e w' => e = .returned (.tuple #[]) ∧ w' = w := by
 obtain ⟨j, hj, _⟩ := Option.map_eq_some_iff.1 sizeBld
 go_enter Tryz.func133, Tryz.ntmps133
 go_wp2
 rw [Lib.run_neq_ptr_same w _ Tryz.underlying99 hj]
 go_wp2
 go_end0
 exact ⟨rfl, rfl⟩
set_option maxHeartbeats 4000000 in
theorem cc_fresh (b : Nat) (w : World) (h0 : w.cell? ⟨b, 0, none⟩ = some (.pointer none)) (hsh : w.shape? b = some (101, 2)) (hfz : w.frozen? ⟨b, 0, none⟩ = false) :
  Calls Tryz.prog 133 #[.pointer (some ⟨b, 0, none⟩)] w fun e w' => e = .returned (.tuple #[]) ∧ w' = w.setCell ⟨b, 0, none⟩ (.pointer (some ⟨b, 0, none⟩)) := by
 obtain ⟨j, hj, hjs⟩ := Option.map_eq_some_iff.1 sizeBld
 go_enter Tryz.func133, Tryz.ntmps133
 go_wp2
 rw [Lib.run_to_unsafe w ⟨b, 0, none⟩ Tryz.underlying99 Tryz.underlying176 hj (by rw [hjs]; decide) hsh (Nat.zero_lt_succ 1)]
 simp only [Result.andThen]
 rw [Oper.upon_value]
 go_wp2
 rw [run_callFunc_extern Tryz.func172 (by kernel_rfl) (by kernel_rfl) (by kernel_rfl) (e := Extern.AbiNoEscape.same) (by kernel_rfl)]
 rw [Lib.run_noEscape]
 simp only [Result.andThen]
 rw [Oper.upon_value]
 go_wp2
 rw [Lib.run_from_unsafe w ⟨b, 0, none⟩ Tryz.underlying176 Tryz.underlying99 hj hsh liesBld]
 simp only [Result.andThen]
 rw [Oper.upon_value]
 go_wp2
 go_end0
 exact ⟨rfl, rfl⟩
structure OneBlk (g : Nat) (w w' : World) : Prop where
 os : w'.os = w.os
 tape : w'.tape = w.tape
 output : w'.output = w.output
 size : w'.heap.size = w.heap.size
 block : ∀ k, k ≠ g → w'.heap[k]? = w.heap[k]?
theorem cc_any (b : Nat) (u v : Value) (w : World) (hb : w.heap[b]? = some (.cells #[u, v] 101 (0, 0))) (hu : u = .pointer none ∨ u = .pointer (some ⟨b, 0, none⟩)) :
  Calls Tryz.prog 133 #[.pointer (some ⟨b, 0, none⟩)] w fun e w' => e = .returned (.tuple #[]) ∧ w'.heap[b]? = some (.cells #[.pointer (some ⟨b, 0, none⟩), v] 101 (0, 0)) ∧ OneBlk b w w' := by
 have c0 : w.cell? ⟨b, 0, none⟩ = some u := by rw [Lib.cell_of_heap hb]; rfl
 rcases hu with rfl | rfl
 ·refine (cc_fresh b w c0 (by simp [World.shape?, hb]) (Lib.frozen_of_heap hb 0)).mono ?_
  rintro e w' ⟨rfl, rfl⟩
  refine ⟨rfl, ?_, ⟨rfl, rfl, rfl, by simp, fun k hk => heap_setCell_other w _ k _ hk⟩⟩
  rw [heap_setCell_same w b 0 _ _ _ hb]
  rfl
 ·refine (cc_used b w c0).mono ?_
  rintro e w' ⟨rfl, rfl⟩
  exact ⟨rfl, hb, ⟨rfl, rfl, rfl, rfl, fun _ _ => rfl⟩⟩
theorem byteInfo : (Tryz.prog.info? 5).map (fun i => (i.zero, i.size, i.bytes)) = some (some (.int .u8 0), 1, 1) := by kernel_rfl
theorem cellsU8 : Tryz.prog.cellsOf 5 = 1 := by kernel_rfl
set_option maxHeartbeats 4000000 in
theorem ws_walk (b : Nat) (u v : Value) (bs : List Value) (s : ByteArray) (w : World) (hb : w.heap[b]? = some (.cells #[u, v] 101 (0, 0))) (hu : u = .pointer none ∨ u = .pointer (some ⟨b, 0, none⟩))
  (hown : w.ownsRow 0 5 1 v bs.length bs) (hlen : bs.length + s.size ≤ 140737488355328) :
  Calls Tryz.prog 87 #[.pointer (some ⟨b, 0, none⟩), .string s] w fun e w' => e = .returned (.tuple #[.int .i64 s.size, .nilIface]) ∧ ∃ v', w'.heap[b]? = some (.cells #[.pointer (some ⟨b, 0, none⟩), v'] 101 (0, 0)) ∧
   w'.ownsRow 0 5 1 v' (bs.length + s.size) (bs ++ Lib.strCells s) ∧ (v'.ownBlock = none ∨ v'.ownBlock = v.ownBlock ∨ v'.ownBlock = some w.heap.size) ∧ w'.os = w.os ∧ w'.tape = w.tape ∧ w'.output = w.output ∧ w.heap.size ≤ w'.heap.size ∧
   ∀ k, k < w.heap.size → k ≠ b → some k ≠ v.ownBlock → w'.heap[k]? = w.heap[k]? := by
 obtain ⟨i0, hi, hz0, hz1, hz2⟩ := info_parts byteInfo
 have eCC : ∀ args w, (callFunc 133 args).run Tryz.prog w = .ok (.enter 133 args) w := enters_of Tryz.func133 (by kernel_rfl) rfl
 have hlt : b < w.heap.size := (Array.getElem?_eq_some_iff.1 hb).1
 have hne : v.ownBlock ≠ some b := fun e => by
  rcases hown.2 with ⟨rfl, _⟩ | ⟨g, cap, cur, rfl, _, hg, _⟩
  ·cases e
  ·injection e with e; subst e
   rw [hb] at hg; injection hg with hg; injection hg with _ hg _; cases hg
 go_enter Tryz.func87, Tryz.ntmps87
 go_wp2_with (go_at_fn 133; refine (cc_any b u v _ hb hu).mono ?_)
 rintro e w1 ⟨rfl, hbk, hob⟩
 have hown1 : w1.ownsRow 0 5 1 v bs.length bs := ownsRow_move hown fun g hg => hob.block g fun e => hne (by rw [hg, e])
 have c0 : w1.cell? ⟨b, 0, none⟩ = some (.pointer (some ⟨b, 0, none⟩)) := by rw [Lib.cell_of_heap hbk]; rfl
 have c1 : w1.cell? ⟨b, 1, none⟩ = some v := by rw [Lib.cell_of_heap hbk]; rfl
 go_wp2_with (at_builtin; refine wpList_appStr rfl _ _ 45 9 rfl 5 i0 Tryz.underlying45 Tryz.underlying9 hi hz0 hz1 hz2 _ _ _ rfl hown1 s rfl hlen ?_)
 intro v' w2 hown' hgrow hat
 have hb2 : w2.heap[b]? = some (.cells #[.pointer (some ⟨b, 0, none⟩), v] 101 (0, 0)) := by
  rw [hgrow.block b (by rw [hob.size]; exact hlt) (fun e => hne e.symm)]
  exact hbk
 have d0 : w2.cell? ⟨b, 0, none⟩ = some (.pointer (some ⟨b, 0, none⟩)) := by rw [Lib.cell_of_heap hb2]; rfl
 have d1 : w2.cell? ⟨b, 1, none⟩ = some v := by rw [Lib.cell_of_heap hb2]; rfl
 have f1 : w2.frozen? ⟨b, 1, none⟩ = false := Lib.frozen_of_heap hb2 1
 obtain ⟨ao, n', cap, rfl⟩ : ∃ ao n' cap, v' = .slice ao n' cap := by
  rcases hown'.2 with ⟨hv, _⟩ | ⟨g, cap, cur, hv, _⟩
  ·exact ⟨_, _, _, hv⟩
  ·exact ⟨_, _, _, hv⟩
 go_wp2
 go_ret2
 have hne' : ∀ g, (Value.slice ao n' cap).ownBlock = some g → g ≠ b := fun g hg e => by
  subst e
  rcases hown'.2 with ⟨hv, _⟩ | ⟨g2, cap2, cur, hv, _, hg2, _⟩
  ·rw [hv] at hg; cases hg
  ·rw [hv] at hg; injection hg with hg; subst hg
   rw [hb2] at hg2; injection hg2 with hg2; injection hg2 with _ hg2 _; cases hg2
 refine ⟨rfl, _, ?_, ownsRow_move hown' fun g hg => heap_setCell_other w2 _ g _ (hne' g hg), ?_, by rw [← hob.os, ← hgrow.os]; rfl, by rw [← hob.tape, ← hgrow.tape]; rfl, by rw [← hob.output, ← hgrow.output]; rfl, ?_, fun k hk hkb hkv => ?_⟩
 ·rw [heap_setCell_same w2 b 1 _ _ _ hb2]; rfl
 ·rw [hob.size] at hat; exact hat
 ·have := hgrow.size; rw [hob.size] at this; simpa using this
 ·rw [heap_setCell_other w2 _ k _ hkb, hgrow.block k (by rw [hob.size]; exact hk) hkv, hob.block k hkb]
theorem cs_two {w : World} {g : Nat} {cs : Array Value} {e : TypeId} {u v : Value} (h : w.heap[g]? = some (.cells cs e (0, 0))) (hs : cs.size = 2) (h0 : w.cell? ⟨g, 0, none⟩ = some u) (h1 : w.cell? ⟨g, 1, none⟩ = some v) : cs = #[u, v] := by
 rw [cell_of_row w g 0 cs e (0, 0) h] at h0
 rw [cell_of_row w g 1 cs e (0, 0) h] at h1
 apply Array.ext_getElem?
 intro i
 match i with
 | 0 => rw [h0]; rfl
 | 1 => rw [h1]; rfl
 | i + 2 => rw [Array.getElem?_eq_none (by omega), Array.getElem?_eq_none (by simp)]
theorem Builder_WriteString (l : Bs) (s : ByteArray) (hlen : l.length + s.size ≤ 140737488355328) : AFnK Tryz.prog 87 [.bx 0 0, av (.string s)] [[.me 101, .us 5 (strU l)]] [0] (.tup [.one (vi s.size), .one (.v .nilIface)]) [[.me 101, .us 5 (strU (l ++ tb s))]] := by
 refine ⟨enters_of Tryz.func87 (by kernel_rfl) rfl, fun w F0 ow0 L vs hcx hlt hobj hks hvl hargs => ?_⟩
 match vs, hvl with
 | [v0, v1], _ =>
  have a1 := avr_one_v (hargs 1 _ v1 rfl rfl)
  subst a1
  have a0 := hargs 0 _ v0 rfl rfl
  cases a0 with
  | @bx _ _ g _ _ h2 h3 h4 =>
   have hO := hobj 0 _ rfl
   rw [h4] at hO
   obtain ⟨hg1, cs, e, hg2, hg3⟩ := hO.blk g rfl
   obtain ⟨u, cs', hu1, hu2, hu3⟩ := hO.me 101 g rfl rfl
   obtain ⟨v, hv1, hv2⟩ := hO.cell 1 _ rfl
   rw [hg2] at hu3
   injection hu3 with hu3
   injection hu3 with hu4 hu5 _
   subst hu4; subst hu5
   have hcs := cs_two hg2 hg3 hu1 hv1
   subst hcs
   obtain ⟨hown, how⟩ := us_bytes hv2 cellsU8
   rw [← Lib.byteCells_length l] at hown
   refine (ws_walk g u v _ s w hg2 hu2 hown (by rw [Lib.byteCells_length]; exact hlen)).mono ?_
   rintro e w' ⟨rfl, v', k1, k2, k3, k4, k5, k6, k7, k8⟩
   have hgl : g < w.heap.size := (Array.getElem?_eq_some_iff.1 hg2).1
   have hvl : ∀ k, v'.ownBlock = some k → k < w'.heap.size ∧ (ow0 k ≠ none ∨ w.heap.size ≤ k) ∧ k ≠ g := fun k hk => by
    refine ⟨(k2.lt k hk).2, ?_, fun e => ?_⟩
    ·rcases k3 with h | h | h
     ·rw [h] at hk; cases hk
     ·rw [h] at hk; exact .inl (by rw [how k hk]; simp)
     ·rw [h] at hk; injection hk with hk; exact .inr (by omega)
    ·subst e
     rcases k2.2 with ⟨hv, _⟩ | ⟨g2, cap2, cur, hv, _, hg2', _⟩
     ·rw [hv] at hk; cases hk
     ·rw [hv] at hk; injection hk with hk; subst hk
      rw [k1] at hg2'; injection hg2' with hg2'; injection hg2' with _ hg2' _; cases hg2'
   refine ⟨_, fun k => if k = g then some [0] else if v'.ownBlock = some k then some [0, 1] else none, rfl, ⟨k4, k5, k6, k7, fun k hk ho => k8 k hk (fun e => ?_) (fun e => ?_)⟩, fun k p hk => ?_, .tone (.v rfl) (.tone (.v rfl) .tnil), rfl, fun id cells hid => ?_⟩
   ·subst e; rw [hg1] at ho; cases ho
   ·have := how k e.symm; rw [ho] at this; cases this
   ·by_cases hkg : k = g
    ·subst hkg; exact ⟨Nat.lt_of_lt_of_le hgl k7, .inl (by rw [hg1]; simp)⟩
    ·simp only [hkg, if_false] at hk
     split at hk
     ·rename_i hkv; exact ⟨(hvl k hkv).1, (hvl k hkv).2.1⟩
     ·cases hk
   ·cases id with
    | succ id => simp at hid
    | zero =>
     simp at hid
     subst hid
     rw [h4]
     have hc0 : w'.cell? ⟨g, 0, none⟩ = some (.pointer (some ⟨g, 0, none⟩)) := by rw [Lib.cell_of_heap k1]; rfl
     have hc1 : w'.cell? ⟨g, 1, none⟩ = some v' := by rw [Lib.cell_of_heap k1]; rfl
     refine ⟨fun g' hg' => ?_, fun j c hj => ?_, fun T g' hg' hT => ?_⟩
     ·injection hg' with hg'; subst hg'
      exact ⟨by simp, _, _, k1, rfl⟩
     ·match j with
      | 0 => simp at hj; subst hj; exact ⟨_, hc0, .me rfl⟩
      | 1 =>
       simp at hj; subst hj
       refine ⟨v', hc1, bytes_us cellsU8 ?_ fun k hk => ?_⟩
       ·rw [strCells_eq, byteCells_app, Lib.byteCells_length] at k2
        rw [List.length_append, tb_len]
        exact k2
       ·simp only [(hvl k hk).2.2, if_false, hk, if_true]
      | j + 2 => simp at hj
     ·injection hg' with hg'; subst hg'
      simp at hT; subst hT
      exact ⟨_, _, hc0, .inr rfl, k1⟩
set_option maxHeartbeats 4000000 in
theorem str_some (b g cap : Nat) (p : Value) (l : Bs) (cur : Array Value) (w : World) (h0 : l ≠ []) (hbk : w.heap[b]? = some (.cells #[p, .slice (some ⟨g, 0, none⟩) l.length cap] 101 (0, 0))) (hg : w.heap[g]? = some (.cells cur 5 (0, 0))) (hcm : cap ≤ maxLen) (hnc : l.length ≤ cap) (hcs : cur.size = cap * 1)
  (hcells : ∀ j u, (Lib.byteCells l)[j]? = some u → w.cell? ((⟨g, 0, none⟩ : Addr).add j) = some u) :
  Calls Tryz.prog 89 #[.pointer (some ⟨b, 0, none⟩)] w fun e w' => e = .returned (.string ⟨l.toArray⟩) ∧ w' = w.drew.freeze ⟨g, 0, none⟩ l.length := by
 have hl0 : l.length ≠ 0 := by simpa using h0
 have c1 : w.drew.cell? ⟨b, 1, none⟩ = some (.slice (some ⟨g, 0, none⟩) l.length cap) := by
  have : w.drew.heap[b]? = some (.cells #[p, .slice (some ⟨g, 0, none⟩) l.length cap] 101 (0, 0)) := hbk
  rw [Lib.cell_of_heap this]; rfl
 have hSD : (Builtin.unsafeSliceData_ #[45] 142 #[.slice (some ⟨g, 0, none⟩) l.length cap]).run Tryz.prog w.drew = .ok (.pointer (some ⟨g, 0, none⟩)) w.drew :=
  Lib.run_unsafeSliceData_row _ _ _ _ _ _ (by omega)
 have hUS : (Builtin.unsafeString_ #[142, 3] 9 #[.pointer (some ⟨g, 0, none⟩), .int .i64 l.length]).run Tryz.prog w.drew = .ok (.string ⟨l.toArray⟩) (w.drew.freeze ⟨g, 0, none⟩ l.length) := by
  refine Lib.run_unsafeString_row w.drew 142 3 9 5 Tryz.underlying142 cellsU8 g cur.size (by have hg' : w.drew.heap[g]? = some (.cells cur 5 (0, 0)) := hg; simp [World.shape?, hg']) l h0 (by omega) (by unfold maxLen at hcm; omega) ?_
  intro j x hx
  exact hcells j (.int .u8 x.toNat) (by simp [Lib.byteCells, hx])
 have mx := mixed
 go_enter Tryz.func89, Tryz.ntmps89
 go_wp2
 go_region_o
 all_goals (go_wp2; go_ret; exact ⟨rfl, rfl⟩)
set_option maxHeartbeats 4000000 in
theorem str_nil (b : Nat) (p : Value) (w : World) (hbk : w.heap[b]? = some (.cells #[p, .slice none 0 0] 101 (0, 0))) :
  Calls Tryz.prog 89 #[.pointer (some ⟨b, 0, none⟩)] w fun e w' => e = .returned (.string ⟨#[]⟩) ∧ w' = w.drew := by
 have hUS := fun (W : World) (q : Option Addr) => Lib.run_unsafeString_none (P := Tryz.prog) W 142 3 9 q
 have c1 : w.drew.cell? ⟨b, 1, none⟩ = some (.slice none 0 0) := by
  have : w.drew.heap[b]? = some (.cells #[p, .slice none 0 0] 101 (0, 0)) := hbk
  rw [Lib.cell_of_heap this]; rfl
 have hSD : (Builtin.unsafeSliceData_ #[45] 142 #[.slice none 0 0]).run Tryz.prog w.drew = .ok (.pointer none) w.drew := rfl
 have mx := mixed
 go_enter Tryz.func89, Tryz.ntmps89
 go_wp2
 go_region_o
 all_goals (go_wp2; go_ret; exact ⟨rfl, rfl⟩)
set_option maxHeartbeats 4000000 in
theorem str_noroom (b g : Nat) (p : Value) (cur : Array Value) (w : World) (hbk : w.heap[b]? = some (.cells #[p, .slice (some ⟨g, 0, none⟩) 0 0] 101 (0, 0))) (hg : w.heap[g]? = some (.cells cur 5 (0, 0))) :
  Calls Tryz.prog 89 #[.pointer (some ⟨b, 0, none⟩)] w fun e w' => e = .returned (.string ⟨#[]⟩) ∧ w' = w.drew.alloc (.view ⟨g, 0, none⟩ 5) := by
 have hUS := fun (W : World) (q : Option Addr) => Lib.run_unsafeString_none (P := Tryz.prog) W 142 3 9 q
 have hlt : b < w.heap.size := (Array.getElem?_eq_some_iff.1 hbk).1
 have c1 : w.drew.cell? ⟨b, 1, none⟩ = some (.slice (some ⟨g, 0, none⟩) 0 0) := by
  have : w.drew.heap[b]? = some (.cells #[p, .slice (some ⟨g, 0, none⟩) 0 0] 101 (0, 0)) := hbk
  rw [Lib.cell_of_heap this]; rfl
 have hSD : (Builtin.unsafeSliceData_ #[45] 142 #[.slice (some ⟨g, 0, none⟩) 0 0]).run Tryz.prog w.drew = .ok (.pointer (some ⟨w.drew.heap.size, 0, none⟩)) (w.drew.alloc (.view ⟨g, 0, none⟩ 5)) :=
  Lib.run_unsafeSliceData_zero w.drew _ _ 5 Tryz.underlying142 ⟨g, 0, none⟩ 0 (5, cur.size) (by have hg' : w.drew.heap[g]? = some (.cells cur 5 (0, 0)) := hg; simp [World.shape?, hg'])
 have c2 : (w.drew.alloc (.view ⟨g, 0, none⟩ 5)).cell? ⟨b, 1, none⟩ = some (.slice (some ⟨g, 0, none⟩) 0 0) := by
  have : (w.drew.alloc (.view ⟨g, 0, none⟩ 5)).heap[b]? = _ := (Lib.alloc_old w.drew _ b hlt).trans hbk
  rw [Lib.cell_of_heap this]; rfl
 have c3 : (w.alloc (.view ⟨g, 0, none⟩ 5)).drew.cell? ⟨b, 1, none⟩ = some (.slice (some ⟨g, 0, none⟩) 0 0) := c2
 have c0 : w.cell? ⟨b, 1, none⟩ = some (.slice (some ⟨g, 0, none⟩) 0 0) := c1
 have mx := mixed
 go_enter Tryz.func89, Tryz.ntmps89
 go_wp2
 go_region_o
 all_goals (go_wp2; go_ret; exact ⟨rfl, rfl⟩)
set_option maxHeartbeats 4000000 in
theorem str_room (b g cap : Nat) (p : Value) (w : World) (hc0 : cap ≠ 0) (hbk : w.heap[b]? = some (.cells #[p, .slice (some ⟨g, 0, none⟩) 0 cap] 101 (0, 0))) :
  Calls Tryz.prog 89 #[.pointer (some ⟨b, 0, none⟩)] w fun e w' => e = .returned (.string ⟨#[]⟩) ∧ w' = w.drew := by
 have hUS := fun (W : World) (q : Option Addr) => Lib.run_unsafeString_none (P := Tryz.prog) W 142 3 9 q
 have c1 : w.drew.cell? ⟨b, 1, none⟩ = some (.slice (some ⟨g, 0, none⟩) 0 cap) := by
  have : w.drew.heap[b]? = some (.cells #[p, .slice (some ⟨g, 0, none⟩) 0 cap] 101 (0, 0)) := hbk
  rw [Lib.cell_of_heap this]; rfl
 have hSD : (Builtin.unsafeSliceData_ #[45] 142 #[.slice (some ⟨g, 0, none⟩) 0 cap]).run Tryz.prog w.drew = .ok (.pointer (some ⟨g, 0, none⟩)) w.drew :=
  Lib.run_unsafeSliceData_row _ _ _ _ _ _ hc0
 have mx := mixed
 clear hc0
 go_enter Tryz.func89, Tryz.ntmps89
 go_wp2
 go_region_o
 all_goals (go_wp2; go_ret; exact ⟨rfl, rfl⟩)
theorem froze_same {w : World} {g n : Nat} {cur : Array Value} {e : TypeId} (hn : n ≠ 0) (h : w.heap[g]? = some (.cells cur e (0, 0))) : ∃ fz, (w.drew.freeze ⟨g, 0, none⟩ n).heap[g]? = some (.cells cur e fz) := by
 have h' : w.drew.heap[g]? = some (.cells cur e (0, 0)) := h
 unfold World.freeze
 rw [if_neg hn]
 simp only [Array.getElem?_modify, if_true, h', Option.map_some]
 exact ⟨_, rfl⟩
theorem froze_other {w : World} {g n k : Nat} (hk : k ≠ g) : (w.drew.freeze ⟨g, 0, none⟩ n).heap[k]? = w.heap[k]? := by
 unfold World.freeze
 split
 ·rfl
 ·simp only [Array.getElem?_modify, if_neg (Ne.symm hk)]
  rfl
theorem froze_size {w : World} {g n : Nat} : (w.drew.freeze ⟨g, 0, none⟩ n).heap.size = w.heap.size := by
 unfold World.freeze
 split
 ·rfl
 ·simp only [Array.size_modify]
  rfl
theorem froze_os {w : World} {g n : Nat} : (w.drew.freeze ⟨g, 0, none⟩ n).os = w.os ∧ (w.drew.freeze ⟨g, 0, none⟩ n).tape = w.tape ∧ (w.drew.freeze ⟨g, 0, none⟩ n).output = w.output := by
 unfold World.freeze
 split <;> exact ⟨rfl, rfl, rfl⟩
theorem cell_of_any {w : World} {g j : Nat} {cur : Array Value} {e : TypeId} {fz : Nat × Nat} (h : w.heap[g]? = some (.cells cur e fz)) : w.cell? ⟨g, j, none⟩ = cur[j]? := by simp [World.cell?, h]
set_option maxHeartbeats 2000000 in
theorem Builder_String (l : Bs) : AFnK Tryz.prog 89 [.bx 0 0] [[.me 101, .us 5 (strU l)]] [0] (.one (vs (bt l))) [[.me 101, .sl (strU l)]] := by
 refine ⟨enters_of Tryz.func89 (by kernel_rfl) rfl, fun w F0 ow0 L vs hcx hlt hobj hks hvl hargs => ?_⟩
 match vs, hvl with
 | [v0], _ =>
  have a0 := hargs 0 _ v0 rfl rfl
  cases a0 with
  | @bx _ _ g _ _ h2 h3 h4 =>
   have hO := hobj 0 _ rfl
   rw [h4] at hO
   obtain ⟨hg1, cs, e, hg2, hg3⟩ := hO.blk g rfl
   obtain ⟨u, cs', hu1, hu2, hu3⟩ := hO.me 101 g rfl rfl
   obtain ⟨v, hv1, hv2⟩ := hO.cell 1 _ rfl
   rw [hg2] at hu3
   injection hu3 with hu3
   injection hu3 with hu4 hu5 _
   subst hu4; subst hu5
   have hcs := cs_two hg2 hg3 hu1 hv1
   subst hcs
   obtain ⟨hown, how⟩ := us_bytes hv2 cellsU8
   have hgl : g < w.heap.size := (Array.getElem?_eq_some_iff.1 hg2).1
   let ow' : Ev.Own := fun k => if k = g then some [0] else none
   have fin : ∀ (e : Ending) (w' : World), e = .returned (.string (bt l)) → Keeps w w' ow0 → w'.heap[g]? = w.heap[g]? → FR w' (FF w F0 ow0 w' ow') (.sl (strU l)) v →
     ∃ v ow2, e = .returned v ∧ Keeps w w' ow0 ∧ (∀ k p, ow2 k = some p → k < w'.heap.size ∧ (ow0 k ≠ none ∨ w.heap.size ≤ k)) ∧ RVR Tryz.prog w' (FF w F0 ow0 w' ow2) ow2 1 0 (.one (Ev.vs (bt l))) v ∧ 1 = 1 ∧
      ∀ (id : Nat) (cells : List C), [[C.me 101, .sl (strU l)]][id]? = some cells → ObjR Tryz.prog w' (FF w F0 ow0 w' ow2) ow2 id (L id) cells := by
    intro e w' he hk hgs hfr
    refine ⟨_, ow', he, hk, fun k p hkp => ?_, .one (.v rfl), rfl, fun id cells hid => ?_⟩
    ·by_cases hkg : k = g
     ·subst hkg; exact ⟨Nat.lt_of_lt_of_le hgl hk.size, .inl (by rw [hg1]; simp)⟩
     ·simp only [ow', hkg, if_false] at hkp; cases hkp
    ·cases id with
     | succ id => simp at hid
     | zero =>
      simp at hid
      subst hid
      rw [h4]
      rw [hg2] at hgs
      have hc0 : w'.cell? ⟨g, 0, none⟩ = some u := by rw [Lib.cell_of_heap hgs]; rfl
      have hc1 : w'.cell? ⟨g, 1, none⟩ = some v := by rw [Lib.cell_of_heap hgs]; rfl
      refine ⟨fun g' hg' => ?_, fun j c hj => ?_, fun T g' hg' hT => ?_⟩
      ·injection hg' with hg'; subst hg'
       exact ⟨by simp [ow'], _, _, hgs, rfl⟩
      ·match j with
       | 0 => simp at hj; subst hj; exact ⟨_, hc0, .me (by rcases hu2 with rfl | rfl <;> rfl)⟩
       | 1 => simp at hj; subst hj; exact ⟨v, hc1, .sl hfr⟩
       | j + 2 => simp at hj
      ·injection hg' with hg'; subst hg'
       simp at hT; subst hT
       exact ⟨_, _, hc0, hu2, hgs⟩
   rcases hown.2 with ⟨hv, hn⟩ | ⟨g2, cap, cur, hv, _, hb2, hnc, hcm, hcs, htake⟩
   ·have hl : l = [] := List.length_eq_zero_iff.1 hn
    subst hl; subst hv
    refine (str_nil g u w hg2).mono ?_
    rintro e w' ⟨he, rfl⟩
    exact fin e _ he ⟨rfl, rfl, rfl, Nat.le_refl _, fun _ _ _ => rfl⟩ rfl (.sl (sz := 1) (fun _ _ => undef) rfl (Nat.le_refl _) (by simp [maxLen]) (by simp [strU]) (by simp [strU]) (by simp [strU]))
   ·have hne : g2 ≠ g := fun e => by
     subst e
     rw [hg2] at hb2; injection hb2 with hb2; injection hb2 with _ hb2 _; cases hb2
    subst hv
    have hog : ow0 g2 = some [0, 1] := how g2 rfl
    by_cases hl : l = []
    ·subst hl
     have hfr : ∀ (w' : World) (F' : Frs), FR w' F' (.sl (strU [])) (.slice (some ⟨g2, 0, none⟩) 0 cap) := fun w' F' => .sl (sz := 1) (fun _ _ => undef) rfl (Nat.zero_le _) hcm (by simp [strU]) (by simp [strU]) (by simp [strU])
     by_cases hc0 : cap = 0
     ·subst hc0
      refine (str_noroom g g2 u cur w hg2 hb2).mono ?_
      rintro e w' ⟨he, rfl⟩
      have hgr := (Grow.drew w).trans (Grow.alloc w.drew (.view ⟨g2, 0, none⟩ 5))
      exact fin e _ he ⟨hgr.os, hgr.tape, hgr.output, hgr.size, fun k hk _ => hgr.block k hk⟩ (hgr.block g hgl) (hfr _ _)
     ·refine (str_room g g2 cap u w hc0 hg2).mono ?_
      rintro e w' ⟨he, rfl⟩
      exact fin e _ he ⟨rfl, rfl, rfl, Nat.le_refl _, fun _ _ _ => rfl⟩ rfl (hfr _ _)
    ·refine (str_some g g2 cap u l cur w hl hg2 hb2 hcm hnc hcs (hown.cells (g := g2) rfl)).mono ?_
     rintro e w' ⟨he, rfl⟩
     have hl0 : l.length ≠ 0 := by simpa using hl
     obtain ⟨fz, hfz⟩ := froze_same hl0 hb2
     refine fin e _ he ⟨froze_os.1, froze_os.2.1, froze_os.2.2, by rw [froze_size (w := w) (g := g2) (n := l.length)]; exact Nat.le_refl w.heap.size, fun k hk ho => froze_other fun e => ?_⟩ (froze_other (Ne.symm hne)) ?_
     ·subst e; rw [hog] at ho; cases ho
     ·refine .sl (sz := 1) (fun i j => (Lib.byteCells l).getD i undef) (strU_len l) hnc hcm (fun r hr => ?_) (fun i r j c hi hj => ?_) (fun i r j c hi hj => ?_)
      ·obtain ⟨b, _, rfl⟩ := List.mem_map.1 hr; rfl
      ·obtain ⟨b, hb, rfl⟩ := Option.map_eq_some_iff.1 (by rw [← List.getElem?_map]; exact hi : (l[i]?).map encU = some r)
       have hil := (List.getElem?_eq_some_iff.1 hb).1
       cases j with
       | succ j => simp [encU] at hj
       | zero =>
        refine ⟨g2, 0, rfl, .inr ⟨by rw [froze_size]; exact (Array.getElem?_eq_some_iff.1 hb2).1, by simp [ow', hne], .inl (by rw [hog]; simp)⟩, ?_⟩
        rw [cell_of_any hfz, Nat.zero_add, Nat.mul_one, Nat.add_zero]
        have h5 := hown.cells (g := g2) rfl i ((Lib.byteCells l).getD i undef) (by rw [List.getD_eq_getElem?_getD, List.getElem?_eq_getElem (by rw [Lib.byteCells_length]; exact hil)]; rfl)
        rw [addr_add, cell_of_any hb2, Nat.zero_add] at h5
        exact h5
      ·obtain ⟨b, hb, rfl⟩ := Option.map_eq_some_iff.1 (by rw [← List.getElem?_map]; exact hi : (l[i]?).map encU = some r)
       cases j with
       | succ j => simp [encU] at hj
       | zero =>
        simp [encU] at hj
        subst hj
        have : (Lib.byteCells l).getD i undef = .int .u8 b.toNat := by rw [List.getD_eq_getElem?_getD]; simp [Lib.byteCells, hb]
        rw [this]
        exact .v rfl
end
section
open Go.RowKit Go.Shelf
def lays137_ren : Go.Shelf.Ren := ⟨fun | 137 => 200 | 217 => 214 | 266 => 239 | n => n, fun | 9 => 9 | 5 => 5 | 3 => 3 | n => n, fun | n => n⟩
theorem lays137 : Go.Proofs.Lays.n137 Tryz.prog lays137_ren := {
 mixed := by kernel_rfl
 f137 := Tryz.func200.trans (congrArg some (by kernel_rfl))
 f217 := Tryz.func214.trans (congrArg some (by kernel_rfl))
 f266 := Tryz.func239.trans (congrArg some (by kernel_rfl))
 t3 := Tryz.underlying3
 a3 := Tryz.isAgg3
 z3 := Tryz.sizeOf3
 v3 := Tryz.zeroValue3
 t5 := Tryz.underlying5
 a5 := Tryz.isAgg5
 z5 := Tryz.sizeOf5
 v5 := Tryz.zeroValue5
 t9 := Tryz.underlying9
 a9 := Tryz.isAgg9
 z9 := Tryz.sizeOf9
 v9 := Tryz.zeroValue9 }
def laysM171_ren : Go.Shelf.Ren := ⟨fun | 171 => 135 | 243 => 173 | 246 => 195 | 283 => 210 | 284 => 211 | 285 => 212 | 286 => 213 | 129 => 235 | 317 => 234 | 318 => 236 | 319 => 237 | 320 => 238 | 337 => 245 | 338 => 246 | n => n, fun | 3 => 3 | 9 => 9 | 2 => 2 | 4 => 4 | 171 => 209 | 0 => 0 | 53 => 210 | 37 => 45 | 5 => 5 | 173 => 213 | 212 => 235 | 51 => 236 | 20 => 20 | 213 => 237 | 46 => 204 | 232 => 252 | 233 => 253 | n => n, fun | 17 => 0 | 18 => 4 | 19 => 5 | n => n⟩
theorem laysM171 : Go.Proofs.LaysM.n171 Tryz.prog laysM171_ren := {
 mixed := by kernel_rfl
 f129 := Tryz.func235.trans (congrArg some (by kernel_rfl))
 f171 := Tryz.func135.trans (congrArg some (by kernel_rfl))
 f243 := Tryz.func173.trans (congrArg some (by kernel_rfl))
 f246 := Tryz.func195.trans (congrArg some (by kernel_rfl))
 f283 := Tryz.func210.trans (congrArg some (by kernel_rfl))
 f284 := Tryz.func211.trans (congrArg some (by kernel_rfl))
 f285 := Tryz.func212.trans (congrArg some (by kernel_rfl))
 f286 := Tryz.func213.trans (congrArg some (by kernel_rfl))
 f317 := Tryz.func234.trans (congrArg some (by kernel_rfl))
 f318 := Tryz.func236.trans (congrArg some (by kernel_rfl))
 f319 := Tryz.func237.trans (congrArg some (by kernel_rfl))
 f320 := Tryz.func238.trans (congrArg some (by kernel_rfl))
 f337 := Tryz.func245.trans (congrArg some (by kernel_rfl))
 f338 := Tryz.func246.trans (congrArg some (by kernel_rfl))
 t0 := Tryz.underlying0
 a0 := Tryz.isAgg0
 z0 := Tryz.sizeOf0
 v0 := Tryz.zeroValue0
 t2 := Tryz.underlying2
 a2 := Tryz.isAgg2
 z2 := Tryz.sizeOf2
 v2 := Tryz.zeroValue2
 t3 := Tryz.underlying3
 a3 := Tryz.isAgg3
 z3 := Tryz.sizeOf3
 v3 := Tryz.zeroValue3
 t4 := Tryz.underlying4
 a4 := Tryz.isAgg4
 z4 := Tryz.sizeOf4
 v4 := Tryz.zeroValue4
 t5 := Tryz.underlying5
 a5 := Tryz.isAgg5
 z5 := Tryz.sizeOf5
 v5 := Tryz.zeroValue5
 t9 := Tryz.underlying9
 a9 := Tryz.isAgg9
 z9 := Tryz.sizeOf9
 v9 := Tryz.zeroValue9
 t20 := Tryz.underlying20
 a20 := Tryz.isAgg20
 z20 := Tryz.sizeOf20
 v20 := Tryz.zeroValue20
 t37 := Tryz.underlying45
 a37 := Tryz.isAgg45
 z37 := Tryz.sizeOf45
 v37 := Tryz.zeroValue45
 t46 := Tryz.underlying204
 a46 := Tryz.isAgg204
 z46 := Tryz.sizeOf204
 v46 := Tryz.zeroValue204
 t51 := Tryz.underlying236
 a51 := Tryz.isAgg236
 z51 := Tryz.sizeOf236
 v51 := Tryz.zeroValue236
 t53 := Tryz.underlying210
 a53 := Tryz.isAgg210
 z53 := Tryz.sizeOf210
 v53 := Tryz.zeroValue210
 t171 := Tryz.underlying209
 a171 := Tryz.isAgg209
 z171 := Tryz.sizeOf209
 v171 := Tryz.zeroValue209
 t173 := Tryz.underlying213
 a173 := Tryz.isAgg213
 z173 := Tryz.sizeOf213
 v173 := Tryz.zeroValue213
 t212 := Tryz.underlying235
 a212 := Tryz.isAgg235
 z212 := Tryz.sizeOf235
 v212 := Tryz.zeroValue235
 t213 := Tryz.underlying237
 a213 := Tryz.isAgg237
 z213 := Tryz.sizeOf237
 t232 := Tryz.underlying252
 a232 := Tryz.isAgg252
 z232 := Tryz.sizeOf252
 v232 := Tryz.zeroValue252
 t233 := Tryz.underlying253
 a233 := Tryz.isAgg253
 z233 := Tryz.sizeOf253
 v233 := Tryz.zeroValue253
 g17 := by kernel_rfl
 g18 := by kernel_rfl
 g19 := by kernel_rfl
 i0 := by kernel_rfl
 i2 := by kernel_rfl
 i3 := by kernel_rfl
 i4 := by kernel_rfl
 i5 := by kernel_rfl
 i9 := by kernel_rfl
 i20 := by kernel_rfl
 i37 := by kernel_rfl
 i46 := by kernel_rfl
 i51 := by kernel_rfl
 i53 := by kernel_rfl
 i171 := by kernel_rfl
 i173 := by kernel_rfl
 i212 := by kernel_rfl
 i232 := by kernel_rfl
 i233 := by kernel_rfl
 m17 := by kernel_rfl
 m18 := by kernel_rfl
 m19 := by kernel_rfl }
def laysC172_ren : Go.Shelf.Ren := ⟨fun | 172 => 181 | 244 => 201 | 245 => 202 | 247 => 215 | 279 => 216 | 280 => 217 | 281 => 218 | 282 => 219 | 287 => 240 | 316 => 241 | 171 => 135 | 205 => 242 | 321 => 247 | 322 => 248 | 243 => 173 | 246 => 195 | 283 => 210 | 284 => 211 | 285 => 212 | 286 => 213 | 129 => 235 | 317 => 234 | 318 => 236 | 319 => 237 | 320 => 238 | 337 => 245 | 338 => 246 | n => n, fun | 9 => 9 | 3 => 3 | 75 => 103 | 76 => 104 | 4 => 4 | 5 => 5 | 167 => 215 | 37 => 45 | 0 => 0 | 85 => 216 | 2 => 2 | 168 => 218 | 53 => 210 | 175 => 239 | 46 => 204 | 210 => 243 | 127 => 142 | 145 => 251 | 143 => 249 | 21 => 21 | 171 => 209 | 173 => 213 | 212 => 235 | 51 => 236 | 20 => 20 | 213 => 237 | 232 => 252 | 233 => 253 | 80 => 107 | n => n, fun | 15 => 1 | 16 => 2 | 17 => 0 | 18 => 4 | 19 => 5 | n => n⟩
theorem laysC172 : Go.Proofs.LaysC.n172 Tryz.prog laysC172_ren := {
 mixed := by kernel_rfl
 f129 := Tryz.func235.trans (congrArg some (by kernel_rfl))
 f171 := Tryz.func135.trans (congrArg some (by kernel_rfl))
 f172 := Tryz.func181.trans (congrArg some (by kernel_rfl))
 f205 := Tryz.func242.trans (congrArg some (by kernel_rfl))
 f243 := Tryz.func173.trans (congrArg some (by kernel_rfl))
 f244 := Tryz.func201.trans (congrArg some (by kernel_rfl))
 f245 := Tryz.func202.trans (congrArg some (by kernel_rfl))
 f246 := Tryz.func195.trans (congrArg some (by kernel_rfl))
 f247 := Tryz.func215.trans (congrArg some (by kernel_rfl))
 f279 := Tryz.func216.trans (congrArg some (by kernel_rfl))
 f280 := Tryz.func217.trans (congrArg some (by kernel_rfl))
 f281 := Tryz.func218.trans (congrArg some (by kernel_rfl))
 f282 := Tryz.func219.trans (congrArg some (by kernel_rfl))
 f283 := Tryz.func210.trans (congrArg some (by kernel_rfl))
 f284 := Tryz.func211.trans (congrArg some (by kernel_rfl))
 f285 := Tryz.func212.trans (congrArg some (by kernel_rfl))
 f286 := Tryz.func213.trans (congrArg some (by kernel_rfl))
 f287 := Tryz.func240.trans (congrArg some (by kernel_rfl))
 f316 := Tryz.func241.trans (congrArg some (by kernel_rfl))
 f317 := Tryz.func234.trans (congrArg some (by kernel_rfl))
 f318 := Tryz.func236.trans (congrArg some (by kernel_rfl))
 f319 := Tryz.func237.trans (congrArg some (by kernel_rfl))
 f320 := Tryz.func238.trans (congrArg some (by kernel_rfl))
 f321 := Tryz.func247.trans (congrArg some (by kernel_rfl))
 f322 := Tryz.func248.trans (congrArg some (by kernel_rfl))
 f337 := Tryz.func245.trans (congrArg some (by kernel_rfl))
 f338 := Tryz.func246.trans (congrArg some (by kernel_rfl))
 t0 := Tryz.underlying0
 a0 := Tryz.isAgg0
 z0 := Tryz.sizeOf0
 v0 := Tryz.zeroValue0
 t2 := Tryz.underlying2
 a2 := Tryz.isAgg2
 z2 := Tryz.sizeOf2
 v2 := Tryz.zeroValue2
 t3 := Tryz.underlying3
 a3 := Tryz.isAgg3
 z3 := Tryz.sizeOf3
 v3 := Tryz.zeroValue3
 t4 := Tryz.underlying4
 a4 := Tryz.isAgg4
 z4 := Tryz.sizeOf4
 v4 := Tryz.zeroValue4
 t5 := Tryz.underlying5
 a5 := Tryz.isAgg5
 z5 := Tryz.sizeOf5
 v5 := Tryz.zeroValue5
 t9 := Tryz.underlying9
 a9 := Tryz.isAgg9
 z9 := Tryz.sizeOf9
 v9 := Tryz.zeroValue9
 t20 := Tryz.underlying20
 a20 := Tryz.isAgg20
 z20 := Tryz.sizeOf20
 v20 := Tryz.zeroValue20
 t21 := Tryz.underlying21
 a21 := Tryz.isAgg21
 z21 := Tryz.sizeOf21
 v21 := Tryz.zeroValue21
 t37 := Tryz.underlying45
 a37 := Tryz.isAgg45
 z37 := Tryz.sizeOf45
 v37 := Tryz.zeroValue45
 t46 := Tryz.underlying204
 a46 := Tryz.isAgg204
 z46 := Tryz.sizeOf204
 v46 := Tryz.zeroValue204
 t51 := Tryz.underlying236
 a51 := Tryz.isAgg236
 z51 := Tryz.sizeOf236
 v51 := Tryz.zeroValue236
 t53 := Tryz.underlying210
 a53 := Tryz.isAgg210
 z53 := Tryz.sizeOf210
 v53 := Tryz.zeroValue210
 t75 := Tryz.underlying103
 a75 := Tryz.isAgg103
 z75 := Tryz.sizeOf103
 v75 := Tryz.zeroValue103
 t76 := Tryz.underlying104
 a76 := Tryz.isAgg104
 z76 := Tryz.sizeOf104
 v76 := Tryz.zeroValue104
 t85 := Tryz.underlying216
 a85 := Tryz.isAgg216
 z85 := Tryz.sizeOf216
 v85 := Tryz.zeroValue216
 t127 := Tryz.underlying142
 a127 := Tryz.isAgg142
 z127 := Tryz.sizeOf142
 v127 := Tryz.zeroValue142
 t143 := Tryz.underlying249
 a143 := Tryz.isAgg249
 z143 := Tryz.sizeOf249
 v143 := Tryz.zeroValue249
 t145 := Tryz.underlying251
 a145 := Tryz.isAgg251
 z145 := Tryz.sizeOf251
 v145 := Tryz.zeroValue251
 t167 := Tryz.underlying215
 a167 := Tryz.isAgg215
 z167 := Tryz.sizeOf215
 v167 := Tryz.zeroValue215
 t168 := Tryz.underlying218
 a168 := Tryz.isAgg218
 z168 := Tryz.sizeOf218
 v168 := Tryz.zeroValue218
 t171 := Tryz.underlying209
 a171 := Tryz.isAgg209
 z171 := Tryz.sizeOf209
 v171 := Tryz.zeroValue209
 t173 := Tryz.underlying213
 a173 := Tryz.isAgg213
 z173 := Tryz.sizeOf213
 v173 := Tryz.zeroValue213
 t175 := Tryz.underlying239
 a175 := Tryz.isAgg239
 z175 := Tryz.sizeOf239
 v175 := Tryz.zeroValue239
 t210 := Tryz.underlying243
 a210 := Tryz.isAgg243
 z210 := Tryz.sizeOf243
 v210 := Tryz.zeroValue243
 t212 := Tryz.underlying235
 a212 := Tryz.isAgg235
 z212 := Tryz.sizeOf235
 v212 := Tryz.zeroValue235
 t213 := Tryz.underlying237
 a213 := Tryz.isAgg237
 z213 := Tryz.sizeOf237
 t232 := Tryz.underlying252
 a232 := Tryz.isAgg252
 z232 := Tryz.sizeOf252
 v232 := Tryz.zeroValue252
 t233 := Tryz.underlying253
 a233 := Tryz.isAgg253
 z233 := Tryz.sizeOf253
 v233 := Tryz.zeroValue253
 g15 := by kernel_rfl
 g16 := by kernel_rfl
 g17 := by kernel_rfl
 g18 := by kernel_rfl
 g19 := by kernel_rfl
 t80 := Tryz.underlying107
 a80 := Tryz.isAgg107
 z80 := Tryz.sizeOf107
 v80 := Tryz.zeroValue107
 i0 := by kernel_rfl
 i2 := by kernel_rfl
 i3 := by kernel_rfl
 i4 := by kernel_rfl
 i5 := by kernel_rfl
 i9 := by kernel_rfl
 i20 := by kernel_rfl
 i21 := by kernel_rfl
 i37 := by kernel_rfl
 i46 := by kernel_rfl
 i51 := by kernel_rfl
 i53 := by kernel_rfl
 i75 := by kernel_rfl
 i76 := by kernel_rfl
 i80 := by kernel_rfl
 i85 := by kernel_rfl
 i127 := by kernel_rfl
 i143 := by kernel_rfl
 i145 := by kernel_rfl
 i167 := by kernel_rfl
 i168 := by kernel_rfl
 i171 := by kernel_rfl
 i173 := by kernel_rfl
 i175 := by kernel_rfl
 i210 := by kernel_rfl
 i212 := by kernel_rfl
 i232 := by kernel_rfl
 i233 := by kernel_rfl
 m15 := by kernel_rfl
 m16 := by kernel_rfl
 m17 := by kernel_rfl
 m18 := by kernel_rfl
 m19 := by kernel_rfl
 c0 := by kernel_rfl
 c2 := by kernel_rfl
 c3 := by kernel_rfl
 c4 := by kernel_rfl
 c5 := by kernel_rfl
 c9 := by kernel_rfl
 c20 := by kernel_rfl
 c21 := by kernel_rfl
 c37 := by kernel_rfl
 c46 := by kernel_rfl
 c51 := by kernel_rfl
 c53 := by kernel_rfl
 c75 := by kernel_rfl
 c76 := by kernel_rfl
 c80 := by kernel_rfl
 c85 := by kernel_rfl
 c127 := by kernel_rfl
 c143 := by kernel_rfl
 c145 := by kernel_rfl
 c167 := by kernel_rfl
 c168 := by kernel_rfl
 c171 := by kernel_rfl
 c173 := by kernel_rfl
 c175 := by kernel_rfl
 c210 := by kernel_rfl
 c212 := by kernel_rfl
 c213 := by kernel_rfl
 c232 := by kernel_rfl
 c233 := by kernel_rfl }
theorem same_ret {P : Program} {w w' : World} {F0 : Frs} {ow0 : Ev.Own} {L : Nat → Pl} {r : RV} {v : Value} (hk : Keeps w w' ow0) (h : ∀ F ow, RVR P w' F ow 0 0 r v) :
  ∃ v' ow', Ending.returned v = .returned v' ∧ Keeps w w' ow0 ∧ (∀ k p, ow' k = some p → k < w'.heap.size ∧ (ow0 k ≠ none ∨ w.heap.size ≤ k)) ∧ RVR P w' (FF w F0 ow0 w' ow') ow' ([] : List (List C)).length 0 r v' ∧ ([] : List (List C)).length = ([] : List (List C)).length ∧ ∀ (id : Nat) (cells : List C), ([] : List (List C))[id]? = some cells → ObjR P w' (FF w F0 ow0 w' ow') ow' id (L id) cells :=
 ⟨v, fun _ => none, rfl, hk, fun _ _ h => (nomatch h), h _ _, rfl, fun id cells h => by simp at h⟩
theorem keeps_same {w : World} {ow : Ev.Own} : Keeps w w ow := ⟨rfl, rfl, rfl, Nat.le_refl _, fun _ _ _ => rfl⟩
theorem Grow.keeps {w w' : World} {ow : Ev.Own} (h : Grow w w') : Keeps w w' ow := ⟨h.os, h.tape, h.output, h.size, fun k hk _ => h.block k hk⟩
theorem keeps_grow (w : World) (ow : Ev.Own) (k : Nat) (os : Array Obj) : Keeps w (Go.Sort.grow (w.drewN k) os) ow := by
 refine ⟨rfl, rfl, rfl, ?_, fun j hj _ => ?_⟩
 ·show w.heap.size ≤ (w.heap ++ os).size
  rw [Array.size_append]
  omega
 ·show (w.heap ++ os)[j]? = _
  rw [Array.getElem?_append_left hj]
theorem strings_IndexByte (s : ByteArray) : AFn Tryz.prog 200 [av (.string s), av (.int .u8 32)] [] (.one (vi (Lib.indexByte (tb s) 32))) [] := by
 refine ⟨enters_of Tryz.func200 (by kernel_rfl) rfl, fun w F0 ow0 L vs hcx hlt hobj hks hvl hargs => ?_⟩
 match vs, hvl with
 | [v0, v1], _ =>
  have a0 := avr_one_v (hargs 0 _ v0 rfl rfl)
  have a1 := avr_one_v (hargs 1 _ v1 rfl rfl)
  subst a0; subst a1
  refine (Any.strings_IndexByte lays137 s 32 w).mono ?_
  rintro e w' ⟨rfl, rfl⟩
  exact same_ret keeps_same fun _ _ => .one (.v rfl)
theorem strconv_Itoa (n : Int) (h0 : -9223372036854775808 ≤ n) (h1 : n ≤ 9223372036854775807) : AFn Tryz.prog 135 [av (.int .i64 n)] [] (.one (vs (bt (Lib.itoa n)))) [] := by
 refine ⟨enters_of Tryz.func135 (by kernel_rfl) rfl, fun w F0 ow0 L vs hcx hlt hobj hks hvl hargs => ?_⟩
 match vs, hvl with
 | [v0], _ =>
  have a0 := avr_one_v (hargs 0 _ v0 rfl rfl)
  subst a0
  obtain ⟨h2, h3, t, z, h4⟩ := hcx.wp.1 0 (by kernel_rfl)
  refine (Any.strconv_Itoa laysM171 n h0 h1 w ?_).mono ?_
  ·have hg : Tryz.prog.globalNamed _ = some 0 := laysM171.m17
   unfold Lib.TabIs World.var?
   rw [hg, Option.bind_some, h4]
  ·rintro e w' ⟨rfl, k, os, rfl⟩
   exact same_ret (keeps_grow w ow0 k os) fun _ _ => .one (.v rfl)
end
def lrd (s : ByteArray) (p : Nat) : List C := [vs s, vi p]
theorem minE {a b e : Nat} (h : e = min b a) : (if true = true then (if (a : Int) < (b : Int) then (a : Int) else (b : Int)) else (if (b : Int) < (a : Int) then (a : Int) else (b : Int))) = (e : Int) := by
 rw [if_pos rfl]
 by_cases hab : (a : Int) < (b : Int)
 ·rw [if_pos hab]; omega
 ·rw [if_neg hab]; omega
theorem reader_wordY (s : ByteArray) (p : Nat) (hs : s.size ≤ 1048576) (hp : p ≤ s.size) (w : ByteArray) (q : Nat) (h : wordB s p = some (w, q)) : AFnK Tryz.prog 180 [.bx 0 0] [lrd s p] [0] (.tup [.one (vs w), .one (vb true)]) [lrd s q] := by
 have hex : ∃ e : Nat, e = min s.size (p + 9) := ⟨_, rfl⟩
 obtain ⟨e, he⟩ := hex
 have hT := ahead_tb s p hp e he
 have hM := minE (a := p + 7 + 1 + 1) (b := s.size) he
 obtain ⟨i, hi, hwq⟩ := Option.map_eq_some_iff.1 h
 have hI := strings_IndexByte (s.extract p e)
 rw [idx_find, hT, hi] at hI
 have hI2 : AFn Tryz.prog 200 [av (.string (s.extract p (e : Int).toNat)), av (.int .u8 32)] [] (.one (vi (i : Nat))) [] := hI
 injection hwq with e1 e2
 have hil : i < 9 ∧ p + i < s.size := by
  rw [List.findIdx?_eq_some_iff_getElem] at hi
  obtain ⟨h1, _, _⟩ := hi
  rw [List.length_take, List.length_drop, tb_len] at h1
  omega
 have hsz : (s.extract p (e : Int).toNat).size = e - p := by rw [ByteArray.size_extract]; omega
 have hres : RV.tup [.one (vs ((s.extract p (e : Int).toNat).extract 0 i)), .one (vb true)] = RV.tup [.one (vs w), .one (vb true)] := by
  rw [← e1, show ((e : Int)).toNat = e by omega, ext_take s p e i (by omega)]
 have hb : (0 : Int) ≤ p ∧ (p : Int) ≤ (e : Int) ∧ (e : Int) ≤ s.size := by omega
 have hb2 : (0 : Int) ≤ 0 ∧ (0 : Int) ≤ (i : Int) ∧ (i : Int) ≤ ((s.extract p (e : Int).toNat).size : Int) := by omega
 have hq : ((p : Int) + ((i + 1 : Nat) : Int)) = (q : Int) := by omega
 clear hsz e2
 rw [← hM] at hI2 hres hb hb2
 clear hI hT hi h
 refine AFnK.introX (E := En 1 md0) (en_ok 1 md0) Tryz.func180 rfl rfl rfl fun _ _ => ?_
 refine Num.mk _ (wrapS (by omega)) ?_
 refine Num.mk _ (wrapS (by omega)) ?_
 refine Need.mk hb ?_
 refine Need.mk rfl ?_
 refine ACall.mk _ _ hI2 ?_
 refine sp0 ?_
 refine Num.mk _ (wrapS (by omega)) ?_
 refine Num.mk (q : Int) (by rw [wrapI] <;> omega) ?_
 refine Need.mk hb2 ?_
 exact Need.mk ⟨[], _, .same, hres, rfl⟩ trivial
theorem reader_wordN (s : ByteArray) (p : Nat) (hs : s.size ≤ 1048576) (hp : p ≤ s.size) (h : wordB s p = none) : AFnK Tryz.prog 180 [.bx 0 0] [lrd s p] [0] (.tup [.one (vs ⟨#[]⟩), .one (vb false)]) [lrd s p] := by
 have hex : ∃ e : Nat, e = min s.size (p + 9) := ⟨_, rfl⟩
 obtain ⟨e, he⟩ := hex
 have hT := ahead_tb s p hp e he
 have hM := minE (a := p + 7 + 1 + 1) (b := s.size) he
 have hi := Option.map_eq_none_iff.1 h
 have hI := strings_IndexByte (s.extract p e)
 rw [idx_find, hT, hi] at hI
 have hI2 : AFn Tryz.prog 200 [av (.string (s.extract p (e : Int).toNat)), av (.int .u8 32)] [] (.one (vi (-1))) [] := hI
 have hb : (0 : Int) ≤ p ∧ (p : Int) ≤ (e : Int) ∧ (e : Int) ≤ s.size := by omega
 rw [← hM] at hI2 hb
 clear hI hT hi h
 refine AFnK.introX (E := En 1 md0) (en_ok 1 md0) Tryz.func180 rfl rfl rfl fun _ _ => ?_
 refine Num.mk _ (wrapS (by omega)) ?_
 refine Num.mk _ (wrapS (by omega)) ?_
 refine Need.mk hb ?_
 refine Need.mk rfl ?_
 refine ACall.mk _ _ hI2 ?_
 refine sp1 ?_
 exact Need.mk ⟨[], _, .same, rfl, rfl⟩ trivial
section
open Go.RowKit Go.Shelf
set_option maxHeartbeats 4000000 in
theorem num_walk (v0 : Value) (w : ByteArray) (hsz : w.size ≤ 281474976710656) (hA : Lib.atoiAll w.data.toList = Lib.NumEnd.ofOption none) (W : World) (G : World → Prop) (X : Ending → World → Prop) (hv : ∀ w1, G w1 → ∃ te pe, w1.cell? ⟨1, 0, none⟩ = some (.iface te pe))
  (hW : Calls Tryz.prog 180 #[v0] W fun e w' => e = .returned (.tuple #[.string w, .bool true]) ∧ G w')
  (hX : ∀ w1 w2, G w1 → Below w1.heap.size w1 w2 → X (.returned (.tuple #[.int .i64 0, .bool false])) w2) :
  Calls Tryz.prog 145 #[v0] W X := by
 have eWd : ∀ args w, (callFunc 180 args).run Tryz.prog w = .ok (.enter 180 args) w := enters_of Tryz.func180 (by kernel_rfl) rfl
 have eAt : ∀ args w, (callFunc 181 args).run Tryz.prog w = .ok (.enter 181 args) w := enters_of Tryz.func181 (by kernel_rfl) rfl
 have mx := mixed
 go_enter Tryz.func145, Tryz.ntmps145
 go_wp2_with (go_at_fn 180; refine hW.mono ?_)
 rintro e w1 ⟨rfl, hG⟩
 obtain ⟨te, pe, hv1⟩ := hv w1 hG
 go_wp2_with (go_at_fn 181; refine (Any.strconv_Atoi_syntax laysC172 w hsz hA _ _ hv1 (.inr ⟨te, pe, rfl⟩)).mono ?_)
 rintro e w2 ⟨N, rfl, h1, h2, h3⟩
 go_wp2
 go_region_o
 all_goals (go_wp2; exact hX _ _ hG (Below.drew h3))
set_option maxHeartbeats 4000000 in
theorem num_walkY (v0 : Value) (w : ByteArray) (hsz : w.size ≤ 1048576) (n : Int) (hA : Lib.atoiAll w.data.toList = .ok n) (W : World) (G : World → Prop) (X : Ending → World → Prop) 
  (hW : Calls Tryz.prog 180 #[v0] W fun e w' => e = .returned (.tuple #[.string w, .bool true]) ∧ G w')
  (hX : ∀ w1 w2, G w1 → Below w1.heap.size w1 w2 → X (.returned (.tuple #[.int .i64 n, .bool true])) w2) :
  Calls Tryz.prog 145 #[v0] W X := by
 have eWd : ∀ args w, (callFunc 180 args).run Tryz.prog w = .ok (.enter 180 args) w := enters_of Tryz.func180 (by kernel_rfl) rfl
 have eAt : ∀ args w, (callFunc 181 args).run Tryz.prog w = .ok (.enter 181 args) w := enters_of Tryz.func181 (by kernel_rfl) rfl
 have mx := mixed
 go_enter Tryz.func145, Tryz.ntmps145
 go_wp2_with (go_at_fn 180; refine hW.mono ?_)
 rintro e w1 ⟨rfl, hG⟩
 go_wp2_with (go_at_fn 181; refine (Any.strconv_Atoi_ok laysC172 w (by omega) n hA _).mono ?_)
 rintro e w2 ⟨rfl, hw2⟩
 have h3 : Below w1.heap.size w1 w2 := by
  rcases hw2 with rfl | ⟨t, rfl⟩
  ·exact Below.refl _ _
  ·exact Lib.bytesWorld_below w1 _ t
 clear hw2
 go_wp2
 go_region_o
 all_goals (go_wp2; exact hX _ _ hG (Below.drew h3))
theorem post_below {P : Program} {w w1 w2 : World} {F0 : Frs} {ow0 ow1 : Ev.Own} {L : Nat → Pl} {objs' : List (List C)} (hcx : CxOk P w F0 ow0) (hk : Keeps w w1 ow0) (ho : ∀ k p, ow1 k = some p → k < w1.heap.size ∧ (ow0 k ≠ none ∨ w.heap.size ≤ k))
  (hobj : ∀ (id : Nat) (cells : List C), objs'[id]? = some cells → ObjR P w1 (FF w F0 ow0 w1 ow1) ow1 id (L id) cells) (hb : Below w1.heap.size w1 w2) :
  Keeps w w2 ow0 ∧ (∀ k p, ow1 k = some p → k < w2.heap.size ∧ (ow0 k ≠ none ∨ w.heap.size ≤ k)) ∧ ∀ (id : Nat) (cells : List C), objs'[id]? = some cells → ObjR P w2 (FF w F0 ow0 w2 ow1) ow1 id (L id) cells := by
 refine ⟨⟨hb.os.trans hk.os, hb.tape.trans hk.tape, hb.output.trans hk.output, Nat.le_trans hk.size hb.size, fun k h1 h2 => (hb.block k (Nat.lt_of_lt_of_le h1 hk.size)).trans (hk.block k h1 h2)⟩, fun k p h => ⟨Nat.lt_of_lt_of_le (ho k p h).1 hb.size, (ho k p h).2⟩, fun id cells h => (hobj id cells h).move (fun k h1 => ?_) fun k r h1 => ⟨hb.block k (ho k _ h1).1, h1⟩⟩
 rcases h1 with h1 | ⟨h1, h2, h3⟩
 ·exact ⟨hb.block k (Nat.lt_of_lt_of_le (hcx.fr k h1).1 hk.size), .inl h1⟩
 ·exact ⟨hb.block k h1, .inr ⟨Nat.lt_of_lt_of_le h1 hb.size, h2, h3⟩⟩
theorem tuple_two {P : Program} {w : World} {F : Frs} {ow : Ev.Own} {m : Nat} {a b v : Value} (h : RVR P w F ow m 0 (.tup [.one (.v a), .one (.v b)]) v) : v = .tuple #[a, b] := by
 cases h with
 | tone h1 h2 =>
  cases h1
  cases h2 with
  | tone h3 h4 =>
   cases h3
   cases h4
   rfl
theorem reader_numberF (s : ByteArray) (p : Nat) (hs : s.size ≤ 1048576) (hp : p ≤ s.size) (w : ByteArray) (q : Nat) (h : wordB s p = some (w, q)) (hn : numI (tb w) = none) : AFnK Tryz.prog 145 [.bx 0 0] [lrd s p] [0] (.tup [.one (vi 0), .one (vb false)]) [lrd s q] := by
 have hW := reader_wordY s p hs hp w q h
 obtain ⟨_, _, _, hw8⟩ := wordB_some hp h
 have hA : Lib.atoiAll w.data.toList = Lib.NumEnd.ofOption none := by
  have := numI_atoi (w := tb w) (by rw [tb_len]; omega)
  rw [hn] at this
  exact this
 refine ⟨enters_of Tryz.func145 (by kernel_rfl) rfl, fun W F0 ow0 L vs hcx hlt hobj hks hvl hargs => ?_⟩
 match vs, hvl with
 | [v0], hvl =>
  refine num_walk v0 w (by omega) hA W (fun w1 => ∃ ow1 : Ev.Own, Keeps W w1 ow0 ∧ (∀ k p, ow1 k = some p → k < w1.heap.size ∧ (ow0 k ≠ none ∨ W.heap.size ≤ k)) ∧ ∀ (id : Nat) (cells : List C), [lrd s q][id]? = some cells → ObjR Tryz.prog w1 (FF W F0 ow0 w1 ow1) ow1 id (L id) cells) _ (fun w1 ⟨ow1, k1, k2, k3⟩ => ?_)
   ((hW.2 W F0 ow0 L [v0] hcx hlt hobj hks hvl hargs).mono ?_) (fun w1 w2 ⟨ow1, k1, k2, k3⟩ hb => ?_)
  ·obtain ⟨g1, g2, t, pe, g3⟩ := hcx.wp.2 1 (by kernel_rfl)
   exact ⟨t, pe, (cell_of_heap (k1.block 1 g1 g2)).trans g3⟩
  ·rintro e w1 ⟨v, ow1, rfl, k1, k2, k3, k4, k5⟩
   rw [tuple_two k3]
   exact ⟨rfl, ow1, k1, k2, k5⟩
  ·obtain ⟨j1, j2, j3⟩ := post_below hcx k1 k2 k3 hb
   exact ⟨_, ow1, rfl, j1, j2, .tone (.v rfl) (.tone (.v rfl) .tnil), rfl, j3⟩
theorem reader_numberT (s : ByteArray) (p : Nat) (hs : s.size ≤ 1048576) (hp : p ≤ s.size) (w : ByteArray) (q : Nat) (h : wordB s p = some (w, q)) (n : Int) (hn : numI (tb w) = some n) : AFnK Tryz.prog 145 [.bx 0 0] [lrd s p] [0] (.tup [.one (vi n), .one (vb true)]) [lrd s q] := by
 have hW := reader_wordY s p hs hp w q h
 obtain ⟨_, _, _, hw8⟩ := wordB_some hp h
 have hA : Lib.atoiAll w.data.toList = .ok n := by
  have := numI_atoi (w := tb w) (by rw [tb_len]; omega)
  rw [hn] at this
  exact this
 refine ⟨enters_of Tryz.func145 (by kernel_rfl) rfl, fun W F0 ow0 L vs hcx hlt hobj hks hvl hargs => ?_⟩
 match vs, hvl with
 | [v0], hvl =>
  refine num_walkY v0 w (by omega) n hA W (fun w1 => ∃ ow1 : Ev.Own, Keeps W w1 ow0 ∧ (∀ k p, ow1 k = some p → k < w1.heap.size ∧ (ow0 k ≠ none ∨ W.heap.size ≤ k)) ∧ ∀ (id : Nat) (cells : List C), [lrd s q][id]? = some cells → ObjR Tryz.prog w1 (FF W F0 ow0 w1 ow1) ow1 id (L id) cells) _
   ((hW.2 W F0 ow0 L [v0] hcx hlt hobj hks hvl hargs).mono ?_) (fun w1 w2 ⟨ow1, k1, k2, k3⟩ hb => ?_)
  ·rintro e w1 ⟨v, ow1, rfl, k1, k2, k3, k4, k5⟩
   rw [tuple_two k3]
   exact ⟨rfl, ow1, k1, k2, k5⟩
  ·obtain ⟨j1, j2, j3⟩ := post_below hcx k1 k2 k3 hb
   exact ⟨_, ow1, rfl, j1, j2, .tone (.v rfl) (.tone (.v rfl) .tnil), rfl, j3⟩
theorem reader_number (s : ByteArray) (p : Nat) (hs : s.size ≤ 1048576) (hp : p ≤ s.size) (n : Int) (c : Bool) (q : Nat) (h : numB s p = (n, c, q)) : AFnK Tryz.prog 145 [.bx 0 0] [lrd s p] [0] (.tup [.one (vi n), .one (vb c)]) [lrd s q] := by
 unfold numB at h
 cases hw : wordB s p with
 | none =>
  rw [hw] at h
  injection h with e1 h
  injection h with e2 e3
  subst e1; subst e2; subst e3
  have hW := reader_wordN s p hs hp hw
  refine AFnK.introX (E := En 1 md0) (en_ok 1 md0) Tryz.func145 rfl rfl rfl fun _ _ => ?_
  refine ACall.mk _ _ hW ?_
  refine sp0 ?_
  exact Need.mk ⟨[], _, .same, rfl, rfl⟩ trivial
 | some r =>
  obtain ⟨w, q'⟩ := r
  rw [hw] at h
  simp only at h
  cases hn : numI (tb w) with
  | none =>
   rw [hn] at h
   injection h with e1 h
   injection h with e2 e3
   subst e1; subst e2; subst e3
   exact reader_numberF s p hs hp w q' hw hn
  | some m =>
   rw [hn] at h
   injection h with e1 h
   injection h with e2 e3
   subst e1; subst e2; subst e3
   exact reader_numberT s p hs hp w q' hw m hn
theorem reader_takeY (s : ByteArray) (p n : Nat) (hs : s.size ≤ 1048576) (hp : p + n ≤ s.size) : AFnK Tryz.prog 146 [.bx 0 0, av (.int .i64 n)] [lrd s p] [0] (.tup [.one (vs (s.extract p (p + n))), .one (vb true)]) [lrd s (p + n)] := by
 have hq : ((p : Int) + (n : Int)) = ((p + n : Nat) : Int) := by omega
 have hsub : IntKind.i64.wrap ((p : Int) + (n : Int) - (n : Int)) = (p : Int) := by rw [wrapI] <;> omega
 refine AFnK.introX (E := En 1 md0) (en_ok 1 md0) Tryz.func146 rfl rfl rfl fun _ _ => ?_
 refine sp0 ?_
 refine Num.mk _ (wrapI (by omega) (by omega)) ?_
 refine spF (by omega) fun h2 => ?_
 refine Need.mk (rfl) ?_
 refine Num.mk _ (wrapI (by omega) (by omega)) ?_
 refine Num.mk _ hsub ?_
 refine nd ?_
 refine Need.mk (rfl) ?_
 exact Need.mk ⟨[], _, .same, rfl, rfl⟩ trivial
theorem reader_takeN (s : ByteArray) (p : Nat) (n : Int) (hs : s.size ≤ 1048576) (hp : p ≤ s.size) (h : n < 0 ∨ (s.size : Int) - p < n) : AFnK Tryz.prog 146 [.bx 0 0, av (.int .i64 n)] [lrd s p] [0] (.tup [.one (vs ⟨#[]⟩), .one (vb false)]) [lrd s p] := by
 by_cases hn : n < 0
 ·refine AFnK.introX (E := En 1 md0) (en_ok 1 md0) Tryz.func146 rfl rfl rfl fun _ _ => ?_
  refine spT (by omega) fun h1 => ?_
  refine Need.mk (rfl) ?_
  exact Need.mk ⟨[], _, .same, rfl, rfl⟩ trivial
 ·have h2 : (s.size : Int) - p < n := by omega
  refine AFnK.introX (E := En 1 md0) (en_ok 1 md0) Tryz.func146 rfl rfl rfl fun _ _ => ?_
  refine spF (by omega) fun h1 => ?_
  refine Num.mk _ (wrapI (by omega) (by omega)) ?_
  refine spT (by omega) fun h2 => ?_
  refine Need.mk (rfl) ?_
  exact Need.mk ⟨[], _, .same, rfl, rfl⟩ trivial
end
theorem reader_entryW (s : ByteArray) (p : Nat) (hs : s.size ≤ 1048576) (hp : p ≤ s.size) (h : wordB s p = none) : AFnK Tryz.prog 147 [.bx 0 0] [lrd s p] [0] (.tup [.agg ent0.enc, .one (vb false)]) [lrd s p] := by
 have hW := reader_wordN s p hs hp h
 refine AFnK.introX (E := En 1 md0) (en_ok 1 md0) Tryz.func147 rfl rfl rfl fun _ _ => ?_
 refine ACall.mk _ _ hW ?_
 refine sp0 ?_
 exact Need.mk ⟨[], _, .same, rfl, rfl⟩ trivial
theorem reader_entryX (s : ByteArray) (p : Nat) (hs : s.size ≤ 1048576) (hp : p ≤ s.size) (w : ByteArray) (N : Nat → Int) (Q : Nat → Nat) (hw : wordB s p = some (w, Q 0)) (k : Nat) (hk : k ≤ 4)
  (hY : ∀ i, i < k → numB s (Q i) = (N i, true, Q (i + 1))) (hN : k < 4 → numB s (Q k) = (0, false, Q (k + 1))) (hQ : ∀ i, i ≤ k → Q i ≤ s.size) (t : ByteArray) (c : Bool) (q : Nat) (hT : k = 4 → AFnK Tryz.prog 146 [.bx 0 0, av (.int .i64 (N 3))] [lrd s (Q 4)] [0] (.tup [.one (vs t), .one (vb c)]) [lrd s q])
  (r : RV) (o : List C) (hF : k < 4 → r = (.tup [.agg ent0.enc, .one (vb false)]) ∧ o = lrd s (Q (k + 1))) (hE : k = 4 → (c = true → r = (.tup [.agg [vs w, vi (N 0), vi (N 1), vs t, vi (N 2)], .one (vb true)])) ∧ (c = false → r = (.tup [.agg ent0.enc, .one (vb false)])) ∧ o = lrd s q) :
  AFnK Tryz.prog 147 [.bx 0 0] [lrd s p] [0] r [o] := by
 have hW := reader_wordY s p hs hp w (Q 0) hw
 have hrd : ∀ i, i < k → AFnK Tryz.prog 145 [.bx 0 0] [lrd s (Q i)] [0] (.tup [.one (vi (N i)), .one (vb true)]) [lrd s (Q (i + 1))] := fun i hi => reader_number s (Q i) hs (hQ i (by omega)) _ _ _ (hY i hi)
 have hrn : k < 4 → AFnK Tryz.prog 145 [.bx 0 0] [lrd s (Q k)] [0] (.tup [.one (vi 0), .one (vb false)]) [lrd s (Q (k + 1))] := fun hi => reader_number s (Q k) hs (hQ k (by omega)) _ _ _ (hN hi)
 refine AFnK.introX (E := En 1 md0) (en_ok 1 md0) Tryz.func147 rfl rfl rfl fun _ _ => ?_
 refine ACall.mk _ _ hW ?_
 refine sp1 ?_
 let S : Nat → Int → Int → Int → Int → Nat → St := fun i x0 x1 x2 x3 q => ⟨some (.bx 0 0) :: none :: some (.bx 3 0) :: none :: some (av (.string w)) :: none :: some (.bx 7 0) :: none :: none :: none :: none :: none :: none :: none :: none :: none :: none :: some (av (.int .i64 i)) :: List.replicate 32 none, ⟨0, 0, some [vs s, vi q]⟩ :: absent :: absent :: ⟨0, 0, some [vs ({ data := #[] }), vi 0, vi 0, vs ({ data := #[] }), vi 0]⟩ :: absent :: absent :: absent :: ⟨0, 0, some [vi x0, vi x1, vi x2, vi x3]⟩ :: List.replicate 43 absent⟩
 refine ALoop.mk (fun m st => ∃ i : Nat, m = 4 - i ∧ i ≤ k ∧ ((i = 0 ∧ st = S 0 0 0 0 0 (Q 0)) ∨ (i = 1 ∧ st = S 1 (N 0) 0 0 0 (Q 1)) ∨ (i = 2 ∧ st = S 2 (N 0) (N 1) 0 0 (Q 2)) ∨ (i = 3 ∧ st = S 3 (N 0) (N 1) (N 2) 0 (Q 3)) ∨ (i = 4 ∧ st = S 4 (N 0) (N 1) (N 2) (N 3) (Q 4))))
  ⟨_, _, Weak.nrm [true, false, true, false, true, false, true, false, false, false, false, false, false, false, false, false, false, true] [(0, 0), (3, 3), (7, 7)] rfl rfl rfl, 0, rfl, Nat.zero_le _, .inl ⟨rfl, rfl⟩⟩ ?_
 rintro m st ⟨i, rfl, hik, hcase⟩
 by_cases hlt : i < k
 ·have hR := hrd i hlt
  refine Or.elim hcase (fun hst => ?_) fun hcase => Or.elim hcase (fun hst => ?_) fun hcase => Or.elim hcase (fun hst => ?_) fun hcase => Or.elim hcase (fun hst => ?_) fun hst => absurd hst.1 (by omega)
  ·have hi := hst.1
   have h5 := hst.2
   clear hst hcase
   subst hi
   subst h5
   refine sp1 ?_
   refine ACall.mk _ _ hR ?_
   refine sp1 ?_
   refine nd ?_
   refine Num.mk _ (wrapS (by omega)) ?_
   exact ⟨_, _, by omega, Weak.nrm [true, false, true, false, true, false, true, false, false, false, false, false, false, false, false, false, false, true] [(0, 0), (3, 3), (7, 7)] rfl rfl rfl, 1, rfl, by omega, .inr (.inl ⟨rfl, rfl⟩)⟩
  ·have hi := hst.1
   have h5 := hst.2
   clear hst hcase
   subst hi
   subst h5
   refine sp1 ?_
   refine ACall.mk _ _ hR ?_
   refine sp1 ?_
   refine nd ?_
   refine Num.mk _ (wrapS (by omega)) ?_
   exact ⟨_, _, by omega, Weak.nrm [true, false, true, false, true, false, true, false, false, false, false, false, false, false, false, false, false, true] [(0, 0), (3, 3), (7, 7)] rfl rfl rfl, 2, rfl, by omega, .inr (.inr (.inl ⟨rfl, rfl⟩))⟩
  ·have hi := hst.1
   have h5 := hst.2
   clear hst hcase
   subst hi
   subst h5
   refine sp1 ?_
   refine ACall.mk _ _ hR ?_
   refine sp1 ?_
   refine nd ?_
   refine Num.mk _ (wrapS (by omega)) ?_
   exact ⟨_, _, by omega, Weak.nrm [true, false, true, false, true, false, true, false, false, false, false, false, false, false, false, false, false, true] [(0, 0), (3, 3), (7, 7)] rfl rfl rfl, 3, rfl, by omega, .inr (.inr (.inr (.inl ⟨rfl, rfl⟩)))⟩
  ·have hi := hst.1
   have h5 := hst.2
   clear hst hcase
   subst hi
   subst h5
   refine sp1 ?_
   refine ACall.mk _ _ hR ?_
   refine sp1 ?_
   refine nd ?_
   refine Num.mk _ (wrapS (by omega)) ?_
   exact ⟨_, _, by omega, Weak.nrm [true, false, true, false, true, false, true, false, false, false, false, false, false, false, false, false, false, true] [(0, 0), (3, 3), (7, 7)] rfl rfl rfl, 4, rfl, by omega, .inr (.inr (.inr (.inr ⟨rfl, rfl⟩)))⟩
 ·have hie : i = k := by omega
  clear hlt hY hN hQ hrd
  subst hie
  by_cases h4 : i = 4
  ·have hst : st = S 4 (N 0) (N 1) (N 2) (N 3) (Q 4) := by
    rcases hcase with h | h | h | h | h
    ·exact absurd h.1 (by omega)
    ·exact absurd h.1 (by omega)
    ·exact absurd h.1 (by omega)
    ·exact absurd h.1 (by omega)
    ·exact h.2
   have hT := hT h4
   have hE := hE h4
   have ho := hE.2.2
   clear hcase hF hrn
   subst ho
   cases c with
   | true =>
    have hr := hE.1 rfl
    clear hE
    subst hr
    subst hst
    refine sp0 ?_
    refine nd ?_
    refine ACall.mk _ _ hT ?_
    refine sp1 ?_
    refine nd ?_
    refine nd ?_
    refine nd ?_
    exact Need.mk ⟨[], _, .same, rfl, rfl⟩ trivial
   | false =>
    have hr := hE.2.1 rfl
    clear hE
    subst hr
    subst hst
    refine sp0 ?_
    refine nd ?_
    refine ACall.mk _ _ hT ?_
    refine sp0 ?_
    exact Need.mk ⟨[], _, .same, rfl, rfl⟩ trivial
  ·have hR := hrn (by omega)
   have hr := (hF (by omega)).1
   have ho := (hF (by omega)).2
   clear hF hE hT hrn
   subst hr
   subst ho
   refine Or.elim hcase (fun hst => ?_) fun hcase => Or.elim hcase (fun hst => ?_) fun hcase => Or.elim hcase (fun hst => ?_) fun hcase => Or.elim hcase (fun hst => ?_) fun hst => absurd hst.1 h4
   ·have hi := hst.1
    have h5 := hst.2
    clear hst hcase
    subst hi
    subst h5
    refine sp1 ?_
    refine ACall.mk _ _ hR ?_
    refine sp0 ?_
    refine nd ?_
    exact Need.mk ⟨[], _, .same, rfl, rfl⟩ trivial
   ·have hi := hst.1
    have h5 := hst.2
    clear hst hcase
    subst hi
    subst h5
    refine sp1 ?_
    refine ACall.mk _ _ hR ?_
    refine sp0 ?_
    refine nd ?_
    exact Need.mk ⟨[], _, .same, rfl, rfl⟩ trivial
   ·have hi := hst.1
    have h5 := hst.2
    clear hst hcase
    subst hi
    subst h5
    refine sp1 ?_
    refine ACall.mk _ _ hR ?_
    refine sp0 ?_
    refine nd ?_
    exact Need.mk ⟨[], _, .same, rfl, rfl⟩ trivial
   ·have hi := hst.1
    have h5 := hst.2
    clear hst hcase
    subst hi
    subst h5
    refine sp1 ?_
    refine ACall.mk _ _ hR ?_
    refine sp0 ?_
    refine nd ?_
    exact Need.mk ⟨[], _, .same, rfl, rfl⟩ trivial
theorem reader_entry (s : ByteArray) (p : Nat) (hs : s.size ≤ 1048576) (hp : p ≤ s.size) :
  (∃ (e : Ent) (q : Nat), RI.ent ((tb s).drop p) = some (e, (tb s).drop q) ∧ p < q ∧ q ≤ s.size ∧ AFnK Tryz.prog 147 [.bx 0 0] [lrd s p] [0] (.tup [.agg e.enc, .one (vb true)]) [lrd s q]) ∨
  (RI.ent ((tb s).drop p) = none ∧ ∃ q : Nat, AFnK Tryz.prog 147 [.bx 0 0] [lrd s p] [0] (.tup [.agg ent0.enc, .one (vb false)]) [lrd s q]) := by
 cases hw : wordB s p with
 | none =>
  have hR : RI.word ((tb s).drop p) = none := wordB_none.1 hw
  refine .inr ⟨?_, p, reader_entryW s p hs hp hw⟩
  unfold Rdr.ent
  rw [hR, Option.bind_none]
 | some r =>
  obtain ⟨w, p0⟩ := r
  obtain ⟨hR, l0, i0, w8⟩ := wordB_some hp hw
  have hR : RI.word ((tb s).drop p) = some (tb w, (tb s).drop p0) := hR
  have hent : RI.ent ((tb s).drop p) = (RI.numW ((tb s).drop p0)).bind fun a => (RI.numW a.2).bind fun b => (RI.numW b.2).bind fun c => (RI.numW c.2).bind fun d =>
    if 0 ≤ d.1 ∧ d.1 ≤ d.2.length then some (⟨bt (tb w), a.1, b.1, bt (d.2.take d.1.toNat), c.1⟩, d.2.drop d.1.toNat) else none := by
   unfold Rdr.ent
   rw [hR, Option.bind_some]
  rw [hent]
  clear hent hR
  have fail : ∀ (k : Nat) (N : Nat → Int) (Q : Nat → Nat), k < 4 → Q 0 = p0 → (∀ i, i < k → numB s (Q i) = (N i, true, Q (i + 1))) → numB s (Q k) = (0, false, Q (k + 1)) → (∀ i, i ≤ k → Q i ≤ s.size) →
    ∃ q : Nat, AFnK Tryz.prog 147 [.bx 0 0] [lrd s p] [0] (.tup [.agg ent0.enc, .one (vb false)]) [lrd s q] := fun k N Q hk h0 hY hN hQ =>
   ⟨Q (k + 1), reader_entryX s p hs hp w N Q (by rw [h0]; exact hw) k (by omega) hY (fun _ => hN) hQ ⟨#[]⟩ false 0 (fun h => absurd h (by omega)) _ _ (fun _ => ⟨rfl, rfl⟩) (fun h => absurd h (by omega))⟩
  have hex1 : ∃ x, numB s p0 = x := ⟨_, rfl⟩
  obtain ⟨⟨a, c1, p1⟩, h1⟩ := hex1
  cases c1 with
  | false =>
   obtain ⟨g1, g2⟩ := numB_no i0 h1
   subst g2
   refine .inr ⟨by rw [g1, Option.bind_none], ?_⟩
   refine fail 0 (fun _ => 0) (fun | 0 => p0 | _ => p1) (by decide) rfl (fun i hi => absurd hi (by omega)) h1 (fun i hi => ?_)
   have : i = 0 := by omega
   subst this
   exact i0
  | true =>
   obtain ⟨g1, l1, i1, n1, n1'⟩ := numB_ok i0 h1
   rw [g1]
   simp only [Option.bind_some]
   have hex2 : ∃ x, numB s p1 = x := ⟨_, rfl⟩
   obtain ⟨⟨b, c2, p2⟩, h2⟩ := hex2
   cases c2 with
   | false =>
    obtain ⟨g2, g2'⟩ := numB_no i1 h2
    subst g2'
    refine .inr ⟨by rw [g2, Option.bind_none], ?_⟩
    refine fail 1 (fun _ => a) (fun | 0 => p0 | 1 => p1 | _ => p2) (by decide) rfl (fun i hi => ?_) h2 (fun i hi => ?_)
    ·have : i = 0 := by omega
     subst this; exact h1
    ·rcases (by omega : i = 0 ∨ i = 1) with rfl | rfl
     ·exact i0
     ·exact i1
   | true =>
    obtain ⟨g2, l2, i2, n2, n2'⟩ := numB_ok i1 h2
    rw [g2]
    simp only [Option.bind_some]
    have hex3 : ∃ x, numB s p2 = x := ⟨_, rfl⟩
    obtain ⟨⟨c, c3, p3⟩, h3⟩ := hex3
    cases c3 with
    | false =>
     obtain ⟨g3, g3'⟩ := numB_no i2 h3
     subst g3'
     refine .inr ⟨by rw [g3, Option.bind_none], ?_⟩
     refine fail 2 (fun | 0 => a | _ => b) (fun | 0 => p0 | 1 => p1 | 2 => p2 | _ => p3) (by decide) rfl (fun i hi => ?_) h3 (fun i hi => ?_)
     ·rcases (by omega : i = 0 ∨ i = 1) with rfl | rfl
      ·exact h1
      ·exact h2
     ·rcases (by omega : i = 0 ∨ i = 1 ∨ i = 2) with rfl | rfl | rfl
      ·exact i0
      ·exact i1
      ·exact i2
    | true =>
     obtain ⟨g3, l3, i3, n3, n3'⟩ := numB_ok i2 h3
     rw [g3]
     simp only [Option.bind_some]
     have hex4 : ∃ x, numB s p3 = x := ⟨_, rfl⟩
     obtain ⟨⟨d, c4, p4⟩, h4⟩ := hex4
     cases c4 with
     | false =>
      obtain ⟨g4, g4'⟩ := numB_no i3 h4
      subst g4'
      refine .inr ⟨by rw [g4, Option.bind_none], ?_⟩
      refine fail 3 (fun | 0 => a | 1 => b | _ => c) (fun | 0 => p0 | 1 => p1 | 2 => p2 | 3 => p3 | _ => p4) (by decide) rfl (fun i hi => ?_) h4 (fun i hi => ?_)
      ·rcases (by omega : i = 0 ∨ i = 1 ∨ i = 2) with rfl | rfl | rfl
       ·exact h1
       ·exact h2
       ·exact h3
      ·rcases (by omega : i = 0 ∨ i = 1 ∨ i = 2 ∨ i = 3) with rfl | rfl | rfl | rfl
       ·exact i0
       ·exact i1
       ·exact i2
       ·exact i3
     | true =>
      obtain ⟨g4, l4, i4, n4, n4'⟩ := numB_ok i3 h4
      rw [g4]
      simp only [Option.bind_some]
      have hlen : ((tb s).drop p4).length = s.size - p4 := by rw [List.length_drop, tb_len]
      rw [hlen]
      have whole : ∀ (t : ByteArray) (q : Nat) (r : RV) (cc : Bool), AFnK Tryz.prog 146 [.bx 0 0, av (.int .i64 d)] [lrd s p4] [0] (.tup [.one (vs t), .one (vb cc)]) [lrd s q] →
        ((cc = true → r = (.tup [.agg [vs w, vi a, vi b, vs t, vi c], .one (vb true)])) ∧ (cc = false → r = (.tup [.agg ent0.enc, .one (vb false)]))) →
        AFnK Tryz.prog 147 [.bx 0 0] [lrd s p] [0] r [lrd s q] := fun t q r cc hT hr => by
       refine reader_entryX s p hs hp w (fun | 0 => a | 1 => b | 2 => c | _ => d) (fun | 0 => p0 | 1 => p1 | 2 => p2 | 3 => p3 | _ => p4) hw 4 (by omega) (fun i hi => ?_) (fun h => absurd h (by omega)) (fun i hi => ?_) t cc q (fun _ => hT) r _ (fun h => absurd h (by omega)) (fun _ => ⟨hr.1, hr.2, rfl⟩)
       ·rcases (by omega : i = 0 ∨ i = 1 ∨ i = 2 ∨ i = 3) with rfl | rfl | rfl | rfl
        ·exact h1
        ·exact h2
        ·exact h3
        ·exact h4
       ·rcases (by omega : i = 0 ∨ i = 1 ∨ i = 2 ∨ i = 3 ∨ i = 4) with rfl | rfl | rfl | rfl | rfl
        ·exact i0
        ·exact i1
        ·exact i2
        ·exact i3
        ·exact i4
      by_cases hd : 0 ≤ d ∧ d ≤ ((s.size - p4 : Nat) : Int)
      ·rw [if_pos hd]
       have e1 : ((d.toNat : Nat) : Int) = d := by omega
       have hT := reader_takeY s p4 d.toNat hs (by omega)
       rw [e1] at hT
       refine .inl ⟨⟨w, a, b, s.extract p4 (p4 + d.toNat), c⟩, p4 + d.toNat, ?_, by omega, by omega, whole _ _ _ true hT ⟨fun _ => rfl, fun h => nomatch h⟩⟩
       rw [bt_tb, extract_tb, List.drop_drop]
       congr 4
       congr 2
       omega
      ·rw [if_neg hd]
       have hT := reader_takeN s p4 d hs i4 (by omega)
       exact .inr ⟨rfl, p4, whole _ _ _ false hT ⟨(fun h => nomatch h), fun _ => rfl⟩⟩
theorem l9_Dec0 (k : Nat) (hk : k ≤ 9223372036854775807) : AFn Tryz.prog 177 [av (.int .i64 k)] [] (.one (vs (bt (Lib.decDigits k)))) [] := by
 refine AFn.introX (E := En 0 md0) (en_ok 0 md0) Tryz.func177 rfl rfl rfl fun _ _ => ?_
 refine sp0 ?_
 refine sp0 ?_
 refine ALoop.mk (fun m s => ∃ (j : Nat) (out : ByteArray), m = j ∧ j ≤ 9223372036854775807 ∧ bt (Lib.decDigits j ++ tb out) = bt (Lib.decDigits k) ∧ s = ⟨some (av (.int .i64 j)) :: none :: none :: some (av (.string out)) :: List.replicate 27 none, List.replicate 31 absent⟩)
  ⟨_, _, Weak.nrm [true, false, false, true] [] rfl rfl rfl, k, ⟨#[]⟩, rfl, hk, congrArg bt (List.append_nil _), rfl⟩ ?_
 rintro j s ⟨_, out, rfl, hj, hd, hs⟩
 have hsz := dec_size (by omega) hd
 subst hs
 refine Split.mk fun t ht => ?_
 cases t
 ·rw [decide_eq_false_iff_not] at ht
  refine Num.mk ((48 + j % 10 : Nat) : Int) (by rw [wrapI] <;> omega) ?_
  refine Num.mk ((48 + j % 10 : Nat) : Int) (by rw [wrapU8] <;> omega) ?_
  refine Need.mk (strFits1 (by omega)) ?_
  refine Need.mk ⟨[], _, .same, ?_, rfl⟩ trivial
  have e1 := (dec_last (out := out) (by omega)).trans hd
  rw [← e1]; rfl
 ·rw [decide_eq_true_iff] at ht
  have hj9 : 9 < j := by omega
  refine Need.mk (by decide) ?_
  refine Num.mk ((48 + j % 10 : Nat) : Int) (by rw [show ((j : Int).tmod 10) = ((j % 10 : Nat) : Int) from rfl, wrapI] <;> omega) ?_
  refine Num.mk ((48 + j % 10 : Nat) : Int) (by rw [wrapU8] <;> omega) ?_
  refine Need.mk (strFits1 (by omega)) ?_
  refine Need.mk (by decide) ?_
  refine Num.mk ((j / 10 : Nat) : Int) (by rw [show ((j : Int).tdiv 10) = ((j / 10 : Nat) : Int) from rfl, wrapI] <;> omega) ?_
  exact ⟨j / 10, _, by omega, Weak.nrm [true, false, false, true] [] rfl rfl rfl, j / 10, dig j ++ out, rfl, by omega, (dec_step hj9).trans hd, rfl⟩
theorem l6_Word (s : ByteArray) (p : Nat) (hs : s.size ≤ 1048576) (ha : p ≤ s.size) (w : ByteArray) (z : Int) (hr : wordA s p = (w, z)) : AFn Tryz.prog 196 [av (.string s), av (.int .i64 p)] [] (.tup [.one (vs w), .one (vi z)]) [] := by
 refine AFn.introX (E := En 0 md0) (en_ok 0 md0) Tryz.func196 rfl rfl rfl fun _ _ => ?_
 let S : Nat → St := fun i => ⟨some (av (.string s)) :: some (av (.int .i64 ↑p)) :: none :: none :: none :: none :: some (av (.int .i64 ↑i)) :: List.replicate 17 none, List.replicate 24 absent⟩
 refine ALoop.mk (fun m st => ∃ i : Nat, (p ≤ i ∧ i ≤ s.size) ∧ (∀ j : Nat, p ≤ j → j < i → byteAt s j ≠ 32) ∧ m = s.size - i ∧ st = S i)
  ⟨_, _, Weak.nrm [true, true, false, false, false, false, true] [] rfl rfl rfl, p, ⟨Nat.le_refl _, ha⟩, fun j h1 h2 => absurd h1 (by omega), rfl, rfl⟩ ?_
 rintro m st ⟨i, hi, hn, rfl, hst⟩
 by_cases hlt : i < s.size
 ·by_cases hb : byteAt s i = 32
  ·have hres : RV.tup [.one (vs (s.extract p i)), .one (vi ((i + 1 : Nat) : Int))] = RV.tup [.one (vs w), .one (vi z)] := by
    have := (wordA_hit hi.1 hlt hb hn).symm.trans hr
    injection this with h1 h2
    rw [h1, h2]
   subst hst
   refine spT (by omega) fun h1 => ?_
   refine nd ?_
   refine sqT (by omega) fun h2 => ?_
   refine nd ?_
   refine Num.mk _ (wrapS (by omega)) ?_
   exact Need.mk ⟨[], _, .same, hres, rfl⟩ trivial
  ·have hnn : ∀ j : Nat, p ≤ j → j < i + 1 → byteAt s j ≠ 32 := fun j h1 h2 => by
    by_cases he : j = i
    ·rw [he]; exact hb
    ·exact hn j h1 (by omega)
   subst hst
   refine spT (by omega) fun h1 => ?_
   refine nd ?_
   refine sqF (by omega) fun h2 => ?_
   refine Num.mk _ (wrapS (by omega)) ?_
   exact ⟨_, _, by omega, Weak.nrm [true, true, false, false, false, false, true] [] rfl rfl rfl, i + 1, by omega, hnn, rfl, rfl⟩
 ·have hres : RV.tup [.one (vs ⟨#[]⟩), .one (vi (-1))] = RV.tup [.one (vs w), .one (vi z)] := by
   have := (wordA_none fun j h1 h2 => hn j h1 (by omega)).symm.trans hr
   injection this with h1 h2
   rw [h1, h2]
  subst hst
  refine spF (by omega) fun h1 => ?_
  exact Need.mk ⟨[], _, .same, hres, rfl⟩ trivial
theorem l9_DecN (n : Int) (k : Nat) (hn : n = -(k : Int)) (hk : 0 < k) (hm : k ≤ 9223372036854775807) (h0 : AFn Tryz.prog 177 [av (.int .i64 (0 - n))] [] (.one (vs (bt (Lib.decDigits k)))) []) : AFn Tryz.prog 177 [av (.int .i64 n)] [] (.one (vs (bt [45] ++ bt (Lib.decDigits k)))) [] := by
 have hsz : (bt (Lib.decDigits k)).size ≤ 19 := by
  rw [bt_size, Lib.decDigits_length]
  exact nD_le 18 k (by omega)
 refine AFn.introX (E := En 0 md0) (en_ok 0 md0) Tryz.func177 rfl rfl rfl fun _ _ => ?_
 refine spF (by omega) fun h1 => ?_
 refine spT (by omega) fun h2 => ?_
 refine Num.mk _ (wrapI (by omega) (by omega)) ?_
 refine ACall.mk _ _ h0 ?_
 refine Need.mk (strFits1 (by omega)) ?_
 exact Need.mk ⟨[], _, .same, rfl, rfl⟩ trivial
theorem l9_Dec (n : Int) (h1 : -9223372036854775807 ≤ n) (h2 : n ≤ 9223372036854775807) : AFn Tryz.prog 177 [av (.int .i64 n)] [] (.one (vs (bt (Lib.itoa n)))) [] := by
 by_cases h : 0 ≤ n
 ·have := l9_Dec0 n.toNat (by omega)
  rw [show ((n.toNat : Nat) : Int) = n by omega] at this
  rw [itoa_pos h]
  exact this
 ·have h0 := l9_Dec0 n.natAbs (by omega)
  rw [show ((n.natAbs : Nat) : Int) = 0 - n by omega] at h0
  have := l9_DecN n n.natAbs (by omega) (by omega) (by omega) h0
  rw [itoa_neg (by omega)]
  rw [bt_app] at this
  exact this
theorem l9_NumY (s : ByteArray) (hs : s.size ≤ 1048576) (h0 : s.size = 0 ∨ byteAt s 0 ≠ 45) (n : Int) (c : Bool) (hr : (numP false s = none ∧ n = 0 ∧ c = false) ∨ (numP false s = some n ∧ c = true)) : AFn Tryz.prog 197 [av (.string s)] [] (.tup [.one (vi n), .one (vb c)]) [] := by
 have hN : numP false s = none → RV.tup [.one (vi 0), .one (vb false)] = RV.tup [.one (vi n), .one (vb c)] := fun h => by
  rcases hr with ⟨_, h1, h2⟩ | ⟨h1, _⟩
  ·rw [h1, h2]
  ·rw [h] at h1; cases h1
 by_cases hz : s.size = 0
 ·have hres := hN (by unfold numP; rw [if_pos (.inl hz)])
  refine AFn.introX (E := En 0 md0) (en_ok 0 md0) Tryz.func197 rfl rfl rfl fun _ _ => ?_
  refine spF (by omega) fun h1 => ?_
  refine sqT (by omega) fun h2 => ?_
  exact Need.mk ⟨[], _, .same, hres, rfl⟩ trivial
 ·have hz1 : 0 < s.size := by omega
  have hm : byteAt s 0 ≠ 45 := by omega
  by_cases h17 : 17 < s.size
  ·have hres := hN (by unfold numP; rw [if_pos (.inr (.inl h17))])
   refine AFn.introX (E := En 0 md0) (en_ok 0 md0) Tryz.func197 rfl rfl rfl fun _ _ => ?_
   refine spT (by omega) fun h1 => ?_
   refine nd ?_
   refine sqF (by omega) fun h2 => ?_
   refine sqF (by omega) fun h3 => ?_
   refine spT (by omega) fun h4 => ?_
   exact Need.mk ⟨[], _, .same, hres, rfl⟩ trivial
  ·by_cases h48 : byteAt s 0 = 48
   ·by_cases hl1 : 1 < s.size
    ·have hres := hN (by unfold numP; rw [if_pos (.inr (.inr ⟨h48, .inl hl1⟩))])
     refine AFn.introX (E := En 0 md0) (en_ok 0 md0) Tryz.func197 rfl rfl rfl fun _ _ => ?_
     refine spT (by omega) fun h1 => ?_
     refine nd ?_
     refine sqF (by omega) fun h2 => ?_
     refine sqF (by omega) fun h3 => ?_
     refine spF (by omega) fun h4 => ?_
     refine nd ?_
     refine sqT (by omega) fun h5 => ?_
     refine spT (by omega) fun h6 => ?_
     exact Need.mk ⟨[], _, .same, hres, rfl⟩ trivial
    ·have hno : ¬ (s.size = 0 ∨ 17 < s.size ∨ (byteAt s 0 = 48 ∧ (1 < s.size ∨ false = true))) := by
      simp only [Bool.false_eq_true, or_false, or_true, and_true]
      omega
     have hnp : numP false s = (Lib.decFrom 0 (tb s)).map fun (m : Nat) => bif false then -(m : Int) else (m : Int) := by unfold numP; rw [if_neg hno]
     have hbad : ∀ i : Nat, i < s.size → (byteAt s i < 48 ∨ 57 < byteAt s i) → numP false s = none := fun i h1 h2 => by rw [hnp, dig_bad h1 h2]; rfl
     have hY : ∀ v : Nat, Lib.decFrom 0 (tb s) = some v → RV.tup [.one (vi ((v : Int))), .one (vb true)] = RV.tup [.one (vi n), .one (vb c)] := fun v h => by
      rw [h] at hnp
      rcases hr with ⟨h1, _⟩ | ⟨h1, h2⟩
      ·rw [hnp] at h1; cases h1
      ·rw [hnp] at h1
       have h3 : (v : Int) = n := by simpa using h1
       rw [h3, h2]
     refine AFn.introX (E := En 0 md0) (en_ok 0 md0) Tryz.func197 rfl rfl rfl fun _ _ => ?_
     refine spT (by omega) fun h1 => ?_
     refine nd ?_
     refine sqF (by omega) fun h2 => ?_
     refine sqF (by omega) fun h3 => ?_
     refine spF (by omega) fun h4 => ?_
     refine nd ?_
     refine sqT (by omega) fun h5 => ?_
     refine spF (by omega) fun h6 => ?_
     let S : Nat → Nat → St := fun i v => ⟨some (av (.string s)) :: none :: none :: none :: some (av (.bool false)) :: some (av (.int .i64 ↑v)) :: some (av (.int .i64 ↑i)) :: List.replicate 60 none, List.replicate 67 absent⟩
     refine ALoop.mk (fun m st => ∃ i v : Nat, i ≤ s.size ∧ Lib.decFrom 0 ((tb s).take i) = some v ∧ m = s.size - i ∧ st = S i v)
      ⟨_, _, Weak.nrm [true, false, false, false, true, true, true] [] rfl rfl rfl, 0, 0, Nat.zero_le _, rfl, rfl, rfl⟩ ?_
     rintro m st ⟨i, v, hi, hv, rfl, hst⟩
     have hvl := dig_lt (by omega) hi hv
     by_cases hlt : i < s.size
     ·by_cases hb1 : byteAt s i < 48
      ·have hres := hN (hbad i hlt (.inl hb1))
       subst hst
       refine spT (by omega) fun h1 => ?_
       refine nd ?_
       refine spT (by omega) fun h2 => ?_
       exact Need.mk ⟨[], _, .same, hres, rfl⟩ trivial
      ·by_cases hb2 : 57 < byteAt s i
       ·have hres := hN (hbad i hlt (.inr hb2))
        subst hst
        refine spT (by omega) fun h1 => ?_
        refine nd ?_
        refine spF (by omega) fun h2 => ?_
        refine nd ?_
        refine spT (by omega) fun h3 => ?_
        exact Need.mk ⟨[], _, .same, hres, rfl⟩ trivial
       ·have hv2 := dig_next hlt (by omega) (by omega) hv
        have hz48 : IntKind.u8.wrap (byteAt s i - 48) = (((byteAt s i).toNat - 48 : Nat) : Int) := by rw [show byteAt s i - 48 = (((byteAt s i).toNat - 48 : Nat) : Int) by omega, wrapU8] <;> omega
        subst hst
        refine spT (by omega) fun h1 => ?_
        refine nd ?_
        refine spF (by omega) fun h2 => ?_
        refine nd ?_
        refine spF (by omega) fun h3 => ?_
        refine Num.mk _ (wrapI (by omega) (by omega)) ?_
        refine nd ?_
        refine Num.mk _ hz48 ?_
        refine Num.mk _ (wrapI (by omega) (by omega)) ?_
        refine Num.mk _ (wrapI (by omega) (by omega)) ?_
        refine Num.mk _ (wrapS (by omega)) ?_
        exact ⟨_, _, by omega, Weak.nrm [true, false, false, false, true, true, true] [] rfl rfl rfl, i + 1, v * 10 + ((byteAt s i).toNat - 48), by omega, hv2, rfl, rfl⟩
     ·have hie : i = s.size := by omega
      have hres := hY v (by rw [hie, List.take_of_length_le (by rw [tb_len]; exact Nat.le_refl _)] at hv; exact hv)
      subst hst
      refine spF (by omega) fun h1 => ?_
      exact Need.mk ⟨[], _, .same, hres, rfl⟩ trivial
   ·have hno : ¬ (s.size = 0 ∨ 17 < s.size ∨ (byteAt s 0 = 48 ∧ (1 < s.size ∨ false = true))) := by
     simp only [Bool.false_eq_true, or_false, or_true, and_true]
     omega
    have hnp : numP false s = (Lib.decFrom 0 (tb s)).map fun (m : Nat) => bif false then -(m : Int) else (m : Int) := by unfold numP; rw [if_neg hno]
    have hbad : ∀ i : Nat, i < s.size → (byteAt s i < 48 ∨ 57 < byteAt s i) → numP false s = none := fun i h1 h2 => by rw [hnp, dig_bad h1 h2]; rfl
    have hY : ∀ v : Nat, Lib.decFrom 0 (tb s) = some v → RV.tup [.one (vi ((v : Int))), .one (vb true)] = RV.tup [.one (vi n), .one (vb c)] := fun v h => by
     rw [h] at hnp
     rcases hr with ⟨h1, _⟩ | ⟨h1, h2⟩
     ·rw [hnp] at h1; cases h1
     ·rw [hnp] at h1
      have h3 : (v : Int) = n := by simpa using h1
      rw [h3, h2]
    refine AFn.introX (E := En 0 md0) (en_ok 0 md0) Tryz.func197 rfl rfl rfl fun _ _ => ?_
    refine spT (by omega) fun h1 => ?_
    refine nd ?_
    refine sqF (by omega) fun h2 => ?_
    refine sqF (by omega) fun h3 => ?_
    refine spF (by omega) fun h4 => ?_
    refine nd ?_
    refine sqF (by omega) fun h5 => ?_
    let S : Nat → Nat → St := fun i v => ⟨some (av (.string s)) :: none :: none :: none :: some (av (.bool false)) :: some (av (.int .i64 ↑v)) :: some (av (.int .i64 ↑i)) :: List.replicate 60 none, List.replicate 67 absent⟩
    refine ALoop.mk (fun m st => ∃ i v : Nat, i ≤ s.size ∧ Lib.decFrom 0 ((tb s).take i) = some v ∧ m = s.size - i ∧ st = S i v)
     ⟨_, _, Weak.nrm [true, false, false, false, true, true, true] [] rfl rfl rfl, 0, 0, Nat.zero_le _, rfl, rfl, rfl⟩ ?_
    rintro m st ⟨i, v, hi, hv, rfl, hst⟩
    have hvl := dig_lt (by omega) hi hv
    by_cases hlt : i < s.size
    ·by_cases hb1 : byteAt s i < 48
     ·have hres := hN (hbad i hlt (.inl hb1))
      subst hst
      refine spT (by omega) fun h1 => ?_
      refine nd ?_
      refine spT (by omega) fun h2 => ?_
      exact Need.mk ⟨[], _, .same, hres, rfl⟩ trivial
     ·by_cases hb2 : 57 < byteAt s i
      ·have hres := hN (hbad i hlt (.inr hb2))
       subst hst
       refine spT (by omega) fun h1 => ?_
       refine nd ?_
       refine spF (by omega) fun h2 => ?_
       refine nd ?_
       refine spT (by omega) fun h3 => ?_
       exact Need.mk ⟨[], _, .same, hres, rfl⟩ trivial
      ·have hv2 := dig_next hlt (by omega) (by omega) hv
       have hz48 : IntKind.u8.wrap (byteAt s i - 48) = (((byteAt s i).toNat - 48 : Nat) : Int) := by rw [show byteAt s i - 48 = (((byteAt s i).toNat - 48 : Nat) : Int) by omega, wrapU8] <;> omega
       subst hst
       refine spT (by omega) fun h1 => ?_
       refine nd ?_
       refine spF (by omega) fun h2 => ?_
       refine nd ?_
       refine spF (by omega) fun h3 => ?_
       refine Num.mk _ (wrapI (by omega) (by omega)) ?_
       refine nd ?_
       refine Num.mk _ hz48 ?_
       refine Num.mk _ (wrapI (by omega) (by omega)) ?_
       refine Num.mk _ (wrapI (by omega) (by omega)) ?_
       refine Num.mk _ (wrapS (by omega)) ?_
       exact ⟨_, _, by omega, Weak.nrm [true, false, false, false, true, true, true] [] rfl rfl rfl, i + 1, v * 10 + ((byteAt s i).toNat - 48), by omega, hv2, rfl, rfl⟩
    ·have hie : i = s.size := by omega
     have hres := hY v (by rw [hie, List.take_of_length_le (by rw [tb_len]; exact Nat.le_refl _)] at hv; exact hv)
     subst hst
     refine spF (by omega) fun h1 => ?_
     exact Need.mk ⟨[], _, .same, hres, rfl⟩ trivial
theorem l9_NumN (s : ByteArray) (hs : s.size ≤ 1048576) (h0 : 0 < s.size) (h45 : byteAt s 0 = 45) (n : Int) (c : Bool) (hr : (numP true (s.extract (Int.toNat 1) (s.size : Int).toNat) = none ∧ n = 0 ∧ c = false) ∨ (numP true (s.extract (Int.toNat 1) (s.size : Int).toNat) = some n ∧ c = true)) : AFn Tryz.prog 197 [av (.string s)] [] (.tup [.one (vi n), .one (vb c)]) [] := by
 have hds : (s.extract (Int.toNat 1) (s.size : Int).toNat).size = s.size - 1 := by rw [extract_tb, bt_size, List.length_take, List.length_drop, tb_len]; omega
 have hN : numP true (s.extract (Int.toNat 1) (s.size : Int).toNat) = none → RV.tup [.one (vi 0), .one (vb false)] = RV.tup [.one (vi n), .one (vb c)] := fun h => by
  rcases hr with ⟨_, h1, h2⟩ | ⟨h1, _⟩
  ·rw [h1, h2]
  ·rw [h] at h1; cases h1
 by_cases hz : (s.extract (Int.toNat 1) (s.size : Int).toNat).size = 0
 ·have hres := hN (by unfold numP; rw [if_pos (.inl hz)])
  refine AFn.introX (E := En 0 md0) (en_ok 0 md0) Tryz.func197 rfl rfl rfl fun _ _ => ?_
  refine spT (by omega) fun h1 => ?_
  refine nd ?_
  refine sqT (by omega) fun h2 => ?_
  refine nd ?_
  refine sqT (by omega) fun h3 => ?_
  exact Need.mk ⟨[], _, .same, hres, rfl⟩ trivial
 ·have hz1 : 0 < (s.extract (Int.toNat 1) (s.size : Int).toNat).size := by omega
  by_cases h17 : 17 < (s.extract (Int.toNat 1) (s.size : Int).toNat).size
  ·have hres := hN (by unfold numP; rw [if_pos (.inr (.inl h17))])
   refine AFn.introX (E := En 0 md0) (en_ok 0 md0) Tryz.func197 rfl rfl rfl fun _ _ => ?_
   refine spT (by omega) fun h1 => ?_
   refine nd ?_
   refine sqT (by omega) fun h2 => ?_
   refine nd ?_
   refine sqF (by omega) fun h3 => ?_
   refine spT (by omega) fun h4 => ?_
   exact Need.mk ⟨[], _, .same, hres, rfl⟩ trivial
  ·by_cases h48 : byteAt (s.extract (Int.toNat 1) (s.size : Int).toNat) 0 = 48
   ·have hres := hN (by unfold numP; rw [if_pos (.inr (.inr ⟨h48, .inr rfl⟩))])
    refine AFn.introX (E := En 0 md0) (en_ok 0 md0) Tryz.func197 rfl rfl rfl fun _ _ => ?_
    refine spT (by omega) fun h1 => ?_
    refine nd ?_
    refine sqT (by omega) fun h2 => ?_
    refine nd ?_
    refine sqF (by omega) fun h3 => ?_
    refine spF (by omega) fun h4 => ?_
    refine nd ?_
    refine sqT (by omega) fun h5 => ?_
    refine Split.mk fun t h6 => ?_
    cases t
    ·skip
     rw [decide_eq_false_iff_not] at h6
     exact Need.mk ⟨[], _, .same, hres, rfl⟩ trivial
    ·skip
     rw [decide_eq_true_iff] at h6
     exact Need.mk ⟨[], _, .same, hres, rfl⟩ trivial
   ·have hno : ¬ ((s.extract (Int.toNat 1) (s.size : Int).toNat).size = 0 ∨ 17 < (s.extract (Int.toNat 1) (s.size : Int).toNat).size ∨ (byteAt (s.extract (Int.toNat 1) (s.size : Int).toNat) 0 = 48 ∧ (1 < (s.extract (Int.toNat 1) (s.size : Int).toNat).size ∨ true = true))) := by
     simp only [Bool.false_eq_true, or_false, or_true, and_true]
     omega
    have hnp : numP true (s.extract (Int.toNat 1) (s.size : Int).toNat) = (Lib.decFrom 0 (tb (s.extract (Int.toNat 1) (s.size : Int).toNat))).map fun (m : Nat) => bif true then -(m : Int) else (m : Int) := by unfold numP; rw [if_neg hno]
    have hbad : ∀ i : Nat, i < (s.extract (Int.toNat 1) (s.size : Int).toNat).size → (byteAt (s.extract (Int.toNat 1) (s.size : Int).toNat) i < 48 ∨ 57 < byteAt (s.extract (Int.toNat 1) (s.size : Int).toNat) i) → numP true (s.extract (Int.toNat 1) (s.size : Int).toNat) = none := fun i h1 h2 => by rw [hnp, dig_bad h1 h2]; rfl
    have hY : ∀ v : Nat, Lib.decFrom 0 (tb (s.extract (Int.toNat 1) (s.size : Int).toNat)) = some v → RV.tup [.one (vi (-(v : Int))), .one (vb true)] = RV.tup [.one (vi n), .one (vb c)] := fun v h => by
     rw [h] at hnp
     rcases hr with ⟨h1, _⟩ | ⟨h1, h2⟩
     ·rw [hnp] at h1; cases h1
     ·rw [hnp] at h1
      have h3 : -(v : Int) = n := by simpa using h1
      rw [h3, h2]
    refine AFn.introX (E := En 0 md0) (en_ok 0 md0) Tryz.func197 rfl rfl rfl fun _ _ => ?_
    refine spT (by omega) fun h1 => ?_
    refine nd ?_
    refine sqT (by omega) fun h2 => ?_
    refine nd ?_
    refine sqF (by omega) fun h3 => ?_
    refine spF (by omega) fun h4 => ?_
    refine nd ?_
    refine sqF (by omega) fun h5 => ?_
    let S : Nat → Nat → St := fun i v => ⟨some (av (.string (s.extract (Int.toNat 1) (s.size : Int).toNat))) :: none :: none :: none :: some (av (.bool true)) :: some (av (.int .i64 ↑v)) :: some (av (.int .i64 ↑i)) :: List.replicate 60 none, List.replicate 67 absent⟩
    refine ALoop.mk (fun m st => ∃ i v : Nat, i ≤ (s.extract (Int.toNat 1) (s.size : Int).toNat).size ∧ Lib.decFrom 0 ((tb (s.extract (Int.toNat 1) (s.size : Int).toNat)).take i) = some v ∧ m = (s.extract (Int.toNat 1) (s.size : Int).toNat).size - i ∧ st = S i v)
     ⟨_, _, Weak.nrm [true, false, false, false, true, true, true] [] rfl rfl rfl, 0, 0, Nat.zero_le _, rfl, rfl, rfl⟩ ?_
    rintro m st ⟨i, v, hi, hv, rfl, hst⟩
    have hvl := dig_lt (by omega) hi hv
    by_cases hlt : i < (s.extract (Int.toNat 1) (s.size : Int).toNat).size
    ·by_cases hb1 : byteAt (s.extract (Int.toNat 1) (s.size : Int).toNat) i < 48
     ·have hres := hN (hbad i hlt (.inl hb1))
      subst hst
      refine spT (by omega) fun h1 => ?_
      refine nd ?_
      refine spT (by omega) fun h2 => ?_
      exact Need.mk ⟨[], _, .same, hres, rfl⟩ trivial
     ·by_cases hb2 : 57 < byteAt (s.extract (Int.toNat 1) (s.size : Int).toNat) i
      ·have hres := hN (hbad i hlt (.inr hb2))
       subst hst
       refine spT (by omega) fun h1 => ?_
       refine nd ?_
       refine spF (by omega) fun h2 => ?_
       refine nd ?_
       refine spT (by omega) fun h3 => ?_
       exact Need.mk ⟨[], _, .same, hres, rfl⟩ trivial
      ·have hv2 := dig_next hlt (by omega) (by omega) hv
       have hz48 : IntKind.u8.wrap (byteAt (s.extract (Int.toNat 1) (s.size : Int).toNat) i - 48) = (((byteAt (s.extract (Int.toNat 1) (s.size : Int).toNat) i).toNat - 48 : Nat) : Int) := by rw [show byteAt (s.extract (Int.toNat 1) (s.size : Int).toNat) i - 48 = (((byteAt (s.extract (Int.toNat 1) (s.size : Int).toNat) i).toNat - 48 : Nat) : Int) by omega, wrapU8] <;> omega
       subst hst
       refine spT (by omega) fun h1 => ?_
       refine nd ?_
       refine spF (by omega) fun h2 => ?_
       refine nd ?_
       refine spF (by omega) fun h3 => ?_
       refine Num.mk _ (wrapI (by omega) (by omega)) ?_
       refine nd ?_
       refine Num.mk _ hz48 ?_
       refine Num.mk _ (wrapI (by omega) (by omega)) ?_
       refine Num.mk _ (wrapI (by omega) (by omega)) ?_
       refine Num.mk _ (wrapS (by omega)) ?_
       exact ⟨_, _, by omega, Weak.nrm [true, false, false, false, true, true, true] [] rfl rfl rfl, i + 1, v * 10 + ((byteAt (s.extract (Int.toNat 1) (s.size : Int).toNat) i).toNat - 48), by omega, hv2, rfl, rfl⟩
    ·have hie : i = (s.extract (Int.toNat 1) (s.size : Int).toNat).size := by omega
     have hres := hY v (by rw [hie, List.take_of_length_le (by rw [tb_len]; exact Nat.le_refl _)] at hv; exact hv)
     subst hst
     refine spF (by omega) fun h1 => ?_
     refine Num.mk (-(v : Int)) (by rw [wrapI (by omega) (by omega)]; omega) ?_
     exact Need.mk ⟨[], _, .same, hres, rfl⟩ trivial
theorem l9_Num (s : ByteArray) (hs : s.size ≤ 1048576) (n : Int) (c : Bool) (hr : (numS (tb s) = none ∧ n = 0 ∧ c = false) ∨ (numS (tb s) = some n ∧ c = true)) : AFn Tryz.prog 197 [av (.string s)] [] (.tup [.one (vi n), .one (vb c)]) [] := by
 by_cases h : 0 < s.size ∧ byteAt s 0 = 45
 ·rw [numS_neg h.1 h.2] at hr
  exact l9_NumN s hs h.1 h.2 n c hr
 ·have h0 : s.size = 0 ∨ byteAt s 0 ≠ 45 := by omega
  rw [numS_pos h0] at hr
  exact l9_NumY s hs h0 n c hr
theorem l6_NumB (s : ByteArray) (p : Int) (hp : p < 0) : AFn Tryz.prog 174 [av (.string s), av (.int .i64 p)] [] (.tup [.one (vi 0), .one (vi (-1))]) [] := by
 refine AFn.introX (E := En 0 md0) (en_ok 0 md0) Tryz.func174 rfl rfl rfl fun _ _ => ?_
 refine spT (by omega) fun h1 => ?_
 exact Need.mk ⟨[], _, .same, rfl, rfl⟩ trivial
theorem l6_NumN (s : ByteArray) (p : Nat) (hs : s.size ≤ 1048576) (ha : p ≤ s.size) (w : ByteArray) (z : Int) (hw : wordA s p = (w, z)) (hws : w.size ≤ 1048576) (hr : numS (tb w) = none) : AFn Tryz.prog 174 [av (.string s), av (.int .i64 p)] [] (.tup [.one (vi 0), .one (vi (-1))]) [] := by
 have hW := l6_Word s p hs ha w z hw
 have hN := l9_Num w hws 0 false (.inl ⟨hr, rfl, rfl⟩)
 refine AFn.introX (E := En 0 md0) (en_ok 0 md0) Tryz.func174 rfl rfl rfl fun _ _ => ?_
 refine sp0 ?_
 refine ACall.mk _ _ hW ?_
 refine ACall.mk _ _ hN ?_
 refine sp0 ?_
 exact Need.mk ⟨[], _, .same, rfl, rfl⟩ trivial
theorem l6_NumY (s : ByteArray) (p : Nat) (hs : s.size ≤ 1048576) (ha : p ≤ s.size) (w : ByteArray) (z n : Int) (hw : wordA s p = (w, z)) (hws : w.size ≤ 1048576) (hr : numS (tb w) = some n) : AFn Tryz.prog 174 [av (.string s), av (.int .i64 p)] [] (.tup [.one (vi n), .one (vi z)]) [] := by
 have hW := l6_Word s p hs ha w z hw
 have hN := l9_Num w hws n true (.inr ⟨hr, rfl⟩)
 refine AFn.introX (E := En 0 md0) (en_ok 0 md0) Tryz.func174 rfl rfl rfl fun _ _ => ?_
 refine sp0 ?_
 refine ACall.mk _ _ hW ?_
 refine ACall.mk _ _ hN ?_
 refine sp1 ?_
 exact Need.mk ⟨[], _, .same, rfl, rfl⟩ trivial
end Go.Proofs.YtpcimdalgpfkaaaGreatDoor
