/-
  Contracts of functions, part 1.
-/
import Derived.Test.YtlmdheeammfihaaEvD
import Derived.Test.YtlmdheeammfihaaProg
import Derived.KernelRfl
namespace Go.Proofs.Ytlmdheeammfihaa
open Go Go.Proofs Ev
def tab : List (TypeId × TI) := [
  (2, ⟨1, 8, false, .int .i64, [.int .i64 0], [none], none⟩),
  (3, ⟨1, 8, false, .int .i64, [.int .i64 0], [none], none⟩),
  (4, ⟨1, 1, false, .bool, [.bool false], [none], none⟩),
  (5, ⟨1, 1, false, .int .u8, [.int .u8 0], [none], none⟩),
  (9, ⟨1, 16, false, .str, [.string ⟨#[]⟩], [none], none⟩),
  (12, ⟨1, 8, false, .int .u64, [.int .u64 0], [none], none⟩),
  (20, ⟨1, 16, false, .other, [.nilIface], [none], none⟩),
  (21, ⟨1, 4, false, .int .i32, [.int .i32 0], [none], none⟩),
  (22, ⟨1, 24, false, .slice 5, [nilV], [some 5], none⟩),
  (23, ⟨1, 24, false, .slice 32, [nilV], [some 32], none⟩),
  (24, ⟨2, 32, true, .struct [(0, 23), (1, 3)], [nilV, .int .i64 0], [some 32, none], none⟩),
  (25, ⟨2, 32, true, .struct [(0, 23), (1, 3)], [nilV, .int .i64 0], [some 32, none], none⟩),
  (27, ⟨1, 8, false, .other, [.nilFunc], [none], none⟩),
  (28, ⟨1, 8, false, .other, [.nilFunc], [none], none⟩),
  (30, ⟨1, 8, false, .other, [.nilFunc], [none], none⟩),
  (31, ⟨5, 56, true, .struct [(0, 9), (1, 3), (2, 3), (3, 9), (4, 3)], [.string ⟨#[]⟩, .int .i64 0, .int .i64 0, .string ⟨#[]⟩, .int .i64 0], [none, none, none, none, none], some [.str, .int .i64, .int .i64, .str, .int .i64]⟩),
  (32, ⟨5, 56, true, .struct [(0, 9), (1, 3), (2, 3), (3, 9), (4, 3)], [.string ⟨#[]⟩, .int .i64 0, .int .i64 0, .string ⟨#[]⟩, .int .i64 0], [none, none, none, none, none], some [.str, .int .i64, .int .i64, .str, .int .i64]⟩),
  (33, ⟨1, 8, false, .other, [.nilFunc], [none], none⟩),
  (34, ⟨1, 8, false, .other, [.nilFunc], [none], none⟩),
  (36, ⟨1, 8, false, .other, [.nilFunc], [none], none⟩),
  (37, ⟨1, 8, false, .other, [.nilFunc], [none], none⟩),
  (38, ⟨1, 8, false, .other, [.nilFunc], [none], none⟩),
  (39, ⟨1, 8, false, .other, [.nilFunc], [none], none⟩),
  (40, ⟨1, 24, false, .slice 23, [nilV], [some 23], none⟩),
  (41, ⟨1, 8, false, .other, [.nilFunc], [none], none⟩),
  (43, ⟨1, 8, false, .other, [.nilFunc], [none], none⟩),
  (44, ⟨1, 8, false, .other, [.nilFunc], [none], none⟩),
  (45, ⟨3, 32, true, .struct [(0, 4), (1, 9), (2, 3)], [.bool false, .string ⟨#[]⟩, .int .i64 0], [none, none, none], some [.bool, .str, .int .i64]⟩),
  (46, ⟨3, 32, true, .struct [(0, 4), (1, 9), (2, 3)], [.bool false, .string ⟨#[]⟩, .int .i64 0], [none, none, none], some [.bool, .str, .int .i64]⟩),
  (47, ⟨1, 8, false, .other, [.nilFunc], [none], none⟩),
  (48, ⟨1, 24, false, .slice 3, [nilV], [some 3], none⟩),
  (50, ⟨1, 8, false, .other, [.nilFunc], [none], none⟩),
  (51, ⟨1, 8, false, .other, [.nilFunc], [none], none⟩),
  (52, ⟨1, 8, false, .other, [.nilFunc], [none], none⟩),
  (53, ⟨1, 24, false, .slice 158, [nilV], [some 158], none⟩),
  (54, ⟨1, 24, false, .slice 160, [nilV], [some 160], none⟩),
  (55, ⟨4, 80, true, .struct [(0, 3), (1, 53), (2, 54), (3, 48)], [.int .i64 0, nilV, nilV, nilV], [none, some 158, some 160, some 3], none⟩),
  (56, ⟨4, 80, true, .struct [(0, 3), (1, 53), (2, 54), (3, 48)], [.int .i64 0, nilV, nilV, nilV], [none, some 158, some 160, some 3], none⟩),
  (57, ⟨1, 8, false, .other, [.nilFunc], [none], none⟩),
  (58, ⟨1, 8, false, .other, [.nilFunc], [none], none⟩),
  (59, ⟨1, 24, false, .slice 112, [nilV], [some 112], none⟩),
  (60, ⟨4, 80, true, .struct [(0, 3), (1, 23), (2, 59), (3, 48)], [.int .i64 0, nilV, nilV, nilV], [none, some 32, some 112, some 3], none⟩),
  (61, ⟨4, 80, true, .struct [(0, 3), (1, 23), (2, 59), (3, 48)], [.int .i64 0, nilV, nilV, nilV], [none, some 32, some 112, some 3], none⟩),
  (62, ⟨1, 8, false, .other, [.nilFunc], [none], none⟩),
  (63, ⟨1, 8, false, .other, [.nilFunc], [none], none⟩),
  (64, ⟨1, 8, false, .other, [.nilFunc], [none], none⟩),
  (65, ⟨1, 8, false, .other, [.nilFunc], [none], none⟩),
  (66, ⟨1, 8, false, .other, [.nilFunc], [none], none⟩),
  (67, ⟨1, 8, false, .other, [.nilFunc], [none], none⟩),
  (68, ⟨1, 8, false, .other, [.nilFunc], [none], none⟩),
  (69, ⟨1, 8, false, .other, [.nilFunc], [none], none⟩),
  (70, ⟨1, 8, false, .other, [.nilFunc], [none], none⟩),
  (72, ⟨1, 8, false, .other, [.nilFunc], [none], none⟩),
  (73, ⟨1, 8, false, .other, [.nilFunc], [none], none⟩),
  (74, ⟨1, 8, false, .other, [.nilFunc], [none], none⟩),
  (75, ⟨1, 8, false, .ptr, [.pointer none], [none], none⟩),
  (76, ⟨1, 8, false, .other, [.nilFunc], [none], none⟩),
  (77, ⟨1, 8, false, .other, [.nilFunc], [none], none⟩),
  (78, ⟨1, 8, false, .other, [.nilFunc], [none], none⟩),
  (79, ⟨1, 8, false, .other, [.nilFunc], [none], none⟩),
  (80, ⟨1, 24, false, .slice 9, [nilV], [some 9], none⟩),
  (81, ⟨1, 8, false, .other, [.nilFunc], [none], none⟩),
  (82, ⟨1, 8, false, .other, [.nilFunc], [none], none⟩),
  (83, ⟨1, 8, false, .other, [.nilFunc], [none], none⟩),
  (84, ⟨1, 8, false, .other, [.nilFunc], [none], none⟩),
  (85, ⟨1, 8, false, .other, [.nilFunc], [none], none⟩),
  (86, ⟨1, 8, false, .other, [.nilFunc], [none], none⟩),
  (87, ⟨1, 8, false, .other, [.nilFunc], [none], none⟩),
  (88, ⟨1, 8, false, .other, [.nilFunc], [none], none⟩),
  (89, ⟨1, 8, false, .other, [.nilFunc], [none], none⟩),
  (90, ⟨1, 8, false, .other, [.nilFunc], [none], none⟩),
  (91, ⟨1, 8, false, .other, [.nilFunc], [none], none⟩),
  (92, ⟨1, 8, false, .other, [.nilFunc], [none], none⟩),
  (93, ⟨1, 24, false, .slice 96, [nilV], [some 96], none⟩),
  (94, ⟨1, 24, false, .slice 96, [nilV], [some 96], none⟩),
  (95, ⟨2, 32, true, .struct [(0, 23), (1, 3)], [nilV, .int .i64 0], [some 32, none], none⟩),
  (96, ⟨2, 32, true, .struct [(0, 23), (1, 3)], [nilV, .int .i64 0], [some 32, none], none⟩),
  (97, ⟨1, 8, false, .other, [.nilFunc], [none], none⟩),
  (98, ⟨1, 8, false, .ptr, [.pointer none], [none], none⟩),
  (99, ⟨1, 8, false, .other, [.nilFunc], [none], none⟩),
  (100, ⟨1, 8, false, .other, [.nilFunc], [none], none⟩),
  (101, ⟨1, 8, false, .other, [.nilFunc], [none], none⟩),
  (102, ⟨1, 8, false, .other, [.nilFunc], [none], none⟩),
  (103, ⟨1, 8, false, .other, [.nilFunc], [none], none⟩),
  (104, ⟨1, 8, false, .other, [.nilFunc], [none], none⟩),
  (105, ⟨1, 8, false, .other, [.nilFunc], [none], none⟩),
  (106, ⟨1, 8, false, .other, [.nilFunc], [none], none⟩),
  (107, ⟨1, 8, false, .other, [.nilFunc], [none], none⟩),
  (108, ⟨1, 8, false, .other, [.nilFunc], [none], none⟩),
  (109, ⟨1, 8, false, .other, [.nilFunc], [none], none⟩),
  (110, ⟨1, 8, false, .other, [.nilFunc], [none], none⟩),
  (111, ⟨1, 8, false, .other, [.nilFunc], [none], none⟩),
  (112, ⟨1, 24, false, .slice 25, [nilV], [some 25], none⟩),
  (113, ⟨1, 8, false, .other, [.nilFunc], [none], none⟩),
  (114, ⟨1, 8, false, .other, [.nilFunc], [none], none⟩),
  (115, ⟨1, 8, false, .other, [.nilFunc], [none], none⟩),
  (116, ⟨1, 8, false, .other, [.nilFunc], [none], none⟩),
  (117, ⟨1, 8, false, .other, [.nilFunc], [none], none⟩),
  (118, ⟨1, 8, false, .other, [.nilFunc], [none], none⟩),
  (119, ⟨1, 8, false, .other, [.nilFunc], [none], none⟩),
  (120, ⟨1, 8, false, .other, [.nilFunc], [none], none⟩),
  (121, ⟨1, 8, false, .other, [.nilFunc], [none], none⟩),
  (122, ⟨1, 8, false, .other, [.nilFunc], [none], none⟩),
  (123, ⟨1, 8, false, .other, [.nilFunc], [none], none⟩),
  (124, ⟨1, 8, false, .other, [.nilFunc], [none], none⟩),
  (125, ⟨1, 8, false, .other, [.nilFunc], [none], none⟩),
  (126, ⟨1, 8, false, .other, [.nilFunc], [none], none⟩),
  (127, ⟨1, 8, false, .other, [.nilFunc], [none], none⟩),
  (128, ⟨1, 8, false, .other, [.nilFunc], [none], none⟩),
  (129, ⟨2, 32, true, .struct [(0, 22), (1, 3)], [nilV, .int .i64 0], [some 5, none], none⟩),
  (130, ⟨2, 32, true, .struct [(0, 22), (1, 3)], [nilV, .int .i64 0], [some 5, none], none⟩),
  (131, ⟨1, 8, false, .other, [.nilFunc], [none], none⟩),
  (132, ⟨1, 8, false, .other, [.nilFunc], [none], none⟩),
  (133, ⟨1, 8, false, .other, [.nilFunc], [none], none⟩),
  (134, ⟨1, 8, false, .other, [.nilFunc], [none], none⟩),
  (135, ⟨1, 8, false, .other, [.nilFunc], [none], none⟩),
  (136, ⟨1, 8, false, .other, [.nilFunc], [none], none⟩),
  (137, ⟨1, 8, false, .other, [.nilFunc], [none], none⟩),
  (138, ⟨1, 8, false, .int .u64, [.int .u64 0], [none], none⟩),
  (139, ⟨1, 8, false, .other, [.nilFunc], [none], none⟩),
  (140, ⟨1, 16, false, .other, [.nilIface], [none], none⟩),
  (141, ⟨1, 16, false, .other, [.nilIface], [none], none⟩),
  (142, ⟨1, 8, false, .other, [.nilFunc], [none], none⟩),
  (143, ⟨1, 8, false, .other, [.nilFunc], [none], none⟩),
  (144, ⟨1, 8, false, .other, [.nilFunc], [none], none⟩),
  (145, ⟨1, 8, false, .other, [.nilFunc], [none], none⟩),
  (146, ⟨1, 16, false, .other, [.nilIface], [none], none⟩),
  (147, ⟨1, 16, false, .other, [.nilIface], [none], none⟩),
  (148, ⟨1, 8, false, .other, [.nilFunc], [none], none⟩),
  (149, ⟨1, 8, false, .other, [.nilFunc], [none], none⟩),
  (150, ⟨1, 8, false, .other, [.nilFunc], [none], none⟩),
  (151, ⟨1, 8, false, .other, [.nilFunc], [none], none⟩),
  (152, ⟨1, 8, false, .other, [.nilFunc], [none], none⟩),
  (153, ⟨1, 8, false, .other, [.nilFunc], [none], none⟩),
  (154, ⟨1, 8, false, .other, [.nilFunc], [none], none⟩),
  (155, ⟨1, 8, false, .other, [.nilFunc], [none], none⟩),
  (156, ⟨1, 8, false, .other, [.nilFunc], [none], none⟩),
  (157, ⟨1, 8, false, .other, [.nilFunc], [none], none⟩),
  (158, ⟨5, 56, true, .struct [(0, 9), (1, 3), (2, 3), (3, 9), (4, 3)], [.string ⟨#[]⟩, .int .i64 0, .int .i64 0, .string ⟨#[]⟩, .int .i64 0], [none, none, none, none, none], some [.str, .int .i64, .int .i64, .str, .int .i64]⟩),
  (159, ⟨1, 8, false, .other, [.nilFunc], [none], none⟩),
  (160, ⟨1, 24, false, .slice 188, [nilV], [some 188], none⟩),
  (161, ⟨1, 8, false, .other, [.nilFunc], [none], none⟩),
  (162, ⟨1, 8, false, .other, [.nilFunc], [none], none⟩),
  (163, ⟨1, 8, false, .map 9 3, [.map none], [none], none⟩),
  (164, ⟨1, 8, false, .other, [.nilFunc], [none], none⟩),
  (165, ⟨1, 8, false, .other, [.nilFunc], [none], none⟩),
  (166, ⟨1, 8, false, .other, [.nilFunc], [none], none⟩),
  (167, ⟨1, 24, false, .slice 48, [nilV], [some 48], none⟩),
  (168, ⟨1, 8, false, .other, [.nilFunc], [none], none⟩),
  (169, ⟨1, 8, false, .other, [.nilFunc], [none], none⟩),
  (170, ⟨1, 8, false, .other, [.nilFunc], [none], none⟩),
  (171, ⟨1, 8, false, .other, [.nilFunc], [none], none⟩),
  (172, ⟨1, 8, false, .other, [.nilFunc], [none], none⟩),
  (173, ⟨1, 8, false, .other, [.nilFunc], [none], none⟩),
  (174, ⟨2, 24, true, .struct [(0, 9), (1, 3)], [.string ⟨#[]⟩, .int .i64 0], [none, none], some [.str, .int .i64]⟩),
  (175, ⟨2, 24, true, .struct [(0, 9), (1, 3)], [.string ⟨#[]⟩, .int .i64 0], [none, none], some [.str, .int .i64]⟩),
  (176, ⟨0, 0, true, .struct [], [], [], some []⟩),
  (177, ⟨0, 0, true, .struct [], [], [], some []⟩),
  (178, ⟨1, 8, true, .struct [(0, 3)], [.int .i64 0], [none], some [.int .i64]⟩),
  (179, ⟨1, 8, true, .struct [(0, 3)], [.int .i64 0], [none], some [.int .i64]⟩),
  (180, ⟨0, 0, true, .struct [], [], [], some []⟩),
  (181, ⟨1, 8, false, .other, [.nilFunc], [none], none⟩),
  (182, ⟨1, 8, false, .other, [.nilFunc], [none], none⟩),
  (183, ⟨1, 8, false, .other, [.nilFunc], [none], none⟩),
  (185, ⟨1, 8, false, .other, [.nilFunc], [none], none⟩),
  (186, ⟨1, 8, false, .other, [.nilFunc], [none], none⟩),
  (187, ⟨2, 32, true, .struct [(0, 53), (1, 3)], [nilV, .int .i64 0], [some 158, none], none⟩),
  (188, ⟨2, 32, true, .struct [(0, 53), (1, 3)], [nilV, .int .i64 0], [some 158, none], none⟩),
  (189, ⟨1, 8, false, .other, [.nilFunc], [none], none⟩),
  (190, ⟨1, 8, false, .other, [.nilFunc], [none], none⟩),
  (191, ⟨1, 8, false, .other, [.nilFunc], [none], none⟩),
  (192, ⟨4, 40, true, .struct [(0, 17), (1, 17), (2, 17), (3, 9)], [.pointer none, .pointer none, .pointer none, .string ⟨#[]⟩], [none, none, none, none], none⟩),
  (193, ⟨4, 40, true, .struct [(0, 17), (1, 17), (2, 17), (3, 9)], [.pointer none, .pointer none, .pointer none, .string ⟨#[]⟩], [none, none, none, none], none⟩),
  (194, ⟨0, 0, true, .array 0 16, [], [], none⟩),
  (197, ⟨1, 4, false, .int .u32, [.int .u32 0], [none], none⟩),
  (198, ⟨1, 1, false, .int .u8, [.int .u8 0], [none], none⟩),
  (199, ⟨1, 1, false, .int .u8, [.int .u8 0], [none], none⟩),
  (200, ⟨1, 8, false, .other, [.nilFunc], [none], none⟩),
  (201, ⟨1, 8, false, .ptr, [.pointer none], [none], none⟩),
  (202, ⟨1, 4, false, .int .i32, [.int .i32 0], [none], none⟩),
  (203, ⟨1, 4, false, .int .i32, [.int .i32 0], [none], none⟩),
  (204, ⟨11, 48, true, .struct [(0, 12), (1, 12), (2, 197), (3, 198), (4, 5), (5, 5), (6, 199), (7, 200), (8, 201), (9, 202), (10, 203)], [.int .u64 0, .int .u64 0, .int .u32 0, .int .u8 0, .int .u8 0, .int .u8 0, .int .u8 0, .nilFunc, .pointer none, .int .i32 0, .int .i32 0], [none, none, none, none, none, none, none, none, none, none, none], none⟩),
  (205, ⟨11, 48, true, .struct [(0, 12), (1, 12), (2, 197), (3, 198), (4, 5), (5, 5), (6, 199), (7, 200), (8, 201), (9, 202), (10, 203)], [.int .u64 0, .int .u64 0, .int .u32 0, .int .u8 0, .int .u8 0, .int .u8 0, .int .u8 0, .nilFunc, .pointer none, .int .i32 0, .int .i32 0], [none, none, none, none, none, none, none, none, none, none, none], none⟩),
  (206, ⟨1, 8, false, .other, [.nilFunc], [none], none⟩),
  (207, ⟨1, 8, false, .other, [.nilFunc], [none], none⟩),
  (208, ⟨1, 8, false, .other, [.pointer none], [none], none⟩),
  (209, ⟨1, 8, false, .int .u64, [.int .u64 0], [none], none⟩)]
set_option maxRecDepth 100000
theorem tab_ok : tabB Try.prog tab = true := by kernel_rfl
theorem mixed : Try.prog.follows .mixedOrders = true := by kernel_rfl
def mtab : List (TypeId × String × MI) := [(98, "Len", .load 192 94), (98, "Less", .load 193 94), (98, "Pop", .val 195), (98, "Push", .val 201), (98, "Swap", .load 194 94), (175, "loop.example/comptoir/impl.on", .val 196), (177, "loop.example/comptoir/impl.on", .val 197), (179, "loop.example/comptoir/impl.on", .val 198), (180, "loop.example/comptoir/impl.on", .val 199)]
theorem mtab_ok : mtB Try.prog mtab = true := by kernel_rfl
noncomputable def En (m : Nat) (md : FuncId → Nat) (cb : List Nat := []) (vw : List Nat := []) (fz : List Nat := []) (fb : List Nat := []) : Env := ⟨Try.prog, findT tab, md, m, cb, mtab, vw, fz, fb⟩
theorem en_ok (m : Nat) (md : FuncId → Nat) (cb : List Nat := []) (vw : List Nat := []) (fz : List Nat := []) (fb : List Nat := []) : EOk (En m md cb vw fz fb) := eok_of tab_ok mtab_ok mixed
def md0 : FuncId → Nat := fun _ => 0
def md1 (l : List FuncId) : FuncId → Nat := fun f => bif l.elem f then 1 else 0
end Go.Proofs.Ytlmdheeammfihaa

namespace Go.Proofs.Ytlmdheeammfihaa
open Go Go.Proofs Ev
set_option maxRecDepth 100000
set_option linter.unusedSimpArgs false
set_option linter.unusedVariables false
set_option maxHeartbeats 1000000
theorem impl_KeyOk (s : ByteArray) (hs : s.size ≤ maxLen) : AFn Try.prog 158 [av (.string s)] [] (rb (keyOk s)) [] := by
  refine AFn.introX (E := En 0 md0) (en_ok 0 md0) Try.func158 rfl rfl rfl fun _ _ => ?_
  unfold maxLen at hs
  have fin : ∀ {c : Bool}, c = keyOk s → rb c = rb (keyOk s) := fun h => by rw [h]
  refine Split.mk fun t ht => ?_
  cases t
  case true => exact Need.mk ⟨[], _, .same, fin (keyOk_len (by simp at ht; omega)).symm, rfl⟩ trivial
  refine Split.mk fun t ht2 => ?_
  cases t
  case true => exact Need.mk ⟨[], _, .same, fin (keyOk_len (by simp at ht2; omega)).symm, rfl⟩ trivial
  have hsz : 1 ≤ s.size ∧ s.size ≤ 8 := by simp at ht ht2; omega
  refine ALoop.mk (fun m s' => ∃ i : Nat, i ≤ s.size ∧ m = s.size - i ∧ (∀ j : Nat, j < i → okc (byteAt s j) = true) ∧
      s' = ⟨some (av (.string s)) :: none :: some (av (.bool false)) :: none :: none :: none :: none :: none :: none :: none :: none :: none :: none :: none :: some (av (.int .i64 s.size)) :: some (av (.int .i64 i)) :: List.replicate 25 none, List.replicate 41 absent⟩)
    ⟨s.size, _, Weak.nrm [true, false, true, false, false, false, false, false, false, false, false, false, false, false, true, true] [] rfl rfl rfl, 0, Nat.zero_le _, rfl, by intro j hj; omega, rfl⟩ ?_
  rintro m s' ⟨i, hi, rfl, hall, rfl⟩
  refine Split.mk fun t ht => ?_
  cases t
  · have hin : i = s.size := by simp at ht; omega
    subst hin
    exact Need.mk ⟨[], _, .same, fin (by rw [keyOk_all hall]; simp [hsz]), rfl⟩ trivial
  have hia : i < s.size := by simpa using ht
  have more : okc (byteAt s i) = true → ∀ j : Nat, j < i + 1 → okc (byteAt s j) = true := fun hc j hj => by
    by_cases hji : j = i
    · rw [hji]; exact hc
    · exact hall j (by omega)
  refine Need.mk ⟨by omega, by omega⟩ ?_
  refine Split.mk fun t h1 => ?_
  cases t
  · refine Split.mk fun t h3 => ?_
    cases t
    · refine Split.mk fun t h5 => ?_
      cases t
      · have hc : okc (byteAt s i) = false := by simp at h1 h3 h5; simp [okc]; omega
        exact Need.mk ⟨[], _, .same, fin (keyOk_bad hia hc).symm, rfl⟩ trivial
      · have hc : okc (byteAt s i) = true := by simp at h1 h3 h5; simp [okc]; omega
        refine Num.mk _ (wrapS (by omega)) ?_
        exact ⟨s.size - (i + 1), _, by omega, Weak.nrm [true, false, true, false, false, false, false, false, false, false, false, false, false, false, true, true] [] rfl rfl rfl, i + 1, by omega, rfl, more hc, rfl⟩
    · refine Split.mk fun t h4 => ?_
      cases t
      · refine Split.mk fun t h5 => ?_
        cases t
        · have hc : okc (byteAt s i) = false := by simp at h1 h3 h4 h5; simp [okc]; omega
          exact Need.mk ⟨[], _, .same, fin (keyOk_bad hia hc).symm, rfl⟩ trivial
        · have hc : okc (byteAt s i) = true := by simp at h1 h3 h4 h5; simp [okc]; omega
          refine Num.mk _ (wrapS (by omega)) ?_
          exact ⟨s.size - (i + 1), _, by omega, Weak.nrm [true, false, true, false, false, false, false, false, false, false, false, false, false, false, true, true] [] rfl rfl rfl, i + 1, by omega, rfl, more hc, rfl⟩
      · have hc : okc (byteAt s i) = true := by simp at h1 h3 h4; simp [okc]; omega
        refine Num.mk _ (wrapS (by omega)) ?_
        exact ⟨s.size - (i + 1), _, by omega, Weak.nrm [true, false, true, false, false, false, false, false, false, false, false, false, false, false, true, true] [] rfl rfl rfl, i + 1, by omega, rfl, more hc, rfl⟩
  · refine Split.mk fun t h2 => ?_
    cases t
    · refine Split.mk fun t h3 => ?_
      cases t
      · refine Split.mk fun t h5 => ?_
        cases t
        · have hc : okc (byteAt s i) = false := by simp at h1 h2 h3 h5; simp [okc]; omega
          exact Need.mk ⟨[], _, .same, fin (keyOk_bad hia hc).symm, rfl⟩ trivial
        · have hc : okc (byteAt s i) = true := by simp at h1 h2 h3 h5; simp [okc]; omega
          refine Num.mk _ (wrapS (by omega)) ?_
          exact ⟨s.size - (i + 1), _, by omega, Weak.nrm [true, false, true, false, false, false, false, false, false, false, false, false, false, false, true, true] [] rfl rfl rfl, i + 1, by omega, rfl, more hc, rfl⟩
      · refine Split.mk fun t h4 => ?_
        cases t
        · refine Split.mk fun t h5 => ?_
          cases t
          · have hc : okc (byteAt s i) = false := by simp at h1 h2 h3 h4 h5; simp [okc]; omega
            exact Need.mk ⟨[], _, .same, fin (keyOk_bad hia hc).symm, rfl⟩ trivial
          · have hc : okc (byteAt s i) = true := by simp at h1 h2 h3 h4 h5; simp [okc]; omega
            refine Num.mk _ (wrapS (by omega)) ?_
            exact ⟨s.size - (i + 1), _, by omega, Weak.nrm [true, false, true, false, false, false, false, false, false, false, false, false, false, false, true, true] [] rfl rfl rfl, i + 1, by omega, rfl, more hc, rfl⟩
        · have hc : okc (byteAt s i) = true := by simp at h1 h2 h3 h4; simp [okc]; omega
          refine Num.mk _ (wrapS (by omega)) ?_
          exact ⟨s.size - (i + 1), _, by omega, Weak.nrm [true, false, true, false, false, false, false, false, false, false, false, false, false, false, true, true] [] rfl rfl rfl, i + 1, by omega, rfl, more hc, rfl⟩
    · have hc : okc (byteAt s i) = true := by simp at h1 h2; simp [okc]; omega
      refine Num.mk _ (wrapS (by omega)) ?_
      exact ⟨s.size - (i + 1), _, by omega, Weak.nrm [true, false, true, false, false, false, false, false, false, false, false, false, false, false, true, true] [] rfl rfl rfl, i + 1, by omega, rfl, more hc, rfl⟩
theorem spec_KeyOk (s : ByteArray) (hs : s.size ≤ maxLen) : AFn Try.prog 159 [av (.string s)] [] (rb (keyOk s)) [] := by
  refine AFn.introX (E := En 0 md0) (en_ok 0 md0) Try.func159 rfl rfl rfl fun _ _ => ?_
  unfold maxLen at hs
  have fin : ∀ {c : Bool}, c = keyOk s → rb c = rb (keyOk s) := fun h => by rw [h]
  refine ALoop.mk (fun m s' => ∃ i : Nat, i ≤ s.size ∧ m = s.size - i ∧ (∀ j : Nat, j < i → okc (byteAt s j) = true) ∧
      s' = ⟨some (av (.string s)) :: none :: some (av (.bool false)) :: some (av (.int .i64 i)) :: List.replicate 36 none, List.replicate 40 absent⟩)
    ⟨s.size, _, Weak.nrm [true, false, true, true] [] rfl rfl rfl, 0, Nat.zero_le _, rfl, by intro j hj; omega, rfl⟩ ?_
  rintro m s' ⟨i, hi, rfl, hall, rfl⟩
  refine Split.mk fun t ht => ?_
  cases t
  · have hin : i = s.size := by simp at ht; omega
    subst hin
    refine Split.mk fun t h1 => ?_
    cases t
    · exact Need.mk ⟨[], _, .same, fin (by rw [keyOk_all hall]; simp at h1; simp; omega), rfl⟩ trivial
    · refine Split.mk fun t h2 => ?_
      cases t
      · exact Need.mk ⟨[], _, .same, fin (by rw [keyOk_all hall]; simp at h1 h2; simp; omega), rfl⟩ trivial
      · exact Need.mk ⟨[], _, .same, fin (by rw [keyOk_all hall]; simp at h1 h2; simp; omega), rfl⟩ trivial
  have hia : i < s.size := by simpa using ht
  have more : okc (byteAt s i) = true → ∀ j : Nat, j < i + 1 → okc (byteAt s j) = true := fun hc j hj => by
    by_cases hji : j = i
    · rw [hji]; exact hc
    · exact hall j (by omega)
  refine Need.mk ⟨by omega, by omega⟩ ?_
  refine Split.mk fun t h1 => ?_
  cases t
  · refine Need.mk ⟨by omega, by omega⟩ ?_
    refine Split.mk fun t h2 => ?_
    cases t
    · have hc : okc (byteAt s i) = true := by simp at h1 h2; simp [okc]; omega
      refine Num.mk _ (wrapS (by omega)) ?_
      exact ⟨s.size - (i + 1), _, by omega, Weak.nrm [true, false, true, true] [] rfl rfl rfl, i + 1, by omega, rfl, more hc, rfl⟩
    · refine Need.mk ⟨by omega, by omega⟩ ?_
      refine Split.mk fun t h3 => ?_
      cases t
      · refine Need.mk ⟨by omega, by omega⟩ ?_
        refine Split.mk fun t h4 => ?_
        cases t
        · have hc : okc (byteAt s i) = true := by simp at h1 h2 h3 h4; simp [okc]; omega
          refine Num.mk _ (wrapS (by omega)) ?_
          exact ⟨s.size - (i + 1), _, by omega, Weak.nrm [true, false, true, true] [] rfl rfl rfl, i + 1, by omega, rfl, more hc, rfl⟩
        · have hc : okc (byteAt s i) = false := by simp at h1 h2 h3 h4; simp [okc]; omega
          exact Need.mk ⟨[], _, .same, fin (keyOk_bad hia hc).symm, rfl⟩ trivial
      · have hc : okc (byteAt s i) = false := by simp at h1 h2 h3; simp [okc]; omega
        exact Need.mk ⟨[], _, .same, fin (keyOk_bad hia hc).symm, rfl⟩ trivial
  · refine Need.mk ⟨by omega, by omega⟩ ?_
    refine Split.mk fun t h3 => ?_
    cases t
    · refine Need.mk ⟨by omega, by omega⟩ ?_
      refine Split.mk fun t h4 => ?_
      cases t
      · have hc : okc (byteAt s i) = true := by simp at h1 h3 h4; simp [okc]; omega
        refine Num.mk _ (wrapS (by omega)) ?_
        exact ⟨s.size - (i + 1), _, by omega, Weak.nrm [true, false, true, true] [] rfl rfl rfl, i + 1, by omega, rfl, more hc, rfl⟩
      · have hc : okc (byteAt s i) = false := by simp at h1 h3 h4; simp [okc]; omega
        exact Need.mk ⟨[], _, .same, fin (keyOk_bad hia hc).symm, rfl⟩ trivial
    · have hc : okc (byteAt s i) = false := by simp at h1 h3; simp [okc]; omega
      exact Need.mk ⟨[], _, .same, fin (keyOk_bad hia hc).symm, rfl⟩ trivial
theorem impl_EntryLess (a b : Ent) : AFn Try.prog 32 [.agg (a.enc.map .c), .agg (b.enc.map .c)] [] (rb (eLess a b)) [] := by
  refine AFn.introX (E := En 0 md0) (en_ok 0 md0) Try.func32 rfl rfl rfl fun _ _ => ?_
  have fin : ∀ {c : Bool}, c = eLess a b → rb c = rb (eLess a b) := fun h => by rw [h]
  refine Split.mk fun t ht => ?_
  rw [bytes_beq] at ht
  cases t
  · have he : a.key = b.key := by simpa using ht
    refine Split.mk fun t ht2 => ?_
    exact Need.mk ⟨[], _, .same, fin (by rw [← ht2]; simp [eLess, he, slt_irr]), rfl⟩ trivial
  · have he : a.key ≠ b.key := by simpa using ht
    refine Split.mk fun t ht2 => ?_
    exact Need.mk ⟨[], _, .same, fin (by rw [← ht2]; simp [eLess, he]), rfl⟩ trivial
theorem spec_EntryLess (a b : Ent) : AFn Try.prog 125 [.agg (a.enc.map .c), .agg (b.enc.map .c)] [] (rb (eLess a b)) [] := by
  refine AFn.introX (E := En 0 md0) (en_ok 0 md0) Try.func125 rfl rfl rfl fun _ _ => ?_
  have fin : ∀ {c : Bool}, c = eLess a b → rb c = rb (eLess a b) := fun h => by rw [h]
  refine Split.mk fun t ht => ?_
  have ht : slt a.key b.key = t := ht
  cases t
  · refine Split.mk fun t ht2 => ?_
    rw [bytes_beq] at ht2
    cases t
    · exact Need.mk ⟨[], _, .same, fin (by simp at ht2; simp [eLess, ht, ht2]), rfl⟩ trivial
    · refine Split.mk fun t ht3 => ?_
      exact Need.mk ⟨[], _, .same, fin (by rw [← ht3]; simp at ht2; simp [eLess, ht2, slt_irr]), rfl⟩ trivial
  · exact Need.mk ⟨[], _, .same, fin (by simp [eLess, ht]), rfl⟩ trivial
end Go.Proofs.Ytlmdheeammfihaa

namespace Go.Proofs.Ytlmdheeammfihaa
open Go Go.Proofs Ev
set_option maxRecDepth 100000
set_option linter.unusedSimpArgs false
set_option linter.unusedVariables false
set_option maxHeartbeats 1000000
theorem spec_l3Sum (n : Int) : AFn Try.prog 160 [av (.int .i64 n)] [] (rb (sumOk n)) [] := by
  refine AFn.introX (E := En 0 md0) (en_ok 0 md0) Try.func160 rfl rfl rfl fun _ _ => ?_
  have fin : ∀ {c : Bool}, c = sumOk n → rb c = rb (sumOk n) := fun h => by rw [h]
  refine Split.mk fun t h1 => ?_
  cases t
  · exact Need.mk ⟨[], _, .same, fin (by simp at h1; simp [sumOk]; omega), rfl⟩ trivial
  · refine Split.mk fun t h2 => ?_
    cases t
    · exact Need.mk ⟨[], _, .same, fin (by simp at h1 h2; simp [sumOk]; omega), rfl⟩ trivial
    · exact Need.mk ⟨[], _, .same, fin (by simp at h1 h2; simp [sumOk]; omega), rfl⟩ trivial
theorem impl_EntryOk (e : Ent) (he : e.Ok) : AFn Try.prog 123 [.agg (e.enc.map .c)] [] (rb (entOk e)) [] := by
  refine AFn.introX (E := En 0 md0) (en_ok 0 md0) Try.func123 rfl rfl rfl fun _ _ => ?_
  have fin : ∀ {c : Bool}, c = entOk e → rb c = rb (entOk e) := fun h => by rw [h]
  refine ACall.mk _ _ (impl_KeyOk e.key he.1) ?_
  refine Split.mk fun t h_k => ?_
  cases t
  · have f_k : keyOk e.key = false := by exact h_k
    exact Need.mk ⟨[], _, .same, fin (by simp [entOk, f_k]), rfl⟩ trivial
  · refine Split.mk fun t h_s1 => ?_
    cases t
    · refine Split.mk fun t h_s2 => ?_
      cases t
      · refine Split.mk fun t h_tx => ?_
        cases t
        · refine Split.mk fun t h_n1 => ?_
          cases t
          · refine Split.mk fun t h_n2 => ?_
            cases t
            · refine Split.mk fun t h_c1 => ?_
              cases t
              · refine Split.mk fun t h_c2 => ?_
                cases t
                · refine Split.mk fun t h_c3 => ?_
                  cases t
                  · have f_k : keyOk e.key = true := by exact h_k
                    have f_s1 : decide (1 ≤ e.seq) = true := by simp at h_s1; simp; omega
                    have f_s2 : decide (e.seq ≤ 100000) = true := by simp at h_s2; simp; omega
                    have f_tx : decide (e.text.size ≤ 60) = true := by simp at h_tx; simp; omega
                    have f_c1 : decide (e.kind = 1) = false := by simp at h_c1; simp; omega
                    have f_c2 : decide (e.kind = 2) = false := by simp at h_c2; simp; omega
                    have f_c3 : decide (e.kind = 3) = false := by simp at h_c3; simp; omega
                    have f_su : sumOk e.n = true := by simp at h_n1 h_n2; simp [sumOk]; omega
                    exact Need.mk ⟨[], _, .same, fin (by simp [entOk, f_k, f_s1, f_s2, f_tx, f_c1, f_c2, f_c3, f_su]), rfl⟩ trivial
                  · refine Split.mk fun t h_t => ?_
                    rw [bytes_beq] at h_t
                    cases t
                    · have f_k : keyOk e.key = true := by exact h_k
                      have f_s1 : decide (1 ≤ e.seq) = true := by simp at h_s1; simp; omega
                      have f_s2 : decide (e.seq ≤ 100000) = true := by simp at h_s2; simp; omega
                      have f_tx : decide (e.text.size ≤ 60) = true := by simp at h_tx; simp; omega
                      have f_c1 : decide (e.kind = 1) = false := by simp at h_c1; simp; omega
                      have f_c2 : decide (e.kind = 2) = false := by simp at h_c2; simp; omega
                      have f_c3 : decide (e.kind = 3) = true := by simp at h_c3; simp; omega
                      have f_t : decide (e.text = ⟨#[]⟩) = false := by exact h_t
                      have f_su : sumOk e.n = true := by simp at h_n1 h_n2; simp [sumOk]; omega
                      exact Need.mk ⟨[], _, .same, fin (by simp [entOk, f_k, f_s1, f_s2, f_tx, f_c1, f_c2, f_c3, f_t, f_su]), rfl⟩ trivial
                    · have f_k : keyOk e.key = true := by exact h_k
                      have f_s1 : decide (1 ≤ e.seq) = true := by simp at h_s1; simp; omega
                      have f_s2 : decide (e.seq ≤ 100000) = true := by simp at h_s2; simp; omega
                      have f_tx : decide (e.text.size ≤ 60) = true := by simp at h_tx; simp; omega
                      have f_c1 : decide (e.kind = 1) = false := by simp at h_c1; simp; omega
                      have f_c2 : decide (e.kind = 2) = false := by simp at h_c2; simp; omega
                      have f_c3 : decide (e.kind = 3) = true := by simp at h_c3; simp; omega
                      have f_t : decide (e.text = ⟨#[]⟩) = true := by exact h_t
                      have f_su : sumOk e.n = true := by simp at h_n1 h_n2; simp [sumOk]; omega
                      exact Need.mk ⟨[], _, .same, fin (by simp [entOk, f_k, f_s1, f_s2, f_tx, f_c1, f_c2, f_c3, f_t, f_su]), rfl⟩ trivial
                · refine Split.mk fun t h_t => ?_
                  rw [bytes_beq] at h_t
                  cases t
                  · have f_k : keyOk e.key = true := by exact h_k
                    have f_s1 : decide (1 ≤ e.seq) = true := by simp at h_s1; simp; omega
                    have f_s2 : decide (e.seq ≤ 100000) = true := by simp at h_s2; simp; omega
                    have f_tx : decide (e.text.size ≤ 60) = true := by simp at h_tx; simp; omega
                    have f_c1 : decide (e.kind = 1) = false := by simp at h_c1; simp; omega
                    have f_c2 : decide (e.kind = 2) = true := by simp at h_c2; simp; omega
                    have f_t : decide (e.text = ⟨#[]⟩) = false := by exact h_t
                    have f_su : sumOk e.n = true := by simp at h_n1 h_n2; simp [sumOk]; omega
                    exact Need.mk ⟨[], _, .same, fin (by simp [entOk, f_k, f_s1, f_s2, f_tx, f_c1, f_c2, f_t, f_su]), rfl⟩ trivial
                  · refine Split.mk fun t h_z => ?_
                    cases t
                    · have f_k : keyOk e.key = true := by exact h_k
                      have f_s1 : decide (1 ≤ e.seq) = true := by simp at h_s1; simp; omega
                      have f_s2 : decide (e.seq ≤ 100000) = true := by simp at h_s2; simp; omega
                      have f_tx : decide (e.text.size ≤ 60) = true := by simp at h_tx; simp; omega
                      have f_c1 : decide (e.kind = 1) = false := by simp at h_c1; simp; omega
                      have f_c2 : decide (e.kind = 2) = true := by simp at h_c2; simp; omega
                      have f_t : decide (e.text = ⟨#[]⟩) = true := by exact h_t
                      have f_z : decide (e.n = 0) = false := by simp at h_z; simp; omega
                      have f_c3 : decide (e.kind = 3) = false := by simp at h_c2; simp; omega
                      have f_su : sumOk e.n = true := by simp at h_n1 h_n2; simp [sumOk]; omega
                      exact Need.mk ⟨[], _, .same, fin (by simp [entOk, f_k, f_s1, f_s2, f_tx, f_c1, f_c2, f_t, f_z, f_c3, f_su]), rfl⟩ trivial
                    · have f_k : keyOk e.key = true := by exact h_k
                      have f_s1 : decide (1 ≤ e.seq) = true := by simp at h_s1; simp; omega
                      have f_s2 : decide (e.seq ≤ 100000) = true := by simp at h_s2; simp; omega
                      have f_tx : decide (e.text.size ≤ 60) = true := by simp at h_tx; simp; omega
                      have f_c1 : decide (e.kind = 1) = false := by simp at h_c1; simp; omega
                      have f_c2 : decide (e.kind = 2) = true := by simp at h_c2; simp; omega
                      have f_t : decide (e.text = ⟨#[]⟩) = true := by exact h_t
                      have f_z : decide (e.n = 0) = true := by simp at h_z; simp; omega
                      have f_su : sumOk e.n = true := by simp at h_n1 h_n2; simp [sumOk]; omega
                      exact Need.mk ⟨[], _, .same, fin (by simp [entOk, f_k, f_s1, f_s2, f_tx, f_c1, f_c2, f_t, f_z, f_su]), rfl⟩ trivial
              · have f_k : keyOk e.key = true := by exact h_k
                have f_s1 : decide (1 ≤ e.seq) = true := by simp at h_s1; simp; omega
                have f_s2 : decide (e.seq ≤ 100000) = true := by simp at h_s2; simp; omega
                have f_tx : decide (e.text.size ≤ 60) = true := by simp at h_tx; simp; omega
                have f_c1 : decide (e.kind = 1) = true := by simp at h_c1; simp; omega
                have f_su : sumOk e.n = true := by simp at h_n1 h_n2; simp [sumOk]; omega
                exact Need.mk ⟨[], _, .same, fin (by simp [entOk, f_k, f_s1, f_s2, f_tx, f_c1, f_su]), rfl⟩ trivial
            · have f_k : keyOk e.key = true := by exact h_k
              have f_s1 : decide (1 ≤ e.seq) = true := by simp at h_s1; simp; omega
              have f_s2 : decide (e.seq ≤ 100000) = true := by simp at h_s2; simp; omega
              have f_tx : decide (e.text.size ≤ 60) = true := by simp at h_tx; simp; omega
              have f_su : sumOk e.n = false := by simp at h_n1 h_n2; simp [sumOk]; omega
              exact Need.mk ⟨[], _, .same, fin (by simp [entOk, f_k, f_s1, f_s2, f_tx, f_su]), rfl⟩ trivial
          · have f_k : keyOk e.key = true := by exact h_k
            have f_s1 : decide (1 ≤ e.seq) = true := by simp at h_s1; simp; omega
            have f_s2 : decide (e.seq ≤ 100000) = true := by simp at h_s2; simp; omega
            have f_tx : decide (e.text.size ≤ 60) = true := by simp at h_tx; simp; omega
            have f_su : sumOk e.n = false := by simp at h_n1; simp [sumOk]; omega
            exact Need.mk ⟨[], _, .same, fin (by simp [entOk, f_k, f_s1, f_s2, f_tx, f_su]), rfl⟩ trivial
        · have f_k : keyOk e.key = true := by exact h_k
          have f_s1 : decide (1 ≤ e.seq) = true := by simp at h_s1; simp; omega
          have f_s2 : decide (e.seq ≤ 100000) = true := by simp at h_s2; simp; omega
          have f_tx : decide (e.text.size ≤ 60) = false := by simp at h_tx; simp; omega
          exact Need.mk ⟨[], _, .same, fin (by simp [entOk, f_k, f_s1, f_s2, f_tx]), rfl⟩ trivial
      · have f_k : keyOk e.key = true := by exact h_k
        have f_s1 : decide (1 ≤ e.seq) = true := by simp at h_s1; simp; omega
        have f_s2 : decide (e.seq ≤ 100000) = false := by simp at h_s2; simp; omega
        exact Need.mk ⟨[], _, .same, fin (by simp [entOk, f_k, f_s1, f_s2]), rfl⟩ trivial
    · have f_k : keyOk e.key = true := by exact h_k
      have f_s1 : decide (1 ≤ e.seq) = false := by simp at h_s1; simp; omega
      exact Need.mk ⟨[], _, .same, fin (by simp [entOk, f_k, f_s1]), rfl⟩ trivial
theorem spec_EntryOk (e : Ent) (he : e.Ok) : AFn Try.prog 124 [.agg (e.enc.map .c)] [] (rb (entOk e)) [] := by
  refine AFn.introX (E := En 0 md0) (en_ok 0 md0) Try.func124 rfl rfl rfl fun _ _ => ?_
  have fin : ∀ {c : Bool}, c = entOk e → rb c = rb (entOk e) := fun h => by rw [h]
  refine ACall.mk _ _ (spec_KeyOk e.key he.1) ?_
  refine Split.mk fun t h_k => ?_
  cases t
  · have f_k : keyOk e.key = false := by exact h_k
    exact Need.mk ⟨[], _, .same, fin (by simp [entOk, f_k]), rfl⟩ trivial
  · refine Split.mk fun t h_s1 => ?_
    cases t
    · refine Split.mk fun t h_s2 => ?_
      cases t
      · refine ACall.mk _ _ (spec_l3Sum e.n) ?_
        refine Split.mk fun t h_su => ?_
        cases t
        · have f_k : keyOk e.key = true := by exact h_k
          have f_s1 : decide (1 ≤ e.seq) = true := by simp at h_s1; simp; omega
          have f_s2 : decide (e.seq ≤ 100000) = true := by simp at h_s2; simp; omega
          have f_su : sumOk e.n = false := by exact h_su
          exact Need.mk ⟨[], _, .same, fin (by simp [entOk, f_k, f_s1, f_s2, f_su]), rfl⟩ trivial
        · refine Split.mk fun t h_tx => ?_
          cases t
          · refine Split.mk fun t h_c1 => ?_
            cases t
            · refine Split.mk fun t h_c2 => ?_
              cases t
              · refine Split.mk fun t h_c3 => ?_
                cases t
                · have f_k : keyOk e.key = true := by exact h_k
                  have f_s1 : decide (1 ≤ e.seq) = true := by simp at h_s1; simp; omega
                  have f_s2 : decide (e.seq ≤ 100000) = true := by simp at h_s2; simp; omega
                  have f_su : sumOk e.n = true := by exact h_su
                  have f_tx : decide (e.text.size ≤ 60) = true := by simp at h_tx; simp; omega
                  have f_c1 : decide (e.kind = 1) = false := by simp at h_c1; simp; omega
                  have f_c2 : decide (e.kind = 2) = false := by simp at h_c2; simp; omega
                  have f_c3 : decide (e.kind = 3) = false := by simp at h_c3; simp; omega
                  exact Need.mk ⟨[], _, .same, fin (by simp [entOk, f_k, f_s1, f_s2, f_su, f_tx, f_c1, f_c2, f_c3]), rfl⟩ trivial
                · refine Split.mk fun t h_t => ?_
                  rw [bytes_beq] at h_t
                  cases t
                  · have f_k : keyOk e.key = true := by exact h_k
                    have f_s1 : decide (1 ≤ e.seq) = true := by simp at h_s1; simp; omega
                    have f_s2 : decide (e.seq ≤ 100000) = true := by simp at h_s2; simp; omega
                    have f_su : sumOk e.n = true := by exact h_su
                    have f_tx : decide (e.text.size ≤ 60) = true := by simp at h_tx; simp; omega
                    have f_c1 : decide (e.kind = 1) = false := by simp at h_c1; simp; omega
                    have f_c2 : decide (e.kind = 2) = false := by simp at h_c2; simp; omega
                    have f_c3 : decide (e.kind = 3) = true := by simp at h_c3; simp; omega
                    have f_t : decide (e.text = ⟨#[]⟩) = false := by exact h_t
                    exact Need.mk ⟨[], _, .same, fin (by simp [entOk, f_k, f_s1, f_s2, f_su, f_tx, f_c1, f_c2, f_c3, f_t]), rfl⟩ trivial
                  · have f_k : keyOk e.key = true := by exact h_k
                    have f_s1 : decide (1 ≤ e.seq) = true := by simp at h_s1; simp; omega
                    have f_s2 : decide (e.seq ≤ 100000) = true := by simp at h_s2; simp; omega
                    have f_su : sumOk e.n = true := by exact h_su
                    have f_tx : decide (e.text.size ≤ 60) = true := by simp at h_tx; simp; omega
                    have f_c1 : decide (e.kind = 1) = false := by simp at h_c1; simp; omega
                    have f_c2 : decide (e.kind = 2) = false := by simp at h_c2; simp; omega
                    have f_c3 : decide (e.kind = 3) = true := by simp at h_c3; simp; omega
                    have f_t : decide (e.text = ⟨#[]⟩) = true := by exact h_t
                    exact Need.mk ⟨[], _, .same, fin (by simp [entOk, f_k, f_s1, f_s2, f_su, f_tx, f_c1, f_c2, f_c3, f_t]), rfl⟩ trivial
              · refine Split.mk fun t h_t => ?_
                rw [bytes_beq] at h_t
                cases t
                · have f_k : keyOk e.key = true := by exact h_k
                  have f_s1 : decide (1 ≤ e.seq) = true := by simp at h_s1; simp; omega
                  have f_s2 : decide (e.seq ≤ 100000) = true := by simp at h_s2; simp; omega
                  have f_su : sumOk e.n = true := by exact h_su
                  have f_tx : decide (e.text.size ≤ 60) = true := by simp at h_tx; simp; omega
                  have f_c1 : decide (e.kind = 1) = false := by simp at h_c1; simp; omega
                  have f_c2 : decide (e.kind = 2) = true := by simp at h_c2; simp; omega
                  have f_t : decide (e.text = ⟨#[]⟩) = false := by exact h_t
                  exact Need.mk ⟨[], _, .same, fin (by simp [entOk, f_k, f_s1, f_s2, f_su, f_tx, f_c1, f_c2, f_t]), rfl⟩ trivial
                · refine Split.mk fun t h_z => ?_
                  cases t
                  · have f_k : keyOk e.key = true := by exact h_k
                    have f_s1 : decide (1 ≤ e.seq) = true := by simp at h_s1; simp; omega
                    have f_s2 : decide (e.seq ≤ 100000) = true := by simp at h_s2; simp; omega
                    have f_su : sumOk e.n = true := by exact h_su
                    have f_tx : decide (e.text.size ≤ 60) = true := by simp at h_tx; simp; omega
                    have f_c1 : decide (e.kind = 1) = false := by simp at h_c1; simp; omega
                    have f_c2 : decide (e.kind = 2) = true := by simp at h_c2; simp; omega
                    have f_t : decide (e.text = ⟨#[]⟩) = true := by exact h_t
                    have f_z : decide (e.n = 0) = false := by simp at h_z; simp; omega
                    have f_c3 : decide (e.kind = 3) = false := by simp at h_c2; simp; omega
                    exact Need.mk ⟨[], _, .same, fin (by simp [entOk, f_k, f_s1, f_s2, f_su, f_tx, f_c1, f_c2, f_t, f_z, f_c3]), rfl⟩ trivial
                  · have f_k : keyOk e.key = true := by exact h_k
                    have f_s1 : decide (1 ≤ e.seq) = true := by simp at h_s1; simp; omega
                    have f_s2 : decide (e.seq ≤ 100000) = true := by simp at h_s2; simp; omega
                    have f_su : sumOk e.n = true := by exact h_su
                    have f_tx : decide (e.text.size ≤ 60) = true := by simp at h_tx; simp; omega
                    have f_c1 : decide (e.kind = 1) = false := by simp at h_c1; simp; omega
                    have f_c2 : decide (e.kind = 2) = true := by simp at h_c2; simp; omega
                    have f_t : decide (e.text = ⟨#[]⟩) = true := by exact h_t
                    have f_z : decide (e.n = 0) = true := by simp at h_z; simp; omega
                    exact Need.mk ⟨[], _, .same, fin (by simp [entOk, f_k, f_s1, f_s2, f_su, f_tx, f_c1, f_c2, f_t, f_z]), rfl⟩ trivial
            · have f_k : keyOk e.key = true := by exact h_k
              have f_s1 : decide (1 ≤ e.seq) = true := by simp at h_s1; simp; omega
              have f_s2 : decide (e.seq ≤ 100000) = true := by simp at h_s2; simp; omega
              have f_su : sumOk e.n = true := by exact h_su
              have f_tx : decide (e.text.size ≤ 60) = true := by simp at h_tx; simp; omega
              have f_c1 : decide (e.kind = 1) = true := by simp at h_c1; simp; omega
              exact Need.mk ⟨[], _, .same, fin (by simp [entOk, f_k, f_s1, f_s2, f_su, f_tx, f_c1]), rfl⟩ trivial
          · have f_k : keyOk e.key = true := by exact h_k
            have f_s1 : decide (1 ≤ e.seq) = true := by simp at h_s1; simp; omega
            have f_s2 : decide (e.seq ≤ 100000) = true := by simp at h_s2; simp; omega
            have f_su : sumOk e.n = true := by exact h_su
            have f_tx : decide (e.text.size ≤ 60) = false := by simp at h_tx; simp; omega
            exact Need.mk ⟨[], _, .same, fin (by simp [entOk, f_k, f_s1, f_s2, f_su, f_tx]), rfl⟩ trivial
      · have f_k : keyOk e.key = true := by exact h_k
        have f_s1 : decide (1 ≤ e.seq) = true := by simp at h_s1; simp; omega
        have f_s2 : decide (e.seq ≤ 100000) = false := by simp at h_s2; simp; omega
        exact Need.mk ⟨[], _, .same, fin (by simp [entOk, f_k, f_s1, f_s2]), rfl⟩ trivial
    · have f_k : keyOk e.key = true := by exact h_k
      have f_s1 : decide (1 ≤ e.seq) = false := by simp at h_s1; simp; omega
      exact Need.mk ⟨[], _, .same, fin (by simp [entOk, f_k, f_s1]), rfl⟩ trivial
end Go.Proofs.Ytlmdheeammfihaa

namespace Go.Proofs.Ytlmdheeammfihaa
open Go Go.Proofs Ev
set_option maxRecDepth 100000
set_option linter.unusedSimpArgs false
set_option linter.unusedVariables false
set_option maxHeartbeats 4000000
theorem spec_l4Join (c : List Ent) (hne : 0 < c.length) (hl : c.length ≤ 1099511627776) (hok : ∀ e ∈ c, entOk e = true) (r : Ent) (hr : oneE c = r) : AFn Try.prog 165 [sl (c.map Ent.enc)] [] (.tup [.agg r.enc, .one (vb (sumOk r.n))]) [] := by
  have hn : (c.map Ent.enc).length = c.length := List.length_map ..
  have h0 : (c.map Ent.enc)[0]? = some (c[0]).enc := map_get _ c 0 hne
  refine AFn.introX (E := En 0 md0) (en_ok 0 _ _ _ _ _) Try.func165 rfl rfl rfl fun _ _ => ?_
  refine Need.mk (by omega) ?_
  refine Row.mk _ h0 ?_
  refine Need.mk (by omega) ?_
  refine Row.mk _ h0 ?_
  refine Need.mk (rfl) ?_
  let S : Nat → Int → St := fun i z => ⟨some (sl (List.map Ent.enc c)) :: none :: some (.bx 2 0) :: none :: some (.bx 4 0) :: some (av (.int .i64 i)) :: List.replicate 44 none, absent :: absent :: ⟨0, 0, some [vs ({ data := #[] }), vi 0, vi 0, vs ({ data := #[] }), vi 0]⟩ :: absent :: ⟨0, 0, some [vs c[0].key, vi c[0].seq, vi 3, vs ({ data := #[] }), vi z]⟩ :: List.replicate 45 absent⟩
  refine ALoop.mk (fun m s => ∃ (i : Nat) (z : Int), i ≤ c.length ∧ m = c.length - i ∧ -1000000 * (i : Int) ≤ z ∧ z ≤ 1000000 * (i : Int) ∧ r = oneFrom (decide (i = 0)) ⟨c[0].key, c[0].seq, 3, ⟨#[]⟩, z⟩ (c.drop i) ∧ s = S i z)
    ⟨_, _, Weak.nrm [true, false, true, false, true, true] [(2, 2), (4, 4)] rfl rfl rfl, 0, 0, Nat.zero_le _, rfl, by omega, by omega, by rw [← hr]; cases c with | nil => simp at hne | cons a l => rfl, rfl⟩ ?_
  rintro m s ⟨i, z, hi, rfl, hz1, hz2, hone, hs⟩
  by_cases hin : i = c.length
  · rw [List.drop_of_length_le (by omega)] at hone
    have hone : r = ⟨c[0].key, c[0].seq, 3, ⟨#[]⟩, z⟩ := hone
    have hSz := spec_l3Sum z
    subst hone
    subst hs
    refine Split.mk fun t h1 => ?_
    cases t
    case true => (exfalso; rw [decide_eq_true_iff] at h1; omega)
    rw [decide_eq_false_iff_not] at h1
    refine ACall.mk _ _ hSz ?_
    refine Split.mk fun t h2 => ?_
    cases t
    · skip
      refine Need.mk (rfl) ?_
      exact Need.mk ⟨[], _, .same, by rw [h2]; rfl, rfl⟩ trivial
    · skip
      refine Need.mk (rfl) ?_
      exact Need.mk ⟨[], _, .same, by rw [h2]; rfl, rfl⟩ trivial
  · have hia : i < c.length := by omega
    have hE := entOk_kind (hok c[i] (List.getElem_mem hia))
    have hE1 := hE.1.1
    have hE2 := hE.1.2
    rw [List.drop_eq_getElem_cons hia] at hone
    have hSz := spec_l3Sum z
    have hSn := spec_l3Sum (z + c[i].n)
    by_cases hk1 : c[i].kind = 1
    · rw [oneFrom_1 hk1] at hone
      subst hone
      subst hs
      refine Split.mk fun t h1 => ?_
      cases t
      case false => (exfalso; rw [decide_eq_false_iff_not] at h1; omega)
      rw [decide_eq_true_iff] at h1
      refine Need.mk (by omega) ?_
      refine Row.mk _ (map_get _ c i (by omega)) ?_
      refine Num.mk _ (wrapI (by omega) (by omega)) ?_
      refine Split.mk fun t h2 => ?_
      cases t
      case false => (exfalso; rw [beq_eq_false_iff_ne] at h2; omega)
      rw [beq_iff_eq] at h2
      refine ACall.mk _ _ hSn ?_
      refine Split.mk fun t h3 => ?_
      cases t
      · skip
        refine Need.mk (rfl) ?_
        exact Need.mk ⟨[], _, .same, by rw [h3]; rfl, rfl⟩ trivial
      · skip
        refine Need.mk (rfl) ?_
        exact Need.mk ⟨[], _, .same, by rw [h3]; rfl, rfl⟩ trivial
    · by_cases hk2 : c[i].kind = 2
      · rw [oneFrom_2 hk2] at hone
        have hn0 : c[i].n = 0 := by have := hE.2; omega
        have hw : IntKind.i64.wrap (z + c[i].n) = z := by rw [hn0, Int.add_zero]; exact wrapI (by omega) (by omega)
        by_cases hi0 : i = 0
        · rw [if_pos (decide_eq_true hi0)] at hone
          subst hone
          subst hs
          refine Split.mk fun t h1 => ?_
          cases t
          case false => (exfalso; rw [decide_eq_false_iff_not] at h1; omega)
          rw [decide_eq_true_iff] at h1
          refine Need.mk (by omega) ?_
          refine Row.mk _ (map_get _ c i (by omega)) ?_
          refine Num.mk _ hw ?_
          refine Split.mk fun t h2 => ?_
          cases t
          case true => (exfalso; rw [beq_iff_eq] at h2; omega)
          rw [beq_eq_false_iff_ne] at h2
          refine Split.mk fun t h3 => ?_
          cases t
          case false => (exfalso; rw [beq_eq_false_iff_ne] at h3; omega)
          rw [beq_iff_eq] at h3
          refine Split.mk fun t h4 => ?_
          cases t
          case false => (exfalso; rw [beq_eq_false_iff_ne] at h4; omega)
          rw [beq_iff_eq] at h4
          refine ACall.mk _ _ hSz ?_
          refine Split.mk fun t h5 => ?_
          cases t
          · skip
            refine Need.mk (rfl) ?_
            exact Need.mk ⟨[], _, .same, by rw [h5]; rfl, rfl⟩ trivial
          · skip
            refine Need.mk (rfl) ?_
            exact Need.mk ⟨[], _, .same, by rw [h5]; rfl, rfl⟩ trivial
        · rw [if_neg (by simp [hi0])] at hone
          subst hone
          subst hs
          refine Split.mk fun t h1 => ?_
          cases t
          case false => (exfalso; rw [decide_eq_false_iff_not] at h1; omega)
          rw [decide_eq_true_iff] at h1
          refine Need.mk (by omega) ?_
          refine Row.mk _ (map_get _ c i (by omega)) ?_
          refine Num.mk _ hw ?_
          refine Split.mk fun t h2 => ?_
          cases t
          case true => (exfalso; rw [beq_iff_eq] at h2; omega)
          rw [beq_eq_false_iff_ne] at h2
          refine Split.mk fun t h3 => ?_
          cases t
          case false => (exfalso; rw [beq_eq_false_iff_ne] at h3; omega)
          rw [beq_iff_eq] at h3
          refine Split.mk fun t h4 => ?_
          cases t
          case true => (exfalso; rw [beq_iff_eq] at h4; omega)
          rw [beq_eq_false_iff_ne] at h4
          refine ACall.mk _ _ hSz ?_
          refine Split.mk fun t h5 => ?_
          cases t
          · skip
            refine Need.mk (rfl) ?_
            exact Need.mk ⟨[], _, .same, by rw [h5]; rfl, rfl⟩ trivial
          · skip
            refine Need.mk (rfl) ?_
            exact Need.mk ⟨[], _, .same, by rw [h5]; rfl, rfl⟩ trivial
      · have hk3 : c[i].kind = 3 := by have := hE.2; omega
        rw [oneFrom_3 hk3] at hone
        have hone2 : r = oneFrom (decide (i + 1 = 0)) ⟨c[0].key, c[0].seq, 3, ⟨#[]⟩, z + c[i].n⟩ (c.drop (i + 1)) := hone
        subst hs
        refine Split.mk fun t h1 => ?_
        cases t
        case false => (exfalso; rw [decide_eq_false_iff_not] at h1; omega)
        rw [decide_eq_true_iff] at h1
        refine Need.mk (by omega) ?_
        refine Row.mk _ (map_get _ c i (by omega)) ?_
        refine Num.mk _ (wrapI (by omega) (by omega)) ?_
        refine Split.mk fun t h2 => ?_
        cases t
        case true => (exfalso; rw [beq_iff_eq] at h2; omega)
        rw [beq_eq_false_iff_ne] at h2
        refine Split.mk fun t h3 => ?_
        cases t
        case true => (exfalso; rw [beq_iff_eq] at h3; omega)
        rw [beq_eq_false_iff_ne] at h3
        refine Num.mk _ (wrapS (by omega)) ?_
        exact ⟨_, _, by omega, Weak.nrm [true, false, true, false, true, true] [(2, 2), (4, 4)] rfl rfl rfl, i + 1, z + c[i].n, by omega, rfl, by omega, by omega, hone2, rfl⟩
theorem impl_classOne (c : List Ent) (hne : 0 < c.length) (hl : c.length ≤ 1099511627776) (hok : ∀ e ∈ c, entOk e = true) (r : Ent) (hr : oneE c = r) : AFn Try.prog 163 [sl (c.map Ent.enc)] [] (.agg r.enc) [] := by
  have hn : (c.map Ent.enc).length = c.length := List.length_map ..
  have h0 : (c.map Ent.enc)[0]? = some (c[0]).enc := map_get _ c 0 hne
  refine AFn.introX (E := En 0 md0) (en_ok 0 _ _ _ _ _) Try.func163 rfl rfl rfl fun _ _ => ?_
  refine Need.mk (by omega) ?_
  refine Row.mk _ h0 ?_
  refine Need.mk (by omega) ?_
  refine Row.mk _ h0 ?_
  refine Need.mk (rfl) ?_
  let S : Nat → Int → St := fun i z => ⟨none :: none :: some (.bx 2 0) :: some (.bx 3 0) :: none :: none :: none :: none :: none :: none :: none :: none :: none :: none :: none :: some (sl (List.map Ent.enc c)) :: some (av (.int .i64 (↑(List.map Ent.enc c).length))) :: some (av (.int .i64 i)) :: List.replicate 35 none, absent :: absent :: ⟨0, 0, some [vs ({ data := #[] }), vi 0, vi 0, vs ({ data := #[] }), vi 0]⟩ :: ⟨0, 0, some [vs c[0].key, vi c[0].seq, vi 3, vs ({ data := #[] }), vi z]⟩ :: List.replicate 49 absent⟩
  refine ALoop.mk (fun m s => ∃ (i : Nat) (z : Int), i ≤ c.length ∧ m = c.length - i ∧ -1000000 * (i : Int) ≤ z ∧ z ≤ 1000000 * (i : Int) ∧ r = oneFrom (decide (i = 0)) ⟨c[0].key, c[0].seq, 3, ⟨#[]⟩, z⟩ (c.drop i) ∧ s = S i z)
    ⟨_, _, Weak.nrm [false, false, true, true, false, false, false, false, false, false, false, false, false, false, false, true, true, true] [(2, 2), (3, 3)] rfl rfl rfl, 0, 0, Nat.zero_le _, rfl, by omega, by omega, by rw [← hr]; cases c with | nil => simp at hne | cons a l => rfl, rfl⟩ ?_
  rintro m s ⟨i, z, hi, rfl, hz1, hz2, hone, hs⟩
  by_cases hin : i = c.length
  · rw [List.drop_of_length_le (by omega)] at hone
    have hone : r = ⟨c[0].key, c[0].seq, 3, ⟨#[]⟩, z⟩ := hone
    have hSz := spec_l3Sum z
    subst hone
    subst hs
    refine Split.mk fun t h1 => ?_
    cases t
    case true => (exfalso; rw [decide_eq_true_iff] at h1; omega)
    rw [decide_eq_false_iff_not] at h1
    exact Need.mk ⟨[], _, .same, rfl, rfl⟩ trivial
  · have hia : i < c.length := by omega
    have hE := entOk_kind (hok c[i] (List.getElem_mem hia))
    have hE1 := hE.1.1
    have hE2 := hE.1.2
    rw [List.drop_eq_getElem_cons hia] at hone
    have hSz := spec_l3Sum z
    have hSn := spec_l3Sum (z + c[i].n)
    by_cases hk1 : c[i].kind = 1
    · rw [oneFrom_1 hk1] at hone
      subst hone
      subst hs
      refine Split.mk fun t h1 => ?_
      cases t
      case false => (exfalso; rw [decide_eq_false_iff_not] at h1; omega)
      rw [decide_eq_true_iff] at h1
      refine Need.mk (by omega) ?_
      refine Row.mk _ (map_get _ c i (by omega)) ?_
      refine Split.mk fun t h2 => ?_
      cases t
      case true => (exfalso; rw [beq_iff_eq] at h2; omega)
      rw [beq_eq_false_iff_ne] at h2
      refine Split.mk fun t h3 => ?_
      cases t
      case false => (exfalso; rw [beq_eq_false_iff_ne] at h3; omega)
      rw [beq_iff_eq] at h3
      refine Num.mk _ (wrapI (by omega) (by omega)) ?_
      refine Need.mk (rfl) ?_
      exact Need.mk ⟨[], _, .same, rfl, rfl⟩ trivial
    · by_cases hk2 : c[i].kind = 2
      · rw [oneFrom_2 hk2] at hone
        have hn0 : c[i].n = 0 := by have := hE.2; omega
        have hw : IntKind.i64.wrap (z + c[i].n) = z := by rw [hn0, Int.add_zero]; exact wrapI (by omega) (by omega)
        by_cases hi0 : i = 0
        · rw [if_pos (decide_eq_true hi0)] at hone
          subst hone
          subst hs
          refine Split.mk fun t h1 => ?_
          cases t
          case false => (exfalso; rw [decide_eq_false_iff_not] at h1; omega)
          rw [decide_eq_true_iff] at h1
          refine Need.mk (by omega) ?_
          refine Row.mk _ (map_get _ c i (by omega)) ?_
          refine Split.mk fun t h2 => ?_
          cases t
          case true => (exfalso; rw [beq_iff_eq] at h2; omega)
          rw [beq_eq_false_iff_ne] at h2
          refine Split.mk fun t h3 => ?_
          cases t
          case true => (exfalso; rw [beq_iff_eq] at h3; omega)
          rw [beq_eq_false_iff_ne] at h3
          refine Split.mk fun t h4 => ?_
          cases t
          case false => (exfalso; rw [beq_eq_false_iff_ne] at h4; omega)
          rw [beq_iff_eq] at h4
          exact Need.mk ⟨[], _, .same, rfl, rfl⟩ trivial
        · rw [if_neg (by simp [hi0])] at hone
          subst hone
          subst hs
          refine Split.mk fun t h1 => ?_
          cases t
          case false => (exfalso; rw [decide_eq_false_iff_not] at h1; omega)
          rw [decide_eq_true_iff] at h1
          refine Need.mk (by omega) ?_
          refine Row.mk _ (map_get _ c i (by omega)) ?_
          refine Split.mk fun t h2 => ?_
          cases t
          case true => (exfalso; rw [beq_iff_eq] at h2; omega)
          rw [beq_eq_false_iff_ne] at h2
          refine Split.mk fun t h3 => ?_
          cases t
          case true => (exfalso; rw [beq_iff_eq] at h3; omega)
          rw [beq_eq_false_iff_ne] at h3
          refine Split.mk fun t h4 => ?_
          cases t
          case true => (exfalso; rw [beq_iff_eq] at h4; omega)
          rw [beq_eq_false_iff_ne] at h4
          exact Need.mk ⟨[], _, .same, rfl, rfl⟩ trivial
      · have hk3 : c[i].kind = 3 := by have := hE.2; omega
        rw [oneFrom_3 hk3] at hone
        have hone2 : r = oneFrom (decide (i + 1 = 0)) ⟨c[0].key, c[0].seq, 3, ⟨#[]⟩, z + c[i].n⟩ (c.drop (i + 1)) := hone
        subst hs
        refine Split.mk fun t h1 => ?_
        cases t
        case false => (exfalso; rw [decide_eq_false_iff_not] at h1; omega)
        rw [decide_eq_true_iff] at h1
        refine Need.mk (by omega) ?_
        refine Row.mk _ (map_get _ c i (by omega)) ?_
        refine Split.mk fun t h2 => ?_
        cases t
        case false => (exfalso; rw [beq_eq_false_iff_ne] at h2; omega)
        rw [beq_iff_eq] at h2
        refine Num.mk _ (wrapI (by omega) (by omega)) ?_
        refine Num.mk _ (wrapS (by omega)) ?_
        exact ⟨_, _, by omega, Weak.nrm [false, false, true, true, false, false, false, false, false, false, false, false, false, false, false, true, true, true] [(2, 2), (3, 3)] rfl rfl rfl, i + 1, z + c[i].n, by omega, rfl, by omega, by omega, hone2, rfl⟩
end Go.Proofs.Ytlmdheeammfihaa

namespace Go.Proofs.Ytlmdheeammfihaa
open Go Go.Proofs Ev
set_option maxRecDepth 100000
set_option linter.unusedSimpArgs false
set_option linter.unusedVariables false
set_option maxHeartbeats 4000000
theorem spec_l4Class (c : List Ent) (hne : 0 < c.length) (hl : c.length ≤ 16777216) (hok : ∀ e ∈ c, entOk e = true) (last : Bool) (o : List Ent) (ho : classE c last = o) : AFn Try.prog 135 [sl (c.map Ent.enc), av (.bool last)] [] (.one (.us 32 (o.map Ent.enc))) [] := by
  have hn : (c.map Ent.enc).length = c.length := List.length_map ..
  have hex : ∃ r, oneE c = r := ⟨_, rfl⟩
  obtain ⟨r, hr⟩ := hex
  have hJ := spec_l4Join c hne (Nat.le_trans hl (by decide)) hok r hr
  unfold classE at ho
  rw [hr] at ho
  by_cases hS : sumOk r.n = true
  · rw [if_pos hS] at ho
    rw [hS] at hJ
    cases last with
    | false =>
      have ho : [r] = o := by simpa using ho
      subst ho
      refine AFn.introX (E := En 0 md0) (en_ok 0 _ _ _ _ _) Try.func135 rfl rfl rfl fun _ _ => ?_
      refine ACall.mk _ _ hJ ?_
      refine Split.mk fun t h1 => ?_
      cases t
      case false => cases h1
      exact Need.mk ⟨[], _, .same, rfl, rfl⟩ trivial
    | true =>
      by_cases h2 : r.kind = 2
      · have ho : [] = o := by simpa [h2] using ho
        subst ho
        refine AFn.introX (E := En 0 md0) (en_ok 0 _ _ _ _ _) Try.func135 rfl rfl rfl fun _ _ => ?_
        refine ACall.mk _ _ hJ ?_
        refine Split.mk fun t h1 => ?_
        cases t
        case false => cases h1
        refine Split.mk fun t h2 => ?_
        cases t
        case false => (exfalso; rw [beq_eq_false_iff_ne] at h2; omega)
        rw [beq_iff_eq] at h2
        exact Need.mk ⟨[], _, .same, rfl, rfl⟩ trivial
      · by_cases h3 : r.kind = 3
        · have ho : [{ r with kind := 1 }] = o := by simpa [h3] using ho
          subst ho
          refine AFn.introX (E := En 0 md0) (en_ok 0 _ _ _ _ _) Try.func135 rfl rfl rfl fun _ _ => ?_
          refine ACall.mk _ _ hJ ?_
          refine Split.mk fun t h1 => ?_
          cases t
          case false => cases h1
          refine Split.mk fun t h2 => ?_
          cases t
          case true => (exfalso; rw [beq_iff_eq] at h2; omega)
          rw [beq_eq_false_iff_ne] at h2
          refine Split.mk fun t h3 => ?_
          cases t
          case false => (exfalso; rw [beq_eq_false_iff_ne] at h3; omega)
          rw [beq_iff_eq] at h3
          exact Need.mk ⟨[], _, .same, rfl, rfl⟩ trivial
        · have ho : [r] = o := by simpa [h2, h3] using ho
          subst ho
          refine AFn.introX (E := En 0 md0) (en_ok 0 _ _ _ _ _) Try.func135 rfl rfl rfl fun _ _ => ?_
          refine ACall.mk _ _ hJ ?_
          refine Split.mk fun t h1 => ?_
          cases t
          case false => cases h1
          refine Split.mk fun t h2 => ?_
          cases t
          case true => (exfalso; rw [beq_iff_eq] at h2; omega)
          rw [beq_eq_false_iff_ne] at h2
          refine Split.mk fun t h3 => ?_
          cases t
          case true => (exfalso; rw [beq_iff_eq] at h3; omega)
          rw [beq_eq_false_iff_ne] at h3
          exact Need.mk ⟨[], _, .same, rfl, rfl⟩ trivial
  · rw [if_neg hS] at ho
    subst ho
    have hS : sumOk r.n = false := by simpa using hS
    rw [hS] at hJ
    refine AFn.introX (E := En 0 md0) (en_ok 0 _ _ _ _ _) Try.func135 rfl rfl rfl fun _ _ => ?_
    refine ACall.mk _ _ hJ ?_
    refine Split.mk fun t h1 => ?_
    cases t
    case true => cases h1
    refine Need.mk (⟨(plainE _), (lenE _)⟩) ?_
    refine Need.mk (appEq (A' := []) (B' := _) rfl rfl (by simp only [List.length_append, List.length_map, List.length_take, List.length_drop, List.length_cons, List.length_nil, List.length_reverse, List.length_replicate, List.length_set]; omega) (by decide)) ?_
    exact Need.mk ⟨[], _, .same, rfl, rfl⟩ trivial
theorem impl_squashClass (c : List Ent) (hne : 0 < c.length) (hl : c.length ≤ 16777216) (hok : ∀ e ∈ c, entOk e = true) (last : Bool) (o : List Ent) (ho : classE c last = o) : AFn Try.prog 133 [sl (c.map Ent.enc), av (.bool last)] [] (.one (.sl (o.map Ent.enc))) [] := by
  have hn : (c.map Ent.enc).length = c.length := List.length_map ..
  have hex : ∃ r, oneE c = r := ⟨_, rfl⟩
  obtain ⟨r, hr⟩ := hex
  have hJ := impl_classOne c hne (Nat.le_trans hl (by decide)) hok r hr
  unfold classE at ho
  rw [hr] at ho
  by_cases hS : sumOk r.n = true
  · rw [if_pos hS] at ho
    have hb : -1000000 ≤ r.n ∧ r.n ≤ 1000000 := by simpa [sumOk] using hS
    have hb1 := hb.1
    have hb2 := hb.2
    cases last with
    | false =>
      have ho : [r] = o := by simpa using ho
      subst ho
      refine AFn.introX (E := En 0 md0) (en_ok 0 _ _ _ _ _) Try.func133 rfl rfl rfl fun _ _ => ?_
      refine ACall.mk _ _ hJ ?_
      refine Split.mk fun t h1 => ?_
      cases t
      case true => (exfalso; rw [decide_eq_true_iff] at h1; omega)
      rw [decide_eq_false_iff_not] at h1
      refine Split.mk fun t h2 => ?_
      cases t
      case true => (exfalso; rw [decide_eq_true_iff] at h2; omega)
      rw [decide_eq_false_iff_not] at h2
      exact Need.mk ⟨[true], _, .frz (frzE [r]) .same, rfl, rfl⟩ trivial
    | true =>
      by_cases h2 : r.kind = 2
      · have ho : [] = o := by simpa [h2] using ho
        subst ho
        refine AFn.introX (E := En 0 md0) (en_ok 0 _ _ _ _ _) Try.func133 rfl rfl rfl fun _ _ => ?_
        refine ACall.mk _ _ hJ ?_
        refine Split.mk fun t h1 => ?_
        cases t
        case true => (exfalso; rw [decide_eq_true_iff] at h1; omega)
        rw [decide_eq_false_iff_not] at h1
        refine Split.mk fun t h2 => ?_
        cases t
        case true => (exfalso; rw [decide_eq_true_iff] at h2; omega)
        rw [decide_eq_false_iff_not] at h2
        refine Split.mk fun t h3 => ?_
        cases t
        case false => (exfalso; rw [beq_eq_false_iff_ne] at h3; omega)
        rw [beq_iff_eq] at h3
        exact Need.mk ⟨[true], _, .frz .nil .same, rfl, rfl⟩ trivial
      · by_cases h3 : r.kind = 3
        · have ho : [{ r with kind := 1 }] = o := by simpa [h3] using ho
          subst ho
          refine AFn.introX (E := En 0 md0) (en_ok 0 _ _ _ _ _) Try.func133 rfl rfl rfl fun _ _ => ?_
          refine ACall.mk _ _ hJ ?_
          refine Split.mk fun t h1 => ?_
          cases t
          case true => (exfalso; rw [decide_eq_true_iff] at h1; omega)
          rw [decide_eq_false_iff_not] at h1
          refine Split.mk fun t h2 => ?_
          cases t
          case true => (exfalso; rw [decide_eq_true_iff] at h2; omega)
          rw [decide_eq_false_iff_not] at h2
          refine Split.mk fun t h3 => ?_
          cases t
          case true => (exfalso; rw [beq_iff_eq] at h3; omega)
          rw [beq_eq_false_iff_ne] at h3
          refine Split.mk fun t h4 => ?_
          cases t
          case false => (exfalso; rw [beq_eq_false_iff_ne] at h4; omega)
          rw [beq_iff_eq] at h4
          exact Need.mk ⟨[true], _, .frz (frzE [{ r with kind := 1 }]) .same, rfl, rfl⟩ trivial
        · have ho : [r] = o := by simpa [h2, h3] using ho
          subst ho
          refine AFn.introX (E := En 0 md0) (en_ok 0 _ _ _ _ _) Try.func133 rfl rfl rfl fun _ _ => ?_
          refine ACall.mk _ _ hJ ?_
          refine Split.mk fun t h1 => ?_
          cases t
          case true => (exfalso; rw [decide_eq_true_iff] at h1; omega)
          rw [decide_eq_false_iff_not] at h1
          refine Split.mk fun t h2 => ?_
          cases t
          case true => (exfalso; rw [decide_eq_true_iff] at h2; omega)
          rw [decide_eq_false_iff_not] at h2
          refine Split.mk fun t h3 => ?_
          cases t
          case true => (exfalso; rw [beq_iff_eq] at h3; omega)
          rw [beq_eq_false_iff_ne] at h3
          refine Split.mk fun t h4 => ?_
          cases t
          case true => (exfalso; rw [beq_iff_eq] at h4; omega)
          rw [beq_eq_false_iff_ne] at h4
          exact Need.mk ⟨[true], _, .frz (frzE [r]) .same, rfl, rfl⟩ trivial
  · rw [if_neg hS] at ho
    subst ho
    have hb : 1000000 < r.n ∨ r.n < -1000000 := by simp [sumOk] at hS; omega
    refine AFn.introX (E := En 0 md0) (en_ok 0 _ _ _ _ _) Try.func133 rfl rfl rfl fun _ _ => ?_
    refine ACall.mk _ _ hJ ?_
    refine Split.mk fun t h1 => ?_
    cases t
    · skip
      rw [decide_eq_false_iff_not] at h1
      refine Split.mk fun t h2 => ?_
      cases t
      case false => (exfalso; rw [decide_eq_false_iff_not] at h2; omega)
      rw [decide_eq_true_iff] at h2
      exact Need.mk ⟨[], _, .same, rfl, rfl⟩ trivial
    · skip
      rw [decide_eq_true_iff] at h1
      exact Need.mk ⟨[], _, .same, rfl, rfl⟩ trivial
end Go.Proofs.Ytlmdheeammfihaa

namespace Go.Proofs.Ytlmdheeammfihaa
open Go Go.Proofs Ev
set_option maxRecDepth 100000
set_option linter.unusedSimpArgs false
set_option linter.unusedVariables false
set_option maxHeartbeats 4000000
theorem spec_l4Apart (snaps : List Int) (o n : Int) (hl : snaps.length ≤ 1099511627776) : AFn Try.prog 136 [sl (snaps.map encI), av (.int .i64 o), av (.int .i64 n)] [] (rb (partS snaps o n)) [] := by
  have hn : (snaps.map encI).length = snaps.length := List.length_map ..
  refine AFn.introX (E := En 0 md0) (en_ok 0 _ _ _ _ _) Try.func136 rfl rfl rfl fun _ _ => ?_
  let S : Nat → St := fun i => ⟨some (sl (List.map encI snaps)) :: some (av (.int .i64 o)) :: some (av (.int .i64 n)) :: none :: none :: none :: none :: some (av (.int .i64 i)) :: List.replicate 20 none, List.replicate 28 absent⟩
  refine ALoop.mk (fun m s => ∃ i : Nat, i ≤ snaps.length ∧ m = snaps.length - i ∧ (∀ j, j < i → ∀ h : j < snaps.length, ¬ (o ≤ snaps[j] ∧ snaps[j] < n)) ∧ s = S i)
    ⟨_, _, Weak.nrm [true, true, true, false, false, false, false, true] [] rfl rfl rfl, 0, Nat.zero_le _, rfl, fun j h => absurd h (by omega), rfl⟩ ?_
  rintro m s ⟨i, hi, rfl, hall, hs⟩
  by_cases hin : i = snaps.length
  · have hres : partS snaps o n = false := partS_false fun j hj => hall j (by omega)
    subst hs
    refine Split.mk fun t h1 => ?_
    cases t
    case true => (exfalso; rw [decide_eq_true_iff] at h1; omega)
    rw [decide_eq_false_iff_not] at h1
    exact Need.mk ⟨[], _, .same, congrArg rb hres.symm, rfl⟩ trivial
  · have hia : i < snaps.length := by omega
    by_cases hA : o ≤ snaps[i]
    · by_cases hB : snaps[i] < n
      · have hres : partS snaps o n = true := partS_true hia hA hB
        subst hs
        refine Split.mk fun t h1 => ?_
        cases t
        case false => (exfalso; rw [decide_eq_false_iff_not] at h1; omega)
        rw [decide_eq_true_iff] at h1
        refine Need.mk (by omega) ?_
        refine Row.mk _ (map_get _ snaps i (by omega)) ?_
        refine Split.mk fun t h2 => ?_
        cases t
        case false => (exfalso; rw [decide_eq_false_iff_not] at h2; omega)
        rw [decide_eq_true_iff] at h2
        refine Need.mk (by omega) ?_
        refine Row.mk _ (map_get _ snaps i (by omega)) ?_
        refine Split.mk fun t h3 => ?_
        cases t
        case false => (exfalso; rw [decide_eq_false_iff_not] at h3; omega)
        rw [decide_eq_true_iff] at h3
        exact Need.mk ⟨[], _, .same, congrArg rb hres.symm, rfl⟩ trivial
      · have hno : ¬ (o ≤ snaps[i] ∧ snaps[i] < n) := fun h => hB h.2
        subst hs
        refine Split.mk fun t h1 => ?_
        cases t
        case false => (exfalso; rw [decide_eq_false_iff_not] at h1; omega)
        rw [decide_eq_true_iff] at h1
        refine Need.mk (by omega) ?_
        refine Row.mk _ (map_get _ snaps i (by omega)) ?_
        refine Split.mk fun t h2 => ?_
        cases t
        case false => (exfalso; rw [decide_eq_false_iff_not] at h2; omega)
        rw [decide_eq_true_iff] at h2
        refine Need.mk (by omega) ?_
        refine Row.mk _ (map_get _ snaps i (by omega)) ?_
        refine Split.mk fun t h3 => ?_
        cases t
        case true => (exfalso; rw [decide_eq_true_iff] at h3; omega)
        rw [decide_eq_false_iff_not] at h3
        refine Num.mk _ (wrapS (by omega)) ?_
        exact ⟨_, _, by omega, Weak.nrm [true, true, true, false, false, false, false, true] [] rfl rfl rfl, i + 1, by omega, rfl, allS hall (fun _ => hno), rfl⟩
    · have hno : ¬ (o ≤ snaps[i] ∧ snaps[i] < n) := fun h => hA h.1
      subst hs
      refine Split.mk fun t h1 => ?_
      cases t
      case false => (exfalso; rw [decide_eq_false_iff_not] at h1; omega)
      rw [decide_eq_true_iff] at h1
      refine Need.mk (by omega) ?_
      refine Row.mk _ (map_get _ snaps i (by omega)) ?_
      refine Split.mk fun t h2 => ?_
      cases t
      case true => (exfalso; rw [decide_eq_true_iff] at h2; omega)
      rw [decide_eq_false_iff_not] at h2
      refine Num.mk _ (wrapS (by omega)) ?_
      exact ⟨_, _, by omega, Weak.nrm [true, true, true, false, false, false, false, true] [] rfl rfl rfl, i + 1, by omega, rfl, allS hall (fun _ => hno), rfl⟩
theorem impl_parted (a b : Ent) (snaps : List Int) (hl : snaps.length ≤ 1099511627776) : AFn Try.prog 162 [.agg (a.enc.map .c), .agg (b.enc.map .c), sl (snaps.map encI)] [] (rb (partS snaps b.seq a.seq)) [] := by
  have hn : (snaps.map encI).length = snaps.length := List.length_map ..
  refine AFn.introX (E := En 0 md0) (en_ok 0 _ _ _ _ _) Try.func162 rfl rfl rfl fun _ _ => ?_
  let S : Nat → St := fun i => ⟨none :: none :: none :: some (.bx 3 0) :: some (.bx 4 0) :: none :: none :: none :: none :: some (sl (List.map encI snaps)) :: some (av (.int .i64 (↑(List.map encI snaps).length))) :: some (av (.int .i64 i)) :: List.replicate 14 none, absent :: absent :: absent :: ⟨0, 0, some [vs a.key, vi a.seq, vi a.kind, vs a.text, vi a.n]⟩ :: ⟨0, 0, some [vs b.key, vi b.seq, vi b.kind, vs b.text, vi b.n]⟩ :: List.replicate 21 absent⟩
  refine ALoop.mk (fun m s => ∃ i : Nat, i ≤ snaps.length ∧ m = snaps.length - i ∧ (∀ j, j < i → ∀ h : j < snaps.length, ¬ (b.seq ≤ snaps[j] ∧ snaps[j] < a.seq)) ∧ s = S i)
    ⟨_, _, Weak.nrm [false, false, false, true, true, false, false, false, false, true, true, true] [(3, 3), (4, 4)] rfl rfl rfl, 0, Nat.zero_le _, rfl, fun j h => absurd h (by omega), rfl⟩ ?_
  rintro m s ⟨i, hi, rfl, hall, hs⟩
  by_cases hin : i = snaps.length
  · have hres : partS snaps b.seq a.seq = false := partS_false fun j hj => hall j (by omega)
    subst hs
    refine Split.mk fun t h1 => ?_
    cases t
    case true => (exfalso; rw [decide_eq_true_iff] at h1; omega)
    rw [decide_eq_false_iff_not] at h1
    exact Need.mk ⟨[], _, .same, congrArg rb hres.symm, rfl⟩ trivial
  · have hia : i < snaps.length := by omega
    by_cases hA : b.seq ≤ snaps[i]
    · by_cases hB : snaps[i] < a.seq
      · have hres : partS snaps b.seq a.seq = true := partS_true hia hA hB
        subst hs
        refine Split.mk fun t h1 => ?_
        cases t
        case false => (exfalso; rw [decide_eq_false_iff_not] at h1; omega)
        rw [decide_eq_true_iff] at h1
        refine Need.mk (by omega) ?_
        refine Row.mk _ (map_get _ snaps i (by omega)) ?_
        refine Split.mk fun t h2 => ?_
        cases t
        case false => (exfalso; rw [decide_eq_false_iff_not] at h2; omega)
        rw [decide_eq_true_iff] at h2
        refine Split.mk fun t h3 => ?_
        cases t
        case false => (exfalso; rw [decide_eq_false_iff_not] at h3; omega)
        rw [decide_eq_true_iff] at h3
        exact Need.mk ⟨[], _, .same, congrArg rb hres.symm, rfl⟩ trivial
      · have hno : ¬ (b.seq ≤ snaps[i] ∧ snaps[i] < a.seq) := fun h => hB h.2
        subst hs
        refine Split.mk fun t h1 => ?_
        cases t
        case false => (exfalso; rw [decide_eq_false_iff_not] at h1; omega)
        rw [decide_eq_true_iff] at h1
        refine Need.mk (by omega) ?_
        refine Row.mk _ (map_get _ snaps i (by omega)) ?_
        refine Split.mk fun t h2 => ?_
        cases t
        case false => (exfalso; rw [decide_eq_false_iff_not] at h2; omega)
        rw [decide_eq_true_iff] at h2
        refine Split.mk fun t h3 => ?_
        cases t
        case true => (exfalso; rw [decide_eq_true_iff] at h3; omega)
        rw [decide_eq_false_iff_not] at h3
        refine Num.mk _ (wrapS (by omega)) ?_
        exact ⟨_, _, by omega, Weak.nrm [false, false, false, true, true, false, false, false, false, true, true, true] [(3, 3), (4, 4)] rfl rfl rfl, i + 1, by omega, rfl, allS hall (fun _ => hno), rfl⟩
    · have hno : ¬ (b.seq ≤ snaps[i] ∧ snaps[i] < a.seq) := fun h => hA h.1
      subst hs
      refine Split.mk fun t h1 => ?_
      cases t
      case false => (exfalso; rw [decide_eq_false_iff_not] at h1; omega)
      rw [decide_eq_true_iff] at h1
      refine Need.mk (by omega) ?_
      refine Row.mk _ (map_get _ snaps i (by omega)) ?_
      refine Split.mk fun t h2 => ?_
      cases t
      case true => (exfalso; rw [decide_eq_true_iff] at h2; omega)
      rw [decide_eq_false_iff_not] at h2
      refine Num.mk _ (wrapS (by omega)) ?_
      exact ⟨_, _, by omega, Weak.nrm [false, false, false, true, true, false, false, false, false, true, true, true] [(3, 3), (4, 4)] rfl rfl rfl, i + 1, by omega, rfl, allS hall (fun _ => hno), rfl⟩
end Go.Proofs.Ytlmdheeammfihaa

namespace Go.Proofs.Ytlmdheeammfihaa
open Go Go.Proofs Ev
set_option maxRecDepth 100000
set_option linter.unusedSimpArgs false
set_option linter.unusedVariables false
set_option maxHeartbeats 4000000
theorem spec_l4Left (cs : List (List Ent)) (hc : ∀ c ∈ cs, 0 < c.length ∧ c.length ≤ 16777216 ∧ ∀ e ∈ c, entOk e = true) (hl : cs.flatten.length ≤ 16777216) (last : Bool) (o : List Ent) (ho : (leftE last cs).1 = o) : AFn Try.prog 83 [sl (cs.map encX), av (.bool last)] [] (.one (.us 32 (o.map Ent.enc))) [] := by
  have hn : (cs.map encX).length = cs.length := List.length_map ..
  have hcl : cs.length ≤ 16777216 := le_flatten hc hl
  refine AFn.introX (E := En 0 md0) (en_ok 0 _ _ _ _ _) Try.func83 rfl rfl rfl fun _ _ => ?_
  refine Num.mk _ (wrapI (by omega) (by omega)) ?_
  let S : Int → Bool → List (List C) → St := fun z b R => ⟨some (sl (List.map encX cs)) :: some (av (.bool b)) :: none :: none :: none :: some (.one (.ref 5 0 (.cell 0))) :: some (av (.int .i64 z)) :: List.replicate 24 none, absent :: absent :: absent :: absent :: absent :: ⟨0, 1, some [.us 32 R]⟩ :: List.replicate 25 absent⟩
  refine ALoop.mk (fun m s => ∃ (i : Nat) (z : Int) (b : Bool) (x : List Ent) (R : List (List C)), i ≤ cs.length ∧ i = m ∧ z = (i : Int) - 1 ∧ leftE last (cs.drop i) = (x, b) ∧ R = x.map Ent.enc ∧ s = S z b R)
    ⟨_, _, Weak.trans (Weak.nrm [true, true, false, false, false, true, true] [(8, 5)] rfl rfl rfl) Weak.one, cs.length, _, last, [], [], Nat.le_refl _, rfl, by rw [hn], by rw [List.drop_length]; rfl, rfl, rfl⟩ ?_
  rintro m s ⟨i, z, b, x, R, hi, rfl, hz, hL, hR, hs⟩
  cases i with
  | zero =>
    have hz : z = -1 := by omega
    have hx : x = o := by rw [← ho]; exact (congrArg Prod.fst hL).symm
    subst hz
    subst hx
    subst hR
    subst hs
    refine Split.mk fun t h1 => ?_
    cases t
    case true => cases h1
    exact Need.mk ⟨[], _, .same, rfl, rfl⟩ trivial
  | succ j =>
    have hz : z = (j : Int) := by omega
    have hj : j < cs.length := hi
    have hcj := hc cs[j] (List.getElem_mem hj)
    have hxl : x.length ≤ 16777216 := by
      have h1 := leftE_len (last := last) (cs := cs.drop (j + 1)) fun c h => (hc c (List.mem_of_mem_drop h)).1
      rw [hL] at h1
      have h2 : (cs.drop (j + 1)).flatten.length ≤ cs.flatten.length := by
        conv => rhs; rw [← List.take_append_drop (j + 1) cs, List.flatten_append, List.length_append]
        omega
      exact Nat.le_trans h1 (Nat.le_trans h2 hl)
    have hex : ∃ y, classE cs[j] b = y := ⟨_, rfl⟩
    obtain ⟨y, hy⟩ := hex
    have hC := spec_l4Class cs[j] hcj.1 hcj.2.1 hcj.2.2 b y hy
    have hyl : y.length ≤ 16777216 := by rw [← hy]; exact Nat.le_trans (classE_len hcj.1) hcj.2.1
    have hyn : (y.map Ent.enc).length = y.length := List.length_map ..
    have hL2 : leftE last (cs.drop j) = (y ++ x, b && y.isEmpty) := by rw [List.drop_eq_getElem_cons hj, leftE_cons, hL, hy]
    subst hz
    subst hR
    by_cases hy0 : y.length = 0
    · have hb : (b && y.isEmpty) = b := by rw [List.length_eq_zero_iff.1 hy0]; simp
      rw [hb] at hL2
      subst hs
      refine Split.mk fun t h1 => ?_
      cases t
      case false => cases h1
      refine Need.mk (by omega) ?_
      refine Row.mk _ (map_get _ cs j (by omega)) ?_
      refine ACall.mk _ _ hC ?_
      refine Split.mk fun t h2 => ?_
      cases t
      case true => (exfalso; rw [decide_eq_true_iff] at h2; omega)
      rw [decide_eq_false_iff_not] at h2
      refine Need.mk ((plainE _)) ?_
      refine Need.mk (appEq (A' := []) (B' := _) rfl rfl (by simp only [List.length_append, List.length_map, List.length_take, List.length_drop, List.length_cons, List.length_nil, List.length_reverse, List.length_replicate, List.length_set]; omega) (by decide)) ?_
      refine Need.mk ((plainE _)) ?_
      refine Need.mk (appEq (A' := ([] ++ _)) (B' := _) rfl rfl (by simp only [List.length_append, List.length_map, List.length_take, List.length_drop, List.length_cons, List.length_nil, List.length_reverse, List.length_replicate, List.length_set]; omega) (by decide)) ?_
      refine Num.mk _ (wrapI (by omega) (by omega)) ?_
      exact ⟨_, _, by omega, Weak.nrm [true, true, false, false, false, true, true] [(29, 5)] rfl rfl rfl, j, _, b, y ++ x, _, by omega, rfl, rfl, hL2, by rw [List.map_append]; rfl, rfl⟩
    · have hb : (b && y.isEmpty) = false := by
        cases y with
        | nil => exact absurd rfl hy0
        | cons a t => simp
      rw [hb] at hL2
      subst hs
      refine Split.mk fun t h1 => ?_
      cases t
      case false => cases h1
      refine Need.mk (by omega) ?_
      refine Row.mk _ (map_get _ cs j (by omega)) ?_
      refine ACall.mk _ _ hC ?_
      refine Split.mk fun t h2 => ?_
      cases t
      case false => (exfalso; rw [decide_eq_false_iff_not] at h2; omega)
      rw [decide_eq_true_iff] at h2
      refine Need.mk ((plainE _)) ?_
      refine Need.mk (appEq (A' := []) (B' := _) rfl rfl (by simp only [List.length_append, List.length_map, List.length_take, List.length_drop, List.length_cons, List.length_nil, List.length_reverse, List.length_replicate, List.length_set]; omega) (by decide)) ?_
      refine Need.mk ((plainE _)) ?_
      refine Need.mk (appEq (A' := ([] ++ _)) (B' := _) rfl rfl (by simp only [List.length_append, List.length_map, List.length_take, List.length_drop, List.length_cons, List.length_nil, List.length_reverse, List.length_replicate, List.length_set]; omega) (by decide)) ?_
      refine Num.mk _ (wrapI (by omega) (by omega)) ?_
      exact ⟨_, _, by omega, Weak.nrm [true, true, false, false, false, true, true] [(29, 5)] rfl rfl rfl, j, _, false, y ++ x, _, by omega, rfl, rfl, hL2, by rw [List.map_append]; rfl, rfl⟩
theorem spec_l4Classes (l : List Ent) (snaps : List Int) (hs0 : snaps.length ≤ 1099511627776) (hl : l.length ≤ 16777216) (o : List (List Ent)) (ho : classesE snaps l = o) : AFn Try.prog 84 [sl (l.map Ent.enc), sl (snaps.map encI)] [] (.one (.us 23 (o.map encX))) [] := by
  have hn : (l.map Ent.enc).length = l.length := List.length_map ..
  refine AFn.introX (E := En 0 md0) (en_ok 0 _ _ _ _ _) Try.func84 rfl rfl rfl fun _ _ => ?_
  let S : Nat → List (List C) → St := fun i R => ⟨some (sl (List.map Ent.enc l)) :: some (sl (List.map encI snaps)) :: none :: none :: none :: some (.one (.ref 5 0 (.cell 0))) :: some (av (.int .i64 i)) :: List.replicate 39 none, absent :: absent :: absent :: absent :: absent :: ⟨0, 1, some [.us 23 R]⟩ :: List.replicate 40 absent⟩
  refine ALoop.mk (fun m s => ∃ (i : Nat) (D : List (List Ent)) (R : List (List C)), i ≤ l.length ∧ m = l.length - i ∧ groups (brS snaps) l = D ++ groups (brS snaps) (l.drop i) ∧ D.flatten.length = i ∧ R = D.map encX ∧ s = S i R)
    ⟨_, _, Weak.trans (Weak.nrm [true, true, false, false, false, true, true] [(8, 5)] rfl rfl rfl) Weak.one, 0, [], [], Nat.zero_le _, rfl, rfl, rfl, rfl, rfl⟩ ?_
  rintro m s ⟨i, D, R, hi, rfl, hG, hDl, hR, hs⟩
  by_cases hin : i = l.length
  · have hD : D = o := by rw [← ho, classesE, hG, hin, List.drop_length]; simp [groups]
    subst hD
    subst hR
    subst hs
    refine Split.mk fun t h1 => ?_
    cases t
    case true => (exfalso; rw [decide_eq_true_iff] at h1; omega)
    rw [decide_eq_false_iff_not] at h1
    exact Need.mk ⟨[], _, .same, rfl, rfl⟩ trivial
  · have hia : i < l.length := by omega
    subst hs
    refine Split.mk fun t h1 => ?_
    cases t
    case false => (exfalso; rw [decide_eq_false_iff_not] at h1; omega)
    rw [decide_eq_true_iff] at h1
    refine Num.mk _ (wrapS (by omega)) ?_
    let S2 : Nat → St := fun k => ⟨some (sl (List.map Ent.enc l)) :: some (sl (List.map encI snaps)) :: none :: none :: none :: some (.one (.ref 5 0 (.cell 0))) :: some (av (.int .i64 ↑i)) :: some (av (.int .i64 (k : Nat))) :: List.replicate 38 none, absent :: absent :: absent :: absent :: absent :: ⟨0, 1, some [.us 23 R]⟩ :: List.replicate 40 absent⟩
    refine ALoop.mk (fun m s => ∃ k : Nat, i < k ∧ k ≤ l.length ∧ m = l.length - k ∧ (∀ j, i < j → j < k → ∀ h : j < l.length, brS snaps (l[j - 1]'(by omega)) l[j] = false) ∧ s = S2 k)
      ⟨_, _, Weak.nrm [true, true, false, false, false, true, true, true] [(5, 5)] rfl rfl rfl, i + 1, by omega, by omega, rfl, fun j h1 h2 => by omega, rfl⟩ ?_
    rintro m s ⟨k, hik, hk, rfl, hno, hs⟩
    have hfin : (k = l.length ∨ ∀ h : k < l.length, brS snaps (l[k - 1]'(by omega)) l[k] = true) → groups (brS snaps) l = (D ++ [(l.take k).drop i]) ++ groups (brS snaps) (l.drop k) ∧ (D ++ [(l.take k).drop i]).flatten.length = k := fun he => by
      have h := groups_split (br := brS snaps) (l := l.drop i) (k := k - i) (by omega) (by rw [List.length_drop]; omega) (fun j h1 h2 h3 => by
        have := hno (i + j) (by omega) (by omega) (by rw [List.length_drop] at h3; omega)
        simp only [List.getElem_drop]
        have e : i + (j - 1) = i + j - 1 := by omega
        simpa only [e] using this) (fun h3 => by
        rw [List.length_drop] at h3
        have := he.resolve_left (by omega) (by omega)
        simp only [List.getElem_drop]
        have e : i + (k - i - 1) = k - 1 := by omega
        have e2 : i + (k - i) = k := by omega
        simpa only [e, e2] using this)
      have e1 : (l.drop i).take (k - i) = (l.take k).drop i := by rw [List.drop_take]
      have e2 : (l.drop i).drop (k - i) = l.drop k := by rw [List.drop_drop]; congr 1; omega
      rw [e1, e2] at h
      refine ⟨by rw [hG, h]; simp, ?_⟩
      rw [List.flatten_append, List.length_append, hDl]
      simp; omega
    have hDn : D.length ≤ 16777216 := by
      have h1 : (groups (brS snaps) l).length ≤ l.length := groups_len
      rw [hG, List.length_append] at h1
      omega
    have hDm : (D.map encX).length = D.length := List.length_map ..
    have hRR : D.map encX ++ [[C.sl (List.take ((k : Int) - (i : Int)).toNat (List.drop ((i : Int)).toNat (l.map Ent.enc)))]] = (D ++ [(l.take k).drop i]).map encX := by
      rw [List.map_append, Int.toNat_natCast, show ((k : Int) - (i : Int)).toNat = k - i by omega]
      show _ = D.map encX ++ [[C.sl (((l.take k).drop i).map Ent.enc)]]
      rw [List.map_drop, List.map_take, List.drop_take]
    have hnx : encX ((l.take k).drop i) = [.sl (((l.map Ent.enc).take k).drop i)] := by unfold encX; rw [List.map_drop, List.map_take]
    by_cases hkn : k = l.length
    · have hf := hfin (.inl hkn)
      subst hR
      subst hs
      refine Split.mk fun t h1 => ?_
      cases t
      case true => (exfalso; rw [decide_eq_true_iff] at h1; omega)
      rw [decide_eq_false_iff_not] at h1
      refine Need.mk (rfl) ?_
      refine Need.mk (⟨by omega, by omega, by omega, lenE _⟩) ?_
      refine Need.mk (appEq (A' := D.map encX) (B' := [[.sl (List.take ((k : Int) - (i : Int)).toNat (List.drop ((i : Int)).toNat (l.map Ent.enc)))]]) rfl rfl (by rw [hDm]; show D.length + 1 ≤ _; omega) (by decide)) ?_
      exact ⟨_, _, by omega, Weak.nrm [true, true, false, false, false, true, true] [(43, 5)] rfl rfl rfl, k, D ++ [(l.take k).drop i], _, hk, rfl, hf.1, hf.2, hRR, rfl⟩
    · have hka : k < l.length := by omega
      have hkb : k - 1 < l.length := by omega
      have hsub : IntKind.i64.wrap ((k : Int) - 1) = ((k - 1 : Nat) : Int) := wrapI' (by omega) (by omega)
      have hA := spec_l4Apart snaps l[k].seq l[k - 1].seq hs0
      by_cases hbr : partS snaps l[k].seq l[k - 1].seq = true
      · rw [hbr] at hA
        have hf := hfin (.inr fun _ => hbr)
        subst hR
        subst hs
        refine Split.mk fun t h1 => ?_
        cases t
        case false => (exfalso; rw [decide_eq_false_iff_not] at h1; omega)
        rw [decide_eq_true_iff] at h1
        refine Need.mk (by omega) ?_
        refine Row.mk _ (map_get _ l k (by omega)) ?_
        refine Num.mk _ hsub ?_
        refine Need.mk (by omega) ?_
        refine Row.mk _ (map_get _ l (k - 1) (by omega)) ?_
        refine ACall.mk _ _ hA ?_
        refine Split.mk fun t h2 => ?_
        cases t
        case false => cases h2
        refine Need.mk (rfl) ?_
        refine Need.mk (⟨by omega, by omega, by omega, lenE _⟩) ?_
        refine Need.mk (appEq (A' := D.map encX) (B' := [[.sl (List.take ((k : Int) - (i : Int)).toNat (List.drop ((i : Int)).toNat (l.map Ent.enc)))]]) rfl rfl (by rw [hDm]; show D.length + 1 ≤ _; omega) (by decide)) ?_
        exact ⟨_, _, by omega, Weak.nrm [true, true, false, false, false, true, true] [(43, 5)] rfl rfl rfl, k, D ++ [(l.take k).drop i], _, hk, rfl, hf.1, hf.2, hRR, rfl⟩
      · have hbr : partS snaps l[k].seq l[k - 1].seq = false := by simpa using hbr
        rw [hbr] at hA
        have hno2 : ∀ j, i < j → j < k + 1 → ∀ h : j < l.length, brS snaps (l[j - 1]'(by omega)) l[j] = false := fun j h1 h2 h3 => by
          by_cases hjk : j = k
          · subst hjk; exact hbr
          · exact hno j h1 (by omega) h3
        subst hs
        refine Split.mk fun t h1 => ?_
        cases t
        case false => (exfalso; rw [decide_eq_false_iff_not] at h1; omega)
        rw [decide_eq_true_iff] at h1
        refine Need.mk (by omega) ?_
        refine Row.mk _ (map_get _ l k (by omega)) ?_
        refine Num.mk _ hsub ?_
        refine Need.mk (by omega) ?_
        refine Row.mk _ (map_get _ l (k - 1) (by omega)) ?_
        refine ACall.mk _ _ hA ?_
        refine Split.mk fun t h2 => ?_
        cases t
        case true => cases h2
        refine Need.mk (rfl) ?_
        refine Num.mk _ (wrapS (by omega)) ?_
        exact ⟨_, _, by omega, Weak.nrm [true, true, false, false, false, true, true, true] [(5, 5)] rfl rfl rfl, k + 1, by omega, by omega, rfl, hno2, rfl⟩
end Go.Proofs.Ytlmdheeammfihaa

namespace Go.Proofs.Ytlmdheeammfihaa
open Go Go.Proofs Ev
set_option maxRecDepth 100000
set_option linter.unusedSimpArgs false
set_option linter.unusedVariables false
set_option maxHeartbeats 1000000
theorem impl_inOrder (xs : List Ent) (hx : OkE xs) (hxl : xs.length ≤ 1099511627776) : AFn Try.prog 64 [sl (xs.map Ent.enc)] [] (rb (ordOk xs)) [] := by
  refine AFn.introX (E := En 0 md0) (en_ok 0 md0) Try.func64 rfl rfl rfl fun _ _ => ?_
  have fin : ∀ {c : Bool}, c = ordOk xs → rb c = rb (ordOk xs) := fun h => by rw [h]
  refine ALoop.mk (fun m s => ∃ i : Nat, i ≤ xs.length ∧ m = xs.length - i ∧ (∀ (j : Nat) (h : j < xs.length), j < i → entOk xs[j] = true ∧ (∀ k (hk : k + 1 = j), eLess (xs[k]'(by omega)) xs[j] = true)) ∧
      s = ⟨some (sl (xs.map Ent.enc)) :: none :: some (av (.bool false)) :: none :: none :: some (sl (xs.map Ent.enc)) :: some (av (.int .i64 xs.length)) :: some (av (.int .i64 i)) :: List.replicate 22 none, List.replicate 30 absent⟩)
    ⟨xs.length, _, Weak.nrm [true, false, true, false, false, true, true, true] [] rfl rfl rfl, 0, Nat.zero_le _, rfl, by intro j h hj; omega, by rw [show ((xs.length : Nat) : Int) = ((xs.map Ent.enc).length : Nat) by rw [List.length_map]]; rfl⟩ ?_
  rintro m s ⟨i, hi, rfl, hall, rfl⟩
  refine Split.mk fun t ht => ?_
  cases t
  · have hin : i = xs.length := by simp at ht; omega
    subst hin
    exact Need.mk ⟨[], _, .same, fin ((ordOk_iff xs).2 fun j h => hall j h h).symm, rfl⟩ trivial
  have hia : i < xs.length := by simpa using ht
  refine Need.mk (by omega) ?_
  refine Row.mk _ (map_get _ xs i hia) ?_
  refine ACall.mk _ _ (impl_EntryOk xs[i] (hx _ (List.getElem_mem _))) ?_
  refine Split.mk fun t h1 => ?_
  cases t
  · refine Need.mk rfl ?_
    exact Need.mk ⟨[], _, .same, fin (ordOk_bad hia (.inl h1)).symm, rfl⟩ trivial
  refine Split.mk fun t h2 => ?_
  cases t
  · have h0 : i = 0 := by simp at h2; omega
    refine Need.mk rfl ?_
    refine Num.mk _ (wrapS (by omega)) ?_
    refine ⟨xs.length - (i + 1), _, by omega, Weak.nrm [true, false, true, false, false, true, true, true] [] rfl rfl rfl, i + 1, by omega, rfl, fun j h hj => ?_, rfl⟩
    have : j = i := by omega
    subst this
    exact ⟨h1, fun k hk => by omega⟩
  · have h0 : 0 < i := by simp at h2; omega
    refine Num.mk ((i - 1 : Nat) : Int) (wrapI' (by omega) (by omega)) ?_
    refine Need.mk (by omega) ?_
    refine Row.mk _ (map_get _ xs (i - 1) (by omega)) ?_
    refine ACall.mk _ _ (impl_EntryLess (xs[i - 1]'(by omega)) xs[i]) ?_
    refine Split.mk fun t h3 => ?_
    cases t
    · refine Need.mk rfl ?_
      exact Need.mk ⟨[], _, .same, fin (ordOk_bad hia (.inr ⟨i - 1, by omega, h3⟩)).symm, rfl⟩ trivial
    · refine Need.mk rfl ?_
      refine Num.mk _ (wrapS (by omega)) ?_
      refine ⟨xs.length - (i + 1), _, by omega, Weak.nrm [true, false, true, false, false, true, true, true] [] rfl rfl rfl, i + 1, by omega, rfl, fun j h hj => ?_, rfl⟩
      by_cases hji : j = i
      · subst hji
        refine ⟨h1, fun k hk => ?_⟩
        have : k = j - 1 := by omega
        subst this
        exact h3
      · exact hall j h (by omega)
theorem spec_l4Right (xs : List Ent) (hx : OkE xs) (hxl : xs.length ≤ 1099511627776) : AFn Try.prog 69 [sl (xs.map Ent.enc)] [] (rb (ordOk xs)) [] := by
  refine AFn.introX (E := En 0 md0) (en_ok 0 md0) Try.func69 rfl rfl rfl fun _ _ => ?_
  have fin : ∀ {c : Bool}, c = ordOk xs → rb c = rb (ordOk xs) := fun h => by rw [h]
  have hn : (xs.map Ent.enc).length = xs.length := List.length_map ..
  refine ALoop.mk (fun m s => ∃ i : Nat, i ≤ xs.length ∧ m = xs.length - i ∧ (∀ (j : Nat) (h : j < xs.length), j < i → entOk xs[j] = true ∧ (∀ k (hk : k + 1 = j), eLess (xs[k]'(by omega)) xs[j] = true)) ∧
      s = ⟨some (sl (xs.map Ent.enc)) :: none :: some (av (.bool false)) :: some (av (.int .i64 i)) :: List.replicate 29 none, List.replicate 33 absent⟩)
    ⟨xs.length, _, Weak.nrm [true, false, true, true] [] rfl rfl rfl, 0, Nat.zero_le _, rfl, by intro j h hj; omega, rfl⟩ ?_
  rintro m s ⟨i, hi, rfl, hall, rfl⟩
  refine Split.mk fun t ht => ?_
  rw [hn] at ht
  cases t
  · have hin : i = xs.length := by simp at ht; omega
    subst hin
    exact Need.mk ⟨[], _, .same, fin ((ordOk_iff xs).2 fun j h => hall j h h).symm, rfl⟩ trivial
  have hia : i < xs.length := by simpa using ht
  refine Need.mk (by omega) ?_
  refine Row.mk _ (map_get _ xs i hia) ?_
  refine ACall.mk _ _ (spec_EntryOk xs[i] (hx _ (List.getElem_mem _))) ?_
  refine Split.mk fun t h1 => ?_
  cases t
  · refine Need.mk rfl ?_
    exact Need.mk ⟨[], _, .same, fin (ordOk_bad hia (.inl h1)).symm, rfl⟩ trivial
  refine Split.mk fun t h2 => ?_
  cases t
  · have h0 : i = 0 := by simp at h2; omega
    refine Need.mk rfl ?_
    refine Num.mk _ (wrapS (by omega)) ?_
    refine ⟨xs.length - (i + 1), _, by omega, Weak.nrm [true, false, true, true] [] rfl rfl rfl, i + 1, by omega, rfl, fun j h hj => ?_, rfl⟩
    have : j = i := by omega
    subst this
    exact ⟨h1, fun k hk => by omega⟩
  · have h0 : 0 < i := by simp at h2; omega
    refine Num.mk ((i - 1 : Nat) : Int) (wrapI' (by omega) (by omega)) ?_
    refine Need.mk (by omega) ?_
    refine Row.mk _ (map_get _ xs (i - 1) (by omega)) ?_
    refine Need.mk (by omega) ?_
    refine Row.mk _ (map_get _ xs i hia) ?_
    refine ACall.mk _ _ (spec_EntryLess (xs[i - 1]'(by omega)) xs[i]) ?_
    refine Split.mk fun t h3 => ?_
    cases t
    · refine Need.mk rfl ?_
      exact Need.mk ⟨[], _, .same, fin (ordOk_bad hia (.inr ⟨i - 1, by omega, h3⟩)).symm, rfl⟩ trivial
    · refine Need.mk rfl ?_
      refine Num.mk _ (wrapS (by omega)) ?_
      refine ⟨xs.length - (i + 1), _, by omega, Weak.nrm [true, false, true, true] [] rfl rfl rfl, i + 1, by omega, rfl, fun j h hj => ?_, rfl⟩
      by_cases hji : j = i
      · subst hji
        refine ⟨h1, fun k hk => ?_⟩
        have : k = j - 1 := by omega
        subst this
        exact h3
      · exact hall j h (by omega)
end Go.Proofs.Ytlmdheeammfihaa

namespace Go.Proofs.Ytlmdheeammfihaa
open Go Go.Proofs Ev
set_option maxRecDepth 100000
set_option linter.unusedSimpArgs false
set_option linter.unusedVariables false
set_option maxHeartbeats 4000000
theorem spec_Squash_ok (l : List Ent) (snaps : List Int) (hs0 : snaps.length ≤ 1099511627776) (hl : l.length ≤ 16777216) (hx : OkE l) (hok : ordOk l = true) (last : Bool) (o : List Ent) (ho : squash l snaps last = o) : AFn Try.prog 31 [sl (l.map Ent.enc), sl (snaps.map encI), av (.bool last)] [] (.one (.us 32 (o.map Ent.enc))) [] := by
  have hn : (l.map Ent.enc).length = l.length := List.length_map ..
  have hR := spec_l4Right l hx (Nat.le_trans hl (by decide))
  rw [hok] at hR
  refine AFn.introX (E := En 0 md0) (en_ok 0 _ _ _ _ _) Try.func31 rfl rfl rfl fun _ _ => ?_
  refine ACall.mk _ _ hR ?_
  refine Split.mk fun t h1 => ?_
  cases t
  case false => cases h1
  let S : Nat → List (List C) → St := fun i R => ⟨some (sl (List.map Ent.enc l)) :: some (sl (List.map encI snaps)) :: some (av (.bool last)) :: none :: none :: none :: none :: some (.one (.ref 7 0 (.cell 0))) :: some (av (.int .i64 i)) :: List.replicate 43 none, absent :: absent :: absent :: absent :: absent :: absent :: absent :: ⟨0, 1, some [.us 32 R]⟩ :: List.replicate 44 absent⟩
  refine ALoop.mk (fun m s => ∃ (i : Nat) (D : List (List Ent)) (x : List Ent) (R : List (List C)), i ≤ l.length ∧ m = l.length - i ∧ groups brK l = D ++ groups brK (l.drop i) ∧ x = D.flatMap (squashK snaps last) ∧ x.length ≤ i ∧ R = x.map Ent.enc ∧ s = S i R)
    ⟨_, _, Weak.trans (Weak.nrm [true, true, true, false, false, false, false, true, true] [(10, 7)] rfl rfl rfl) Weak.one, 0, [], [], [], Nat.zero_le _, rfl, rfl, rfl, Nat.zero_le _, rfl, rfl⟩ ?_
  rintro m s ⟨i, D, x, R, hi, rfl, hG, hx1, hxl, hR1, hs⟩
  by_cases hin : i = l.length
  · have hxo : x = o := by rw [hx1, ← ho, squash, hG, hin, List.drop_length]; simp [groups]
    subst hxo
    subst hR1
    subst hs
    refine Split.mk fun t h1 => ?_
    cases t
    case true => (exfalso; rw [decide_eq_true_iff] at h1; omega)
    rw [decide_eq_false_iff_not] at h1
    exact Need.mk ⟨[], _, .same, rfl, rfl⟩ trivial
  · have hia : i < l.length := by omega
    subst hs
    refine Split.mk fun t h1 => ?_
    cases t
    case false => (exfalso; rw [decide_eq_false_iff_not] at h1; omega)
    rw [decide_eq_true_iff] at h1
    refine Num.mk _ (wrapS (by omega)) ?_
    have h00 : ∀ j, i ≤ j → j < i + 1 → ∀ h : j < l.length, l[j].key = (l[i]'hia).key := fun j h1 h2 h3 => by
      have h4 : j = i := by omega
      subst h4
      rfl
    let S2 : Nat → St := fun k => ⟨some (sl (List.map Ent.enc l)) :: some (sl (List.map encI snaps)) :: some (av (.bool last)) :: none :: none :: none :: none :: some (.one (.ref 7 0 (.cell 0))) :: some (av (.int .i64 ↑i)) :: some (av (.int .i64 (k : Nat))) :: List.replicate 42 none, absent :: absent :: absent :: absent :: absent :: absent :: absent :: ⟨0, 1, some [.us 32 R]⟩ :: List.replicate 44 absent⟩
    refine ALoop.mk (fun m s => ∃ k : Nat, i < k ∧ k ≤ l.length ∧ m = l.length - k ∧ (∀ j, i ≤ j → j < k → ∀ h : j < l.length, l[j].key = (l[i]'hia).key) ∧ s = S2 k)
      ⟨_, _, Weak.nrm [true, true, true, false, false, false, false, true, true, true] [(7, 7)] rfl rfl rfl, i + 1, by omega, by omega, rfl, h00, rfl⟩ ?_
    rintro m s ⟨k, hik, hk, rfl, hno, hs⟩
    have hex : ∃ g, (l.take k).drop i = g := ⟨_, rfl⟩
    obtain ⟨g, hg⟩ := hex
    have hgl : g.length = k - i := by rw [← hg, List.length_drop, List.length_take]; omega
    have hfin : ∀ _ : Unit, (k = l.length ∨ ∀ h : k < l.length, ¬ l[k].key = (l[i]'hia).key) → groups brK l = (D ++ [g]) ++ groups brK (l.drop k) := fun _ he => by
      have h := groups_split (br := brK) (l := l.drop i) (k := k - i) (by omega) (by rw [List.length_drop]; omega) (fun j h1 h2 h3 => by
        rw [List.length_drop] at h3
        have h5 := hno (i + j) (by omega) (by omega) (by omega)
        have h6 := hno (i + j - 1) (by omega) (by omega) (by omega)
        simp only [List.getElem_drop, brK]
        have e : i + (j - 1) = i + j - 1 := by omega
        simp only [e]
        rw [h5, h6]; simp) (fun h3 => by
        rw [List.length_drop] at h3
        have hkl : k < l.length := by omega
        have hne : ¬ k = l.length := by omega
        have h4 : ¬ l[k].key = (l[i]'hia).key := he.resolve_left hne hkl
        have h6 := hno (k - 1) (by omega) (by omega) (by omega)
        simp only [List.getElem_drop, brK]
        have e : i + (k - i - 1) = k - 1 := by omega
        have e2 : i + (k - i) = k := by omega
        simp only [e, e2]
        rw [h6]; simp [h4])
      have e1 : (l.drop i).take (k - i) = g := by rw [← hg, List.drop_take]
      have e2 : (l.drop i).drop (k - i) = l.drop k := by rw [List.drop_drop]; congr 1; omega
      rw [e1, e2] at h
      rw [hG, h]; simp
    have hgm : ∀ e ∈ g, entOk e = true := fun e he => ordOk_all hok e (by rw [← hg] at he; exact List.mem_of_mem_take (List.mem_of_mem_drop he))
    have hex : ∃ cs, classesE snaps g = cs := ⟨_, rfl⟩
    obtain ⟨cs, hcs⟩ := hex
    have hC := spec_l4Classes g snaps hs0 (by omega) cs hcs
    have hform : List.take ((k : Int) - (i : Int)).toNat (List.drop ((i : Int)).toNat (l.map Ent.enc)) = g.map Ent.enc := by
      rw [Int.toNat_natCast, show ((k : Int) - (i : Int)).toNat = k - i by omega, ← hg, List.map_drop, List.map_take, List.drop_take]
    rw [← hform] at hC
    have hcc : ∀ c ∈ cs, 0 < c.length ∧ c.length ≤ 16777216 ∧ ∀ e ∈ c, entOk e = true := fun c hc => by
      rw [← hcs] at hc
      exact ⟨groups_pos c hc, Nat.le_trans (groups_le hc) (by omega), fun e he => hgm e (groups_mem hc he)⟩
    have hcf : cs.flatten.length ≤ 16777216 := by rw [← hcs, classesE, groups_flat]; omega
    have hex : ∃ y, squashK snaps last g = y := ⟨_, rfl⟩
    obtain ⟨y, hy⟩ := hex
    have hy2 : (leftE last cs).1 = y := by rw [← hy, squashK, hcs]
    have hLf := spec_l4Left cs hcc hcf last y hy2
    have hyl : y.length ≤ k - i := by rw [← hy, ← hgl]; exact squashK_len
    have hx2 : x ++ y = (D ++ [g]).flatMap (squashK snaps last) := by rw [List.flatMap_append, ← hx1]; simp [hy]
    have hxy : (x ++ y).length ≤ k := by rw [List.length_append]; omega
    have hRR : x.map Ent.enc ++ y.map Ent.enc = (x ++ y).map Ent.enc := List.map_append.symm
    by_cases hkn : k = l.length
    · have hf := hfin () (.inl hkn)
      subst hR1
      subst hs
      refine Split.mk fun t h1 => ?_
      cases t
      case true => (exfalso; rw [decide_eq_true_iff] at h1; omega)
      rw [decide_eq_false_iff_not] at h1
      refine Need.mk (rfl) ?_
      refine Need.mk (⟨by omega, by omega, by omega, lenE _⟩) ?_
      refine ACall.mk _ _ hC ?_
      refine Fz.mk _ (frzXX _) ?_
      refine ACall.mk _ _ hLf ?_
      refine Need.mk (⟨ClL.mem (.us (clE _) .nil), no_objs⟩) ?_
      refine Need.mk ((plainE _)) ?_
      refine Need.mk (appEq (A' := _) (B' := _) rfl rfl (by simp only [List.length_append, List.length_map, List.length_take, List.length_drop, List.length_cons, List.length_nil, List.length_reverse, List.length_replicate, List.length_set]; omega) (by decide)) ?_
      exact ⟨_, _, by omega, Weak.nrm [true, true, true, false, false, false, false, true, true] [(49, 7)] rfl rfl rfl, k, D ++ [g], x ++ y, _, hk, rfl, hf, hx2, hxy, hRR, rfl⟩
    · have hka : k < l.length := by omega
      by_cases hbr : l[k].key = l[i].key
      · have hno2 : ∀ j, i ≤ j → j < k + 1 → ∀ h : j < l.length, l[j].key = (l[i]'hia).key := fun j h1 h2 h3 => by
          by_cases hjk : j = k
          · subst hjk; exact hbr
          · exact hno j h1 (by omega) h3
        subst hs
        refine Split.mk fun t h1 => ?_
        cases t
        case false => (exfalso; rw [decide_eq_false_iff_not] at h1; omega)
        rw [decide_eq_true_iff] at h1
        refine Need.mk (by omega) ?_
        refine Row.mk _ (map_get _ l k (by omega)) ?_
        refine Need.mk (by omega) ?_
        refine Row.mk _ (map_get _ l i (by omega)) ?_
        refine Split.mk fun t h2 => ?_
        cases t
        case false => (exfalso; rw [bytes_beq, decide_eq_false_iff_not] at h2; exact absurd ‹_› h2)
        rw [bytes_beq, decide_eq_true_iff] at h2
        refine Need.mk (rfl) ?_
        refine Num.mk _ (wrapS (by omega)) ?_
        exact ⟨_, _, by omega, Weak.nrm [true, true, true, false, false, false, false, true, true, true] [(7, 7)] rfl rfl rfl, k + 1, by omega, by omega, rfl, hno2, rfl⟩
      · have hf := hfin () (.inr fun _ => hbr)
        subst hR1
        subst hs
        refine Split.mk fun t h1 => ?_
        cases t
        case false => (exfalso; rw [decide_eq_false_iff_not] at h1; omega)
        rw [decide_eq_true_iff] at h1
        refine Need.mk (by omega) ?_
        refine Row.mk _ (map_get _ l k (by omega)) ?_
        refine Need.mk (by omega) ?_
        refine Row.mk _ (map_get _ l i (by omega)) ?_
        refine Split.mk fun t h2 => ?_
        cases t
        case true => (exfalso; rw [bytes_beq, decide_eq_true_iff] at h2; exact absurd h2 ‹_›)
        rw [bytes_beq, decide_eq_false_iff_not] at h2
        refine Need.mk (rfl) ?_
        refine Need.mk (⟨by omega, by omega, by omega, lenE _⟩) ?_
        refine ACall.mk _ _ hC ?_
        refine Fz.mk _ (frzXX _) ?_
        refine ACall.mk _ _ hLf ?_
        refine Need.mk (⟨ClL.mem (.us (clE _) .nil), no_objs⟩) ?_
        refine Need.mk ((plainE _)) ?_
        refine Need.mk (appEq (A' := _) (B' := _) rfl rfl (by simp only [List.length_append, List.length_map, List.length_take, List.length_drop, List.length_cons, List.length_nil, List.length_reverse, List.length_replicate, List.length_set]; omega) (by decide)) ?_
        exact ⟨_, _, by omega, Weak.nrm [true, true, true, false, false, false, false, true, true] [(49, 7)] rfl rfl rfl, k, D ++ [g], x ++ y, _, hk, rfl, hf, hx2, hxy, hRR, rfl⟩
def squashed (l : List Ent) (snaps : List Int) (last : Bool) : List Ent := if ordOk l then squash l snaps last else []
theorem spec_Squash (l : List Ent) (snaps : List Int) (hs0 : snaps.length ≤ 1099511627776) (hl : l.length ≤ 16777216) (hx : OkE l) (last : Bool) : AFn Try.prog 31 [sl (l.map Ent.enc), sl (snaps.map encI), av (.bool last)] [] (.one (.us 32 ((squashed l snaps last).map Ent.enc))) [] := by
  by_cases hok : ordOk l = true
  · rw [show squashed l snaps last = squash l snaps last from if_pos hok]
    exact spec_Squash_ok l snaps hs0 hl hx hok last _ rfl
  · rw [show squashed l snaps last = [] from if_neg hok]
    have hok : ordOk l = false := by simpa using hok
    have hR := spec_l4Right l hx (Nat.le_trans hl (by decide))
    rw [hok] at hR
    refine AFn.introX (E := En 0 md0) (en_ok 0 _ _ _ _ _) Try.func31 rfl rfl rfl fun _ _ => ?_
    refine ACall.mk _ _ hR ?_
    refine Split.mk fun t h1 => ?_
    cases t
    case true => cases h1
    exact Need.mk ⟨[], _, .same, rfl, rfl⟩ trivial
end Go.Proofs.Ytlmdheeammfihaa

namespace Go.Proofs.Ytlmdheeammfihaa
open Go Go.Proofs Ev
set_option maxRecDepth 100000
set_option linter.unusedSimpArgs false
set_option linter.unusedVariables false
open Go.RowKit Go.Shelf
attribute [local go_sem] Oper.semAt_some
set_option maxHeartbeats 2000000 in
theorem impl_classesOf_in (F : Fence) (n : Nat) (hf : F.fn 132) (hro : F.round = none) (a1 a2 : Option Addr) (n1 c1 n2 c2 : Nat) (w : World) :
    CallsIn F n Try.prog 132 #[.slice a1 n1 c1, .slice a2 n2 c2] w fun e w' => e = .returned (.func (.func 161) #[] #[.pointer (some ⟨w.heap.size, 0, none⟩), .pointer (some ⟨w.heap.size + 1, 0, none⟩)]) ∧
      w' = (w.alloc (.cells #[.slice a1 n1 c1] 23)).alloc (.cells #[.slice a2 n2 c2] 48) := by
  refine callsIn_of_wp Try.func132 rfl hf ?_ hro
  simp only [Try.ntmps132, List.size_toArray, List.length_cons, List.length_nil, Nat.reduceAdd, Nat.reduceSub, Array.replicate_succ, Array.replicate_zero, List.push_toArray, List.append_toArray, List.nil_append, List.cons_append]
  gi_wp2
  go_ret
  exact ⟨rfl, by simp⟩
end Go.Proofs.Ytlmdheeammfihaa
