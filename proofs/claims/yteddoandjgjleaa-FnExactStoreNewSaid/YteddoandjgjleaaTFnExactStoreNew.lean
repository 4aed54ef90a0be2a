/-
  Contracts of functions, part 1.
-/
import Derived.Test.YteddoandjgjleaaEvB
import Derived.Test.YteddoandjgjleaaProg
import Derived.KernelRfl
namespace Go.Proofs.Yteddoandjgjleaa
open Go Go.Proofs Ev
def tab : List (TypeId × TI) := [
  (2, ⟨1, 8, false, .int .i64, [.int .i64 0], [none], none⟩),
  (3, ⟨1, 8, false, .int .i64, [.int .i64 0], [none], none⟩),
  (4, ⟨1, 1, false, .bool, [.bool false], [none], none⟩),
  (5, ⟨1, 1, false, .int .u8, [.int .u8 0], [none], none⟩),
  (9, ⟨1, 16, false, .str, [.string ⟨#[]⟩], [none], none⟩),
  (12, ⟨1, 8, false, .int .u64, [.int .u64 0], [none], none⟩),
  (20, ⟨1, 16, false, .other, [.nilIface], [none], none⟩),
  (21, ⟨1, 4, false, .int .i32, [.int .i32 0], [none], none⟩),
  (22, ⟨1, 24, false, .slice 82, [nilV], [some 82], none⟩),
  (23, ⟨1, 24, false, .slice 91, [nilV], [some 91], none⟩),
  (24, ⟨1, 24, false, .slice 3, [nilV], [some 3], none⟩),
  (25, ⟨4, 80, true, .struct [(0, 3), (1, 22), (2, 23), (3, 24)], [.int .i64 0, nilV, nilV, nilV], [none, some 82, some 91, some 3], none⟩),
  (26, ⟨4, 80, true, .struct [(0, 3), (1, 22), (2, 23), (3, 24)], [.int .i64 0, nilV, nilV, nilV], [none, some 82, some 91, some 3], none⟩),
  (27, ⟨1, 8, false, .other, [.nilFunc], [none], none⟩),
  (28, ⟨1, 8, false, .other, [.nilFunc], [none], none⟩),
  (29, ⟨1, 8, false, .other, [.nilFunc], [none], none⟩),
  (30, ⟨1, 8, false, .other, [.nilFunc], [none], none⟩),
  (31, ⟨4, 56, true, .struct [(0, 9), (1, 3), (2, 23), (3, 3)], [.string ⟨#[]⟩, .int .i64 0, nilV, .int .i64 0], [none, none, some 91, none], none⟩),
  (32, ⟨4, 56, true, .struct [(0, 9), (1, 3), (2, 23), (3, 3)], [.string ⟨#[]⟩, .int .i64 0, nilV, .int .i64 0], [none, none, some 91, none], none⟩),
  (33, ⟨9, 144, true, .struct [(0, 4), (1, 26), (5, 32)], [.bool false, .int .i64 0, nilV, nilV, nilV, .string ⟨#[]⟩, .int .i64 0, nilV, .int .i64 0], [none, none, some 82, some 91, some 3, none, none, some 91, none], none⟩),
  (34, ⟨9, 144, true, .struct [(0, 4), (1, 26), (5, 32)], [.bool false, .int .i64 0, nilV, nilV, nilV, .string ⟨#[]⟩, .int .i64 0, nilV, .int .i64 0], [none, none, some 82, some 91, some 3, none, none, some 91, none], none⟩),
  (35, ⟨1, 8, false, .other, [.nilFunc], [none], none⟩),
  (36, ⟨1, 8, false, .other, [.nilFunc], [none], none⟩),
  (37, ⟨1, 8, false, .other, [.nilFunc], [none], none⟩),
  (38, ⟨1, 24, false, .slice 119, [nilV], [some 119], none⟩),
  (39, ⟨1, 24, false, .slice 140, [nilV], [some 140], none⟩),
  (40, ⟨4, 80, true, .struct [(0, 3), (1, 38), (2, 39), (3, 24)], [.int .i64 0, nilV, nilV, nilV], [none, some 119, some 140, some 3], none⟩),
  (41, ⟨4, 80, true, .struct [(0, 3), (1, 38), (2, 39), (3, 24)], [.int .i64 0, nilV, nilV, nilV], [none, some 119, some 140, some 3], none⟩),
  (42, ⟨1, 8, false, .other, [.nilFunc], [none], none⟩),
  (43, ⟨1, 8, false, .other, [.nilFunc], [none], none⟩),
  (44, ⟨1, 8, false, .other, [.nilFunc], [none], none⟩),
  (45, ⟨4, 56, true, .struct [(0, 9), (1, 3), (2, 39), (3, 3)], [.string ⟨#[]⟩, .int .i64 0, nilV, .int .i64 0], [none, none, some 140, none], none⟩),
  (46, ⟨4, 56, true, .struct [(0, 9), (1, 3), (2, 39), (3, 3)], [.string ⟨#[]⟩, .int .i64 0, nilV, .int .i64 0], [none, none, some 140, none], none⟩),
  (47, ⟨9, 144, true, .struct [(0, 4), (1, 41), (5, 46)], [.bool false, .int .i64 0, nilV, nilV, nilV, .string ⟨#[]⟩, .int .i64 0, nilV, .int .i64 0], [none, none, some 119, some 140, some 3, none, none, some 140, none], none⟩),
  (48, ⟨9, 144, true, .struct [(0, 4), (1, 41), (5, 46)], [.bool false, .int .i64 0, nilV, nilV, nilV, .string ⟨#[]⟩, .int .i64 0, nilV, .int .i64 0], [none, none, some 119, some 140, some 3, none, none, some 140, none], none⟩),
  (49, ⟨1, 8, false, .other, [.nilFunc], [none], none⟩),
  (50, ⟨1, 8, false, .other, [.nilFunc], [none], none⟩),
  (51, ⟨1, 8, false, .other, [.nilFunc], [none], none⟩),
  (52, ⟨2, 32, true, .struct [(0, 38), (1, 3)], [nilV, .int .i64 0], [some 119, none], none⟩),
  (53, ⟨2, 32, true, .struct [(0, 38), (1, 3)], [nilV, .int .i64 0], [some 119, none], none⟩),
  (54, ⟨1, 8, false, .other, [.nilFunc], [none], none⟩),
  (55, ⟨1, 8, false, .other, [.nilFunc], [none], none⟩),
  (56, ⟨2, 32, true, .struct [(0, 22), (1, 3)], [nilV, .int .i64 0], [some 82, none], none⟩),
  (57, ⟨2, 32, true, .struct [(0, 22), (1, 3)], [nilV, .int .i64 0], [some 82, none], none⟩),
  (58, ⟨1, 8, false, .other, [.nilFunc], [none], none⟩),
  (59, ⟨1, 8, false, .other, [.nilFunc], [none], none⟩),
  (60, ⟨1, 8, false, .other, [.nilFunc], [none], none⟩),
  (61, ⟨1, 24, false, .slice 38, [nilV], [some 38], none⟩),
  (62, ⟨1, 8, false, .other, [.nilFunc], [none], none⟩),
  (63, ⟨1, 8, false, .other, [.nilFunc], [none], none⟩),
  (64, ⟨1, 24, false, .slice 22, [nilV], [some 22], none⟩),
  (65, ⟨1, 8, false, .other, [.nilFunc], [none], none⟩),
  (66, ⟨1, 8, false, .other, [.nilFunc], [none], none⟩),
  (67, ⟨1, 8, false, .other, [.nilFunc], [none], none⟩),
  (68, ⟨1, 8, false, .other, [.nilFunc], [none], none⟩),
  (69, ⟨1, 8, false, .other, [.nilFunc], [none], none⟩),
  (70, ⟨1, 8, false, .other, [.nilFunc], [none], none⟩),
  (71, ⟨1, 8, false, .other, [.nilFunc], [none], none⟩),
  (73, ⟨1, 8, false, .other, [.nilFunc], [none], none⟩),
  (74, ⟨1, 8, false, .other, [.nilFunc], [none], none⟩),
  (75, ⟨1, 8, false, .other, [.nilFunc], [none], none⟩),
  (76, ⟨1, 8, false, .other, [.nilFunc], [none], none⟩),
  (77, ⟨1, 8, false, .other, [.nilFunc], [none], none⟩),
  (78, ⟨1, 8, false, .other, [.nilFunc], [none], none⟩),
  (79, ⟨1, 24, false, .slice 5, [nilV], [some 5], none⟩),
  (80, ⟨1, 8, false, .other, [.nilFunc], [none], none⟩),
  (81, ⟨5, 56, true, .struct [(0, 9), (1, 3), (2, 3), (3, 9), (4, 3)], [.string ⟨#[]⟩, .int .i64 0, .int .i64 0, .string ⟨#[]⟩, .int .i64 0], [none, none, none, none, none], some [.str, .int .i64, .int .i64, .str, .int .i64]⟩),
  (82, ⟨5, 56, true, .struct [(0, 9), (1, 3), (2, 3), (3, 9), (4, 3)], [.string ⟨#[]⟩, .int .i64 0, .int .i64 0, .string ⟨#[]⟩, .int .i64 0], [none, none, none, none, none], some [.str, .int .i64, .int .i64, .str, .int .i64]⟩),
  (83, ⟨1, 8, false, .other, [.nilFunc], [none], none⟩),
  (84, ⟨1, 8, false, .other, [.nilFunc], [none], none⟩),
  (85, ⟨1, 8, false, .other, [.nilFunc], [none], none⟩),
  (87, ⟨1, 8, false, .other, [.nilFunc], [none], none⟩),
  (88, ⟨1, 8, false, .other, [.nilFunc], [none], none⟩),
  (90, ⟨1, 8, false, .other, [.nilFunc], [none], none⟩),
  (91, ⟨1, 24, false, .slice 57, [nilV], [some 57], none⟩),
  (92, ⟨1, 8, false, .other, [.nilFunc], [none], none⟩),
  (93, ⟨1, 8, false, .other, [.nilFunc], [none], none⟩),
  (94, ⟨1, 8, false, .other, [.nilFunc], [none], none⟩),
  (95, ⟨1, 8, false, .other, [.nilFunc], [none], none⟩),
  (96, ⟨1, 8, false, .other, [.nilFunc], [none], none⟩),
  (97, ⟨1, 8, false, .other, [.nilFunc], [none], none⟩),
  (98, ⟨1, 8, false, .other, [.nilFunc], [none], none⟩),
  (99, ⟨1, 8, false, .other, [.nilFunc], [none], none⟩),
  (100, ⟨1, 8, false, .other, [.nilFunc], [none], none⟩),
  (101, ⟨1, 8, false, .other, [.nilFunc], [none], none⟩),
  (102, ⟨1, 8, false, .other, [.nilFunc], [none], none⟩),
  (103, ⟨1, 8, false, .other, [.nilFunc], [none], none⟩),
  (104, ⟨1, 8, false, .other, [.nilFunc], [none], none⟩),
  (105, ⟨1, 8, false, .other, [.nilFunc], [none], none⟩),
  (106, ⟨1, 8, false, .other, [.nilFunc], [none], none⟩),
  (107, ⟨1, 24, false, .slice 112, [nilV], [some 112], none⟩),
  (108, ⟨1, 24, false, .slice 112, [nilV], [some 112], none⟩),
  (109, ⟨1, 8, false, .other, [.nilFunc], [none], none⟩),
  (110, ⟨1, 8, false, .other, [.nilFunc], [none], none⟩),
  (111, ⟨2, 32, true, .struct [(0, 22), (1, 3)], [nilV, .int .i64 0], [some 82, none], none⟩),
  (112, ⟨2, 32, true, .struct [(0, 22), (1, 3)], [nilV, .int .i64 0], [some 82, none], none⟩),
  (113, ⟨1, 8, false, .other, [.nilFunc], [none], none⟩),
  (114, ⟨1, 8, false, .ptr, [.pointer none], [none], none⟩),
  (115, ⟨1, 8, false, .other, [.nilFunc], [none], none⟩),
  (116, ⟨1, 8, false, .other, [.nilFunc], [none], none⟩),
  (117, ⟨1, 8, false, .other, [.nilFunc], [none], none⟩),
  (118, ⟨1, 8, false, .other, [.nilFunc], [none], none⟩),
  (119, ⟨5, 56, true, .struct [(0, 9), (1, 3), (2, 3), (3, 9), (4, 3)], [.string ⟨#[]⟩, .int .i64 0, .int .i64 0, .string ⟨#[]⟩, .int .i64 0], [none, none, none, none, none], some [.str, .int .i64, .int .i64, .str, .int .i64]⟩),
  (120, ⟨1, 8, false, .other, [.nilFunc], [none], none⟩),
  (121, ⟨1, 8, false, .other, [.nilFunc], [none], none⟩),
  (122, ⟨1, 8, false, .other, [.nilFunc], [none], none⟩),
  (123, ⟨1, 8, false, .other, [.nilFunc], [none], none⟩),
  (124, ⟨1, 8, false, .other, [.nilFunc], [none], none⟩),
  (125, ⟨1, 8, false, .other, [.nilFunc], [none], none⟩),
  (126, ⟨1, 8, false, .other, [.nilFunc], [none], none⟩),
  (127, ⟨1, 8, false, .ptr, [.pointer none], [none], none⟩),
  (128, ⟨1, 8, false, .other, [.nilFunc], [none], none⟩),
  (129, ⟨1, 8, false, .other, [.nilFunc], [none], none⟩),
  (130, ⟨1, 8, false, .other, [.nilFunc], [none], none⟩),
  (131, ⟨1, 8, false, .other, [.nilFunc], [none], none⟩),
  (132, ⟨1, 8, false, .other, [.nilFunc], [none], none⟩),
  (133, ⟨1, 8, false, .other, [.nilFunc], [none], none⟩),
  (134, ⟨1, 8, false, .other, [.nilFunc], [none], none⟩),
  (135, ⟨1, 8, false, .other, [.nilFunc], [none], none⟩),
  (136, ⟨1, 24, false, .slice 9, [nilV], [some 9], none⟩),
  (137, ⟨1, 8, false, .other, [.nilFunc], [none], none⟩),
  (138, ⟨1, 8, false, .other, [.nilFunc], [none], none⟩),
  (139, ⟨1, 8, false, .other, [.nilFunc], [none], none⟩),
  (140, ⟨1, 24, false, .slice 53, [nilV], [some 53], none⟩),
  (141, ⟨1, 8, false, .other, [.nilFunc], [none], none⟩),
  (142, ⟨1, 8, false, .other, [.nilFunc], [none], none⟩),
  (143, ⟨1, 8, false, .other, [.nilFunc], [none], none⟩),
  (144, ⟨1, 8, false, .other, [.nilFunc], [none], none⟩),
  (145, ⟨1, 8, false, .other, [.nilFunc], [none], none⟩),
  (146, ⟨1, 8, false, .other, [.nilFunc], [none], none⟩),
  (147, ⟨1, 16, false, .other, [.nilIface], [none], none⟩),
  (148, ⟨1, 16, false, .other, [.nilIface], [none], none⟩),
  (149, ⟨1, 8, false, .other, [.nilFunc], [none], none⟩),
  (150, ⟨1, 8, false, .other, [.nilFunc], [none], none⟩),
  (151, ⟨1, 8, false, .other, [.nilFunc], [none], none⟩),
  (152, ⟨1, 8, false, .other, [.nilFunc], [none], none⟩),
  (153, ⟨1, 8, false, .other, [.nilFunc], [none], none⟩),
  (154, ⟨1, 8, false, .int .u64, [.int .u64 0], [none], none⟩),
  (155, ⟨2, 32, true, .struct [(0, 79), (1, 3)], [nilV, .int .i64 0], [some 5, none], none⟩),
  (156, ⟨2, 32, true, .struct [(0, 79), (1, 3)], [nilV, .int .i64 0], [some 5, none], none⟩),
  (157, ⟨1, 8, false, .other, [.nilFunc], [none], none⟩),
  (158, ⟨1, 8, false, .other, [.nilFunc], [none], none⟩),
  (159, ⟨1, 8, false, .other, [.nilFunc], [none], none⟩),
  (160, ⟨1, 8, false, .other, [.nilFunc], [none], none⟩),
  (161, ⟨1, 8, false, .other, [.nilFunc], [none], none⟩),
  (162, ⟨1, 8, false, .other, [.nilFunc], [none], none⟩),
  (163, ⟨1, 8, false, .other, [.nilFunc], [none], none⟩),
  (164, ⟨1, 8, false, .other, [.nilFunc], [none], none⟩),
  (165, ⟨4, 40, true, .struct [(0, 17), (1, 17), (2, 17), (3, 9)], [.pointer none, .pointer none, .pointer none, .string ⟨#[]⟩], [none, none, none, none], none⟩),
  (166, ⟨4, 40, true, .struct [(0, 17), (1, 17), (2, 17), (3, 9)], [.pointer none, .pointer none, .pointer none, .string ⟨#[]⟩], [none, none, none, none], none⟩),
  (170, ⟨1, 4, false, .int .u32, [.int .u32 0], [none], none⟩),
  (171, ⟨1, 1, false, .int .u8, [.int .u8 0], [none], none⟩),
  (172, ⟨1, 1, false, .int .u8, [.int .u8 0], [none], none⟩),
  (173, ⟨1, 8, false, .other, [.nilFunc], [none], none⟩),
  (174, ⟨1, 8, false, .ptr, [.pointer none], [none], none⟩),
  (175, ⟨1, 4, false, .int .i32, [.int .i32 0], [none], none⟩),
  (176, ⟨1, 4, false, .int .i32, [.int .i32 0], [none], none⟩),
  (177, ⟨11, 48, true, .struct [(0, 12), (1, 12), (2, 170), (3, 171), (4, 5), (5, 5), (6, 172), (7, 173), (8, 174), (9, 175), (10, 176)], [.int .u64 0, .int .u64 0, .int .u32 0, .int .u8 0, .int .u8 0, .int .u8 0, .int .u8 0, .nilFunc, .pointer none, .int .i32 0, .int .i32 0], [none, none, none, none, none, none, none, none, none, none, none], none⟩),
  (178, ⟨11, 48, true, .struct [(0, 12), (1, 12), (2, 170), (3, 171), (4, 5), (5, 5), (6, 172), (7, 173), (8, 174), (9, 175), (10, 176)], [.int .u64 0, .int .u64 0, .int .u32 0, .int .u8 0, .int .u8 0, .int .u8 0, .int .u8 0, .nilFunc, .pointer none, .int .i32 0, .int .i32 0], [none, none, none, none, none, none, none, none, none, none, none], none⟩),
  (179, ⟨1, 8, false, .other, [.nilFunc], [none], none⟩),
  (180, ⟨1, 8, false, .other, [.nilFunc], [none], none⟩),
  (181, ⟨1, 8, false, .other, [.pointer none], [none], none⟩),
  (182, ⟨1, 8, false, .int .u64, [.int .u64 0], [none], none⟩)]
set_option maxRecDepth 100000
theorem tab_ok : tabB Try.prog tab = true := by kernel_rfl
theorem mixed : Try.prog.follows .mixedOrders = true := by kernel_rfl
noncomputable def En (m : Nat) (md : FuncId → Nat) (cb : List Nat := []) : Env := ⟨Try.prog, findT tab, md, m, cb⟩
theorem en_ok (m : Nat) (md : FuncId → Nat) (cb : List Nat := []) : EOk (En m md cb) := eok_of tab_ok mixed
def md0 : FuncId → Nat := fun _ => 0
def md1 (l : List FuncId) : FuncId → Nat := fun f => bif l.elem f then 1 else 0
end Go.Proofs.Yteddoandjgjleaa

namespace Go.Proofs.Yteddoandjgjleaa
open Go Go.Proofs Ev
set_option maxRecDepth 100000
def treeNewRV : RV := .agg [vi 0, .us 82 [], .us 91 [[.us 57 []], [.us 57 []], [.us 57 []]], .us 3 []]
theorem spec_treeNew : AFn Try.prog 14 [] [] treeNewRV [] := by
  refine AFn.introX (E := En 0 md0) (en_ok 0 md0) Try.func14 rfl rfl rfl fun _ _ => ?_
  exact Need.mk ⟨[], _, .same, rfl, rfl⟩ trivial
theorem impl_treeNew : AFn Try.prog 15 [] [] treeNewRV [] := by
  refine AFn.introX (E := En 0 md0) (en_ok 0 md0) Try.func15 rfl rfl rfl fun _ _ => ?_
  refine Need.mk (by decide) ?_
  exact Need.mk ⟨[], _, .same, rfl, rfl⟩ trivial
end Go.Proofs.Yteddoandjgjleaa

namespace Go.Proofs.Yteddoandjgjleaa
open Go Go.Proofs Ev
set_option maxRecDepth 100000
def storeNewRV : RV := .agg [vb true, vi 0, .us 82 [], .us 91 [[.us 57 []], [.us 57 []], [.us 57 []]], .us 3 [], vs ⟨#[]⟩, vi 0, .us 91 [[.us 57 []], [.us 57 []], [.us 57 []]], vi 0]
theorem spec_storeNew : AFn Try.prog 19 [] [] storeNewRV [] := by
  refine AFn.introX (E := En 0 md0) (en_ok 0 md0) Try.func19 rfl rfl rfl fun _ _ => ?_
  refine ACall.mk _ _ spec_treeNew ?_
  refine ACall.mk _ _ spec_treeNew ?_
  exact Need.mk ⟨[], _, .same, rfl, rfl⟩ trivial
theorem impl_storeNew : AFn Try.prog 20 [] [] storeNewRV [] := by
  refine AFn.introX (E := En 0 md0) (en_ok 0 md0) Try.func20 rfl rfl rfl fun _ _ => ?_
  refine ACall.mk _ _ impl_treeNew ?_
  refine ACall.mk _ _ impl_treeNew ?_
  exact Need.mk ⟨[], _, .same, rfl, rfl⟩ trivial
end Go.Proofs.Yteddoandjgjleaa

namespace Go.Proofs.Yteddoandjgjleaa
open Go Go.Proofs Ev
set_option maxRecDepth 100000
theorem laws_eqEntry (a b : Ent) : AFn Try.prog 95 [.agg (a.enc.map .c), .agg (b.enc.map .c)] [] (rb (decide (a = b))) [] := by
  refine AFn.introX (E := En 0 md0) (en_ok 0 md0) Try.func95 rfl rfl rfl fun _ _ => ?_
  have fin : ∀ {c : Bool}, c = decide (a = b) → rb c = rb (decide (a = b)) := fun h => by rw [h]
  refine Split.mk fun t ht => ?_
  rw [bytes_beq] at ht
  cases t
  · refine Split.mk fun t ht1 => ?_
    cases t
    · refine Split.mk fun t ht2 => ?_
      cases t
      · refine Split.mk fun t ht3 => ?_
        rw [bytes_beq] at ht3
        cases t
        · refine Split.mk fun t ht4 => ?_
          cases t
          · exact Need.mk ⟨[], _, .same, fin (by cases a; cases b; simp_all), rfl⟩ trivial
          · exact Need.mk ⟨[], _, .same, fin (by cases a; cases b; simp_all), rfl⟩ trivial
        · exact Need.mk ⟨[], _, .same, fin (by cases a; cases b; simp_all), rfl⟩ trivial
      · exact Need.mk ⟨[], _, .same, fin (by cases a; cases b; simp_all), rfl⟩ trivial
    · exact Need.mk ⟨[], _, .same, fin (by cases a; cases b; simp_all), rfl⟩ trivial
  · exact Need.mk ⟨[], _, .same, fin (by cases a; cases b; simp_all), rfl⟩ trivial
end Go.Proofs.Yteddoandjgjleaa

namespace Go.Proofs.Yteddoandjgjleaa
open Go Go.Proofs Ev
set_option maxRecDepth 100000
theorem laws_eqEntryS (a b : List Ent) : AFn Try.prog 41 [sl (a.map Ent.enc), sl (b.map Ent.enc)] [] (rb (decide (a = b))) [] := by
  refine AFn.introX (E := En 0 md0) (en_ok 0 md0) Try.func41 rfl rfl rfl fun hs _ => ?_
  have ha := Small.len (hs _ (List.mem_cons_self ..))
  rw [List.length_map] at ha
  have fin : ∀ {c : Bool}, c = decide (a = b) → rb c = rb (decide (a = b)) := fun h => by rw [h]
  refine Split.mk fun t ht => ?_
  cases t
  · have hl : a.length = b.length := Int.ofNat_inj.1 (by simpa using ht)
    refine ALoop.mk (fun n s => ∃ i : Nat, i ≤ a.length ∧ n = a.length - i ∧ a.take i = b.take i ∧
      s = ⟨some (sl (a.map Ent.enc)) :: some (sl (b.map Ent.enc)) :: none :: none :: some (av (.bool false)) :: some (av (.int .i64 i)) :: List.replicate 21 none, List.replicate 27 absent⟩)
      ⟨a.length, _, Weak.nrm [true, true, false, false, true, true] [] rfl rfl rfl, 0, Nat.zero_le _, rfl, rfl, rfl⟩ ?_
    rintro n s ⟨i, hi, rfl, hp, rfl⟩
    refine Split.mk fun t ht => ?_
    cases t
    · have hia : i = a.length := by simp at ht; omega
      refine Need.mk ⟨[], _, .same, fin ?_, rfl⟩ trivial
      subst hia
      rw [List.take_length, hl, List.take_length] at hp
      simp [hp]
    · have hia : i < a.length := by simpa using ht
      refine Need.mk (by omega) ?_
      refine Row.mk _ (map_get _ a i hia) ?_
      refine Need.mk (by omega) ?_
      refine Row.mk _ (map_get _ b i (by omega)) ?_
      refine ACall.mk _ _ (laws_eqEntry a[i] (b[i]'(by omega))) ?_
      refine Split.mk fun t ht2 => ?_
      cases t
      · refine Need.mk rfl ?_
        refine Need.mk ⟨[], _, .same, fin ?_, rfl⟩ trivial
        have : a[i] ≠ b[i]'(by omega) := by simpa using ht2
        refine (decide_eq_false fun e => this ?_).symm
        subst e; rfl
      · refine Need.mk rfl ?_
        refine Num.mk _ (wrapS (by omega)) ?_
        refine ⟨a.length - (i + 1), _, by omega, Weak.nrm [true, true, false, false, true, true] [] rfl rfl rfl, i + 1, by omega, rfl, ?_, rfl⟩
        have : a[i] = b[i]'(by omega) := by simpa using ht2
        rw [List.take_succ_eq_append_getElem hia, List.take_succ_eq_append_getElem (by omega), hp, this]
  · refine Need.mk ⟨[], _, .same, fin ?_, rfl⟩ trivial
    have : a.length ≠ b.length := by
      intro e; simp [e] at ht
    exact (decide_eq_false fun e => this (by rw [e])).symm
end Go.Proofs.Yteddoandjgjleaa

namespace Go.Proofs.Yteddoandjgjleaa
open Go Go.Proofs Ev
set_option maxRecDepth 100000
theorem laws_eqRun (a b : Rn) : AFn Try.prog 36 [.agg (a.enc.map .c), .agg (b.enc.map .c)] [] (rb (decide (a = b))) [] := by
  refine AFn.introX (E := En 0 md0) (en_ok 0 md0) Try.func36 rfl rfl rfl fun _ _ => ?_
  have fin : ∀ {c : Bool}, c = decide (a = b) → rb c = rb (decide (a = b)) := fun h => by rw [h]
  refine ACall.mk _ _ (laws_eqEntryS a.ents b.ents) ?_
  refine Split.mk fun t ht => ?_
  cases t
  · exact Need.mk ⟨[], _, .same, fin (by cases a; cases b; simp_all), rfl⟩ trivial
  · refine Split.mk fun t ht1 => ?_
    cases t
    · exact Need.mk ⟨[], _, .same, fin (by cases a; cases b; simp_all), rfl⟩ trivial
    · exact Need.mk ⟨[], _, .same, fin (by cases a; cases b; simp_all), rfl⟩ trivial
end Go.Proofs.Yteddoandjgjleaa

namespace Go.Proofs.Yteddoandjgjleaa
open Go Go.Proofs Ev
set_option maxRecDepth 100000
theorem laws_eqRunS (a b : List Rn) : AFn Try.prog 115 [sl (a.map Rn.enc), sl (b.map Rn.enc)] [] (rb (decide (a = b))) [] := by
  refine AFn.introX (E := En 0 md0) (en_ok 0 md0) Try.func115 rfl rfl rfl fun hs _ => ?_
  have ha := Small.len (hs _ (List.mem_cons_self ..))
  rw [List.length_map] at ha
  have fin : ∀ {c : Bool}, c = decide (a = b) → rb c = rb (decide (a = b)) := fun h => by rw [h]
  refine Split.mk fun t ht => ?_
  cases t
  · have hl : a.length = b.length := Int.ofNat_inj.1 (by simpa using ht)
    refine ALoop.mk (fun n s => ∃ i : Nat, i ≤ a.length ∧ n = a.length - i ∧ a.take i = b.take i ∧
      s = ⟨some (sl (a.map Rn.enc)) :: some (sl (b.map Rn.enc)) :: none :: none :: some (av (.bool false)) :: some (av (.int .i64 i)) :: List.replicate 21 none, List.replicate 27 absent⟩)
      ⟨a.length, _, Weak.nrm [true, true, false, false, true, true] [] rfl rfl rfl, 0, Nat.zero_le _, rfl, rfl, rfl⟩ ?_
    rintro n s ⟨i, hi, rfl, hp, rfl⟩
    refine Split.mk fun t ht => ?_
    cases t
    · have hia : i = a.length := by simp at ht; omega
      refine Need.mk ⟨[], _, .same, fin ?_, rfl⟩ trivial
      subst hia
      rw [List.take_length, hl, List.take_length] at hp
      simp [hp]
    · have hia : i < a.length := by simpa using ht
      refine Need.mk (by omega) ?_
      refine Row.mk _ (map_get _ a i hia) ?_
      refine Need.mk (by omega) ?_
      refine Row.mk _ (map_get _ b i (by omega)) ?_
      refine ACall.mk _ _ (laws_eqRun a[i] (b[i]'(by omega))) ?_
      refine Split.mk fun t ht2 => ?_
      cases t
      · refine Need.mk rfl ?_
        refine Need.mk ⟨[], _, .same, fin ?_, rfl⟩ trivial
        have : a[i] ≠ b[i]'(by omega) := by simpa using ht2
        refine (decide_eq_false fun e => this ?_).symm
        subst e; rfl
      · refine Need.mk rfl ?_
        refine Num.mk _ (wrapS (by omega)) ?_
        refine ⟨a.length - (i + 1), _, by omega, Weak.nrm [true, true, false, false, true, true] [] rfl rfl rfl, i + 1, by omega, rfl, ?_, rfl⟩
        have : a[i] = b[i]'(by omega) := by simpa using ht2
        rw [List.take_succ_eq_append_getElem hia, List.take_succ_eq_append_getElem (by omega), hp, this]
  · refine Need.mk ⟨[], _, .same, fin ?_, rfl⟩ trivial
    have : a.length ≠ b.length := by
      intro e; simp [e] at ht
    exact (decide_eq_false fun e => this (by rw [e])).symm
end Go.Proofs.Yteddoandjgjleaa

namespace Go.Proofs.Yteddoandjgjleaa
open Go Go.Proofs Ev
set_option maxRecDepth 100000
theorem laws_eqRunSS (a b : List (List Rn)) : AFn Try.prog 63 [sl (a.map encL), sl (b.map encL)] [] (rb (decide (a = b))) [] := by
  refine AFn.introX (E := En 0 md0) (en_ok 0 md0) Try.func63 rfl rfl rfl fun hs _ => ?_
  have ha := Small.len (hs _ (List.mem_cons_self ..))
  rw [List.length_map] at ha
  have fin : ∀ {c : Bool}, c = decide (a = b) → rb c = rb (decide (a = b)) := fun h => by rw [h]
  refine Split.mk fun t ht => ?_
  cases t
  · have hl : a.length = b.length := Int.ofNat_inj.1 (by simpa using ht)
    refine ALoop.mk (fun n s => ∃ i : Nat, i ≤ a.length ∧ n = a.length - i ∧ a.take i = b.take i ∧
      s = ⟨some (sl (a.map encL)) :: some (sl (b.map encL)) :: none :: none :: some (av (.bool false)) :: some (av (.int .i64 i)) :: List.replicate 21 none, List.replicate 27 absent⟩)
      ⟨a.length, _, Weak.nrm [true, true, false, false, true, true] [] rfl rfl rfl, 0, Nat.zero_le _, rfl, rfl, rfl⟩ ?_
    rintro n s ⟨i, hi, rfl, hp, rfl⟩
    refine Split.mk fun t ht => ?_
    cases t
    · have hia : i = a.length := by simp at ht; omega
      refine Need.mk ⟨[], _, .same, fin ?_, rfl⟩ trivial
      subst hia
      rw [List.take_length, hl, List.take_length] at hp
      simp [hp]
    · have hia : i < a.length := by simpa using ht
      refine Need.mk (by omega) ?_
      refine Row.mk _ (map_get _ a i hia) ?_
      refine Need.mk (by omega) ?_
      refine Row.mk _ (map_get _ b i (by omega)) ?_
      refine ACall.mk _ _ (laws_eqRunS a[i] (b[i]'(by omega))) ?_
      refine Split.mk fun t ht2 => ?_
      cases t
      · refine Need.mk rfl ?_
        refine Need.mk ⟨[], _, .same, fin ?_, rfl⟩ trivial
        have : a[i] ≠ b[i]'(by omega) := by simpa using ht2
        refine (decide_eq_false fun e => this ?_).symm
        subst e; rfl
      · refine Need.mk rfl ?_
        refine Num.mk _ (wrapS (by omega)) ?_
        refine ⟨a.length - (i + 1), _, by omega, Weak.nrm [true, true, false, false, true, true] [] rfl rfl rfl, i + 1, by omega, rfl, ?_, rfl⟩
        have : a[i] = b[i]'(by omega) := by simpa using ht2
        rw [List.take_succ_eq_append_getElem hia, List.take_succ_eq_append_getElem (by omega), hp, this]
  · refine Need.mk ⟨[], _, .same, fin ?_, rfl⟩ trivial
    have : a.length ≠ b.length := by
      intro e; simp [e] at ht
    exact (decide_eq_false fun e => this (by rw [e])).symm
end Go.Proofs.Yteddoandjgjleaa

namespace Go.Proofs.Yteddoandjgjleaa
open Go Go.Proofs Ev
set_option maxRecDepth 100000
theorem laws_eqIntS (a b : List Int) : AFn Try.prog 64 [sl (a.map encI), sl (b.map encI)] [] (rb (decide (a = b))) [] := by
  refine AFn.introX (E := En 0 md0) (en_ok 0 md0) Try.func64 rfl rfl rfl fun hs _ => ?_
  have ha := Small.len (hs _ (List.mem_cons_self ..))
  rw [List.length_map] at ha
  have fin : ∀ {c : Bool}, c = decide (a = b) → rb c = rb (decide (a = b)) := fun h => by rw [h]
  refine Split.mk fun t ht => ?_
  cases t
  · have hl : a.length = b.length := Int.ofNat_inj.1 (by simpa using ht)
    refine ALoop.mk (fun n s => ∃ i : Nat, i ≤ a.length ∧ n = a.length - i ∧ a.take i = b.take i ∧
      s = ⟨some (sl (a.map encI)) :: some (sl (b.map encI)) :: none :: none :: some (av (.bool false)) :: some (av (.int .i64 i)) :: List.replicate 20 none, List.replicate 26 absent⟩)
      ⟨a.length, _, Weak.nrm [true, true, false, false, true, true] [] rfl rfl rfl, 0, Nat.zero_le _, rfl, rfl, rfl⟩ ?_
    rintro n s ⟨i, hi, rfl, hp, rfl⟩
    refine Split.mk fun t ht => ?_
    cases t
    · have hia : i = a.length := by simp at ht; omega
      refine Need.mk ⟨[], _, .same, fin ?_, rfl⟩ trivial
      subst hia
      rw [List.take_length, hl, List.take_length] at hp
      simp [hp]
    · have hia : i < a.length := by simpa using ht
      refine Need.mk (by omega) ?_
      refine Row.mk _ (map_get _ a i hia) ?_
      refine Need.mk (by omega) ?_
      refine Row.mk _ (map_get _ b i (by omega)) ?_
      refine Split.mk fun t ht2 => ?_
      cases t
      · refine Need.mk rfl ?_
        refine Num.mk _ (wrapS (by omega)) ?_
        refine ⟨a.length - (i + 1), _, by omega, Weak.nrm [true, true, false, false, true, true] [] rfl rfl rfl, i + 1, by omega, rfl, ?_, rfl⟩
        have : a[i] = b[i]'(by omega) := by simpa using ht2
        rw [List.take_succ_eq_append_getElem hia, List.take_succ_eq_append_getElem (by omega), hp, this]
      · refine Need.mk rfl ?_
        refine Need.mk ⟨[], _, .same, fin ?_, rfl⟩ trivial
        have : a[i] ≠ b[i]'(by omega) := by simpa using ht2
        refine (decide_eq_false fun e => this ?_).symm
        subst e; rfl
  · refine Need.mk ⟨[], _, .same, fin ?_, rfl⟩ trivial
    have : a.length ≠ b.length := by
      intro e; simp [e] at ht
    exact (decide_eq_false fun e => this (by rw [e])).symm
end Go.Proofs.Yteddoandjgjleaa

namespace Go.Proofs.Yteddoandjgjleaa
open Go Go.Proofs Ev
set_option maxRecDepth 100000
theorem laws_eqTree (a b : Tre) : AFn Try.prog 16 [.agg (a.enc.map .c), .agg (b.enc.map .c)] [] (rb (decide (a = b))) [] := by
  refine AFn.introX (E := En 0 md0) (en_ok 0 md0) Try.func16 rfl rfl rfl fun _ _ => ?_
  have fin : ∀ {c : Bool}, c = decide (a = b) → rb c = rb (decide (a = b)) := fun h => by rw [h]
  refine Split.mk fun t ht => ?_
  cases t
  · refine ACall.mk _ _ (laws_eqEntryS a.mem b.mem) ?_
    refine Split.mk fun t ht1 => ?_
    cases t
    · exact Need.mk ⟨[], _, .same, fin (by cases a; cases b; simp_all), rfl⟩ trivial
    · refine ACall.mk _ _ (laws_eqRunSS a.levels b.levels) ?_
      refine Split.mk fun t ht2 => ?_
      cases t
      · exact Need.mk ⟨[], _, .same, fin (by cases a; cases b; simp_all), rfl⟩ trivial
      · refine ACall.mk _ _ (laws_eqIntS a.snaps b.snaps) ?_
        refine Split.mk fun t ht3 => ?_
        cases t
        · exact Need.mk ⟨[], _, .same, fin (by cases a; cases b; simp_all), rfl⟩ trivial
        · exact Need.mk ⟨[], _, .same, fin (by cases a; cases b; simp_all), rfl⟩ trivial
  · exact Need.mk ⟨[], _, .same, fin (by cases a; cases b; simp_all), rfl⟩ trivial
end Go.Proofs.Yteddoandjgjleaa

namespace Go.Proofs.Yteddoandjgjleaa
open Go Go.Proofs Ev
set_option maxRecDepth 100000
theorem laws_eqDisk (a b : Dsk) : AFn Try.prog 69 [.agg (a.enc.map .c), .agg (b.enc.map .c)] [] (rb (decide (a = b))) [] := by
  refine AFn.introX (E := En 0 md0) (en_ok 0 md0) Try.func69 rfl rfl rfl fun _ _ => ?_
  have fin : ∀ {c : Bool}, c = decide (a = b) → rb c = rb (decide (a = b)) := fun h => by rw [h]
  refine Split.mk fun t ht => ?_
  rw [bytes_beq] at ht
  cases t
  · refine Split.mk fun t ht1 => ?_
    cases t
    · refine ACall.mk _ _ (laws_eqRunSS a.levels b.levels) ?_
      refine Split.mk fun t ht2 => ?_
      cases t
      · exact Need.mk ⟨[], _, .same, fin (by cases a; cases b; simp_all), rfl⟩ trivial
      · refine Split.mk fun t ht3 => ?_
        cases t
        · exact Need.mk ⟨[], _, .same, fin (by cases a; cases b; simp_all), rfl⟩ trivial
        · exact Need.mk ⟨[], _, .same, fin (by cases a; cases b; simp_all), rfl⟩ trivial
    · exact Need.mk ⟨[], _, .same, fin (by cases a; cases b; simp_all), rfl⟩ trivial
  · exact Need.mk ⟨[], _, .same, fin (by cases a; cases b; simp_all), rfl⟩ trivial
theorem laws_eqStore (a b : Sto) : AFn Try.prog 21 [.agg (a.enc.map .c), .agg (b.enc.map .c)] [] (rb (decide (a = b))) [] := by
  refine AFn.introX (E := En 0 md0) (en_ok 0 md0) Try.func21 rfl rfl rfl fun _ _ => ?_
  have fin : ∀ {c : Bool}, c = decide (a = b) → rb c = rb (decide (a = b)) := fun h => by rw [h]
  refine Split.mk fun t ht => ?_
  cases t
  · refine ACall.mk _ _ (laws_eqTree a.tree b.tree) ?_
    refine Split.mk fun t ht1 => ?_
    cases t
    · exact Need.mk ⟨[], _, .same, fin (by cases a; cases b; simp_all), rfl⟩ trivial
    · refine ACall.mk _ _ (laws_eqDisk a.disk b.disk) ?_
      refine Split.mk fun t ht2 => ?_
      cases t
      · exact Need.mk ⟨[], _, .same, fin (by cases a; cases b; simp_all), rfl⟩ trivial
      · exact Need.mk ⟨[], _, .same, fin (by cases a; cases b; simp_all), rfl⟩ trivial
  · exact Need.mk ⟨[], _, .same, fin (by cases a; cases b; simp_all), rfl⟩ trivial
end Go.Proofs.Yteddoandjgjleaa

namespace Go.Proofs.Yteddoandjgjleaa
open Go Go.Proofs Ev
set_option maxRecDepth 100000
theorem laws_markText (k : Nat) (hk : k ≤ 4611686018427387904) : AFn Try.prog 96 [av (.int .i64 k)] [] (.one (vs (markT k))) [] := by
  refine AFn.introX (E := En 0 md0) (en_ok 0 md0) Try.func96 rfl rfl rfl fun _ _ => ?_
  refine Split.mk fun t ht => ?_
  cases t
  · have h0 : 0 < k := by simp at ht; omega
    refine ALoop.mk (fun n s => ∃ (j : Nat) (out : ByteArray), n = j ∧ j + out.size ≤ 4611686018427387904 ∧ digs j out = digs k ⟨#[]⟩ ∧
      s = ⟨some (av (.int .i64 j)) :: none :: some (av (.string ⟨#[]⟩)) :: some (av (.string out)) :: List.replicate 16 none, List.replicate 20 absent⟩)
      ⟨k, _, Weak.nrm [true, false, true, true] [] rfl rfl rfl, k, ⟨#[]⟩, rfl, hk, rfl, rfl⟩ ?_
    rintro j s ⟨_, out, rfl, hb, hd, rfl⟩
    refine Split.mk fun t ht => ?_
    cases t
    · have hj : j = 0 := by simp at ht; omega
      subst hj
      refine Need.mk (strFits1 (by omega)) ?_
      refine Need.mk ⟨[], _, .same, ?_, rfl⟩ trivial
      have : markT k = ⟨#[109]⟩ ++ digs k ⟨#[]⟩ := by simp [markT]; omega
      rw [this, ← hd, digs_zero]; rfl
    · have hj : 0 < j := by simpa using ht
      refine Need.mk (by decide) ?_
      refine Num.mk ((48 + j % 10 : Nat) : Int) (by rw [show ((j : Int).tmod 10) = ((j % 10 : Nat) : Int) from rfl, wrapI] <;> omega) ?_
      refine Num.mk ((48 + j % 10 : Nat) : Int) (by rw [wrapU8] <;> omega) ?_
      refine Need.mk (strFits1 (by omega)) ?_
      refine Need.mk (by decide) ?_
      refine Num.mk ((j / 10 : Nat) : Int) (by rw [show ((j : Int).tdiv 10) = ((j / 10 : Nat) : Int) from rfl, wrapI] <;> omega) ?_
      refine ⟨j / 10, _, by omega, Weak.nrm [true, false, true, true] [] rfl rfl rfl, j / 10, dig j ++ out, rfl, ?_, ?_, rfl⟩
      · rw [ByteArray.size_append, show (dig j).size = 1 from rfl]; omega
      · rw [← digs_succ hj]; exact hd
  · have h0 : k = 0 := by simp at ht; omega
    subst h0
    exact Need.mk ⟨[], _, .same, rfl, rfl⟩ trivial
end Go.Proofs.Yteddoandjgjleaa

namespace Go.Proofs.Yteddoandjgjleaa
open Go Go.Proofs Ev
set_option maxRecDepth 100000
theorem laws_markEntryS (xs : List Ent) (k : Nat) (hk : k + 5 * xs.length ≤ 4611686018427387904) : AFn Try.prog 44 [.one (.ref 0 0 (.cell 0)), av (.int .i64 k)] [[.us 82 (xs.map Ent.enc)]] (.one (vi ((k + 5 * xs.length : Nat) : Int))) [[.us 82 ((markL k xs.length).map Ent.enc)]] := by
  refine AFn.introX (E := En 1 md0) (en_ok 1 md0) Try.func44 rfl rfl rfl fun _ _ => ?_
  let S : List (List C) → Nat → Nat → St := fun rows i m => ⟨some (.one (.ref 0 0 (.cell 0))) :: some (av (.int .i64 m)) :: none :: none :: none :: some (av (.int .i64 i)) :: List.replicate 44 none, ⟨0, 0, some [.us 82 rows]⟩ :: List.replicate 50 absent⟩
  refine ALoop.mk (fun n s => ∃ (i : Nat) (ys : List Ent), i ≤ xs.length ∧ n = xs.length - i ∧ ys.length = xs.length ∧ (∀ j : Nat, j < i → ys[j]? = some (markE (k + 5 * j))) ∧ s = S (ys.map Ent.enc) i (k + 5 * i))
    ⟨xs.length, _, Weak.nrm [true, true, false, false, false, true] [(0, 0)] rfl rfl rfl, 0, xs, Nat.zero_le _, rfl, rfl, by intro j hj; omega, rfl⟩ ?_
  rintro n s ⟨i, ys, hi, rfl, hl, hm, rfl⟩
  refine Split.mk fun t ht => ?_
  rw [List.length_map] at ht
  cases t
  · have hia : i = xs.length := by simp at ht; omega
    subst hia
    refine Need.mk ⟨[], _, .same, rfl, ?_⟩ trivial
    rw [← markL_of hl hm]; rfl
  · have hia : i < ys.length := by simpa using ht
    have hlen : i < (ys.map Ent.enc).length := by rw [List.length_map]; exact hia
    refine ACall.mk _ _ (laws_markText (k + 5 * i) (by omega)) ?_
    refine Need.mk ⟨by omega, by simpa using hia⟩ ?_
    refine Row.mk _ (map_get _ ys i hia) ?_
    refine Num.mk _ (wrapS (by omega)) ?_
    refine Need.mk ⟨by omega, by simpa using hia⟩ ?_
    refine Row.mk _ (set_get _ _ _ hlen) ?_
    refine Num.mk _ (wrapS (by omega)) ?_
    refine Need.mk ⟨by omega, by simpa using hia⟩ ?_
    refine Row.mk _ (set_get _ _ _ (by simpa using hia)) ?_
    refine Num.mk _ (wrapS (by omega)) ?_
    refine ACall.mk _ _ (laws_markText (k + 5 * i + 1 + 1 + 1) (by omega)) ?_
    refine Need.mk ⟨by omega, by simpa using hia⟩ ?_
    refine Row.mk _ (set_get _ _ _ (by simpa using hia)) ?_
    refine Num.mk _ (wrapS (by omega)) ?_
    refine Need.mk ⟨by omega, by simpa using hia⟩ ?_
    refine Row.mk _ (set_get _ _ _ (by simpa using hia)) ?_
    refine Num.mk _ (wrapS (by omega)) ?_
    refine Num.mk _ (wrapS (by omega)) ?_
    refine ⟨xs.length - (i + 1), _, by omega, Weak.nrm [true, true, false, false, false, true] [(0, 0)] rfl rfl rfl, i + 1, ys.set i (markE (k + 5 * i)), by omega, rfl, by simpa using hl, fun j hj => ?_, ?_⟩
    · by_cases hji : j = i
      · subst hji; exact List.getElem?_set_self hia
      · rw [List.getElem?_set_ne (Ne.symm hji)]; exact hm j (by omega)
    · refine Eq.trans (b := S ((((((ys.map Ent.enc).set i _).set i _).set i _).set i _).set i (markE (k + 5 * i)).enc) (i + 1) (k + 5 * i + 1 + 1 + 1 + 1 + 1)) rfl ?_
      simp only [List.set_set, List.map_set]
      rfl
end Go.Proofs.Yteddoandjgjleaa

namespace Go.Proofs.Yteddoandjgjleaa
open Go Go.Proofs Ev
set_option maxRecDepth 100000
def encO (r : Rn) : List C := [.us 82 (r.ents.map Ent.enc), vi r.mask]
theorem laws_markRunS (xs : List Rn) (k : Nat) (hk : posR k xs ≤ 4611686018427387904) : AFn Try.prog 116 [.one (.ref 0 0 (.cell 0)), av (.int .i64 k)] [[.us 57 (xs.map encO)]] (.one (vi (posR k xs : Nat))) [[.us 57 ((mkRs k xs).map encO)]] := by
  refine AFn.introX (E := En 1 (md1 [44])) (en_ok 1 _) Try.func116 rfl rfl rfl fun _ _ => ?_
  let S : List (List C) → Nat → Nat → St := fun rows i m => ⟨some (.one (.ref 0 0 (.cell 0))) :: some (av (.int .i64 m)) :: none :: none :: none :: some (av (.int .i64 i)) :: List.replicate 21 none, ⟨0, 0, some [.us 57 rows]⟩ :: List.replicate 27 absent⟩
  refine ALoop.mk (fun n s => ∃ i : Nat, i ≤ xs.length ∧ n = xs.length - i ∧ s = S ((mkRs k (xs.take i) ++ xs.drop i).map encO) i (posR k (xs.take i)))
    ⟨xs.length, _, Weak.nrm [true, true, false, false, false, true] [(0, 0)] rfl rfl rfl, 0, Nat.zero_le _, rfl, rfl⟩ ?_
  rintro n s ⟨i, hi, rfl, rfl⟩
  have hlen : (mkRs k (xs.take i) ++ xs.drop i).length = xs.length := by rw [List.length_append, mkRs_len, List.length_take, List.length_drop]; omega
  refine Split.mk fun t ht => ?_
  rw [List.length_map, hlen] at ht
  cases t
  · have hia : i = xs.length := by simp at ht; omega
    subst hia
    refine Need.mk ⟨[], _, .same, ?_, ?_⟩ trivial
    · rw [List.take_length]; rfl
    · rw [List.take_length, List.drop_length, List.append_nil]; rfl
  · have hia : i < xs.length := by simpa using ht
    have hget : (mkRs k (xs.take i) ++ xs.drop i)[i]? = some xs[i] := by
      rw [List.getElem?_append_right (by rw [mkRs_len, List.length_take]; omega), mkRs_len, List.length_take, Nat.min_eq_left (by omega), Nat.sub_self, List.getElem?_drop, Nat.add_zero, List.getElem?_eq_getElem hia]
    have hpos : posR k (xs.take (i + 1)) = posR k (xs.take i) + 5 * xs[i].ents.length + 1 := by rw [List.take_succ_eq_append_getElem hia, posR_app]; rfl
    have hle : posR k (xs.take (i + 1)) ≤ 4611686018427387904 := by
      have : posR k xs = posR (posR k (xs.take (i + 1))) (xs.drop (i + 1)) := by rw [← posR_app, List.take_append_drop]
      have h2 := posR_le (xs.drop (i + 1)) (posR k (xs.take (i + 1)))
      omega
    have hrow : ((mkRs k (xs.take i) ++ xs.drop i).map encO)[i]? = some (encO xs[i]) := by rw [List.getElem?_map, hget]; rfl
    have hlt : i < ((mkRs k (xs.take i) ++ xs.drop i).map encO).length := by rw [List.length_map, hlen]; exact hia
    have hxl := posR_len xs k
    refine Need.mk ⟨by omega, by omega⟩ ?_
    refine Row.mk _ hrow ?_
    refine Row.mk _ hrow ?_
    refine ACall.mk _ _ (laws_markEntryS xs[i].ents (posR k (xs.take i)) (by omega)) ?_
    refine Row.mk _ hrow ?_
    refine Need.mk ⟨by omega, by rw [List.length_set]; omega⟩ ?_
    refine Row.mk _ (set_get _ _ _ hlt) ?_
    refine Num.mk _ (wrapS (by omega)) ?_
    refine Num.mk _ (wrapS (by omega)) ?_
    refine ⟨xs.length - (i + 1), _, by omega, Weak.nrm [true, true, false, false, false, true] [(0, 0)] rfl rfl rfl, i + 1, by omega, rfl, ?_⟩
    refine Eq.trans (b := S ((((mkRs k (xs.take i) ++ xs.drop i).map encO).set i _).set i (encO (mkR (posR k (xs.take i)) xs[i]))) (i + 1) (posR k (xs.take i) + 5 * xs[i].ents.length + 1)) rfl ?_
    rw [hpos, List.set_set, ← List.map_set, mkRs_step hia]
end Go.Proofs.Yteddoandjgjleaa

namespace Go.Proofs.Yteddoandjgjleaa
open Go Go.Proofs Ev
set_option maxRecDepth 100000
def encLO (l : List Rn) : List C := [.us 57 (l.map encO)]
theorem laws_markRunSS (xs : List (List Rn)) (k : Nat) (hk : posL k xs ≤ 4611686018427387904) : AFn Try.prog 65 [.one (.ref 0 0 (.cell 0)), av (.int .i64 k)] [[.us 91 (xs.map encLO)]] (.one (vi (posL k xs : Nat))) [[.us 91 ((mkLs k xs).map encLO)]] := by
  refine AFn.introX (E := En 1 (md1 [116])) (en_ok 1 _) Try.func65 rfl rfl rfl fun _ hs => ?_
  have hxl := Small.lenU (hs _ (List.mem_cons_self ..) _ (List.mem_cons_self ..))
  rw [List.length_map] at hxl
  let S : List (List C) → Nat → Nat → St := fun rows i m => ⟨some (.one (.ref 0 0 (.cell 0))) :: some (av (.int .i64 m)) :: none :: none :: none :: some (av (.int .i64 i)) :: List.replicate 13 none, ⟨0, 0, some [.us 91 rows]⟩ :: List.replicate 19 absent⟩
  refine ALoop.mk (fun n s => ∃ i : Nat, i ≤ xs.length ∧ n = xs.length - i ∧ s = S ((mkLs k (xs.take i) ++ xs.drop i).map encLO) i (posL k (xs.take i)))
    ⟨xs.length, _, Weak.nrm [true, true, false, false, false, true] [(0, 0)] rfl rfl rfl, 0, Nat.zero_le _, rfl, rfl⟩ ?_
  rintro n s ⟨i, hi, rfl, rfl⟩
  have hlen : (mkLs k (xs.take i) ++ xs.drop i).length = xs.length := by rw [List.length_append, mkLs_len, List.length_take, List.length_drop]; omega
  refine Split.mk fun t ht => ?_
  rw [List.length_map, hlen] at ht
  cases t
  · have hia : i = xs.length := by simp at ht; omega
    subst hia
    refine Need.mk ⟨[], _, .same, ?_, ?_⟩ trivial
    · rw [List.take_length]; rfl
    · rw [List.take_length, List.drop_length, List.append_nil]; rfl
  · have hia : i < xs.length := by simpa using ht
    have hget : (mkLs k (xs.take i) ++ xs.drop i)[i]? = some xs[i] := by
      rw [List.getElem?_append_right (by rw [mkLs_len, List.length_take]; omega), mkLs_len, List.length_take, Nat.min_eq_left (by omega), Nat.sub_self, List.getElem?_drop, Nat.add_zero, List.getElem?_eq_getElem hia]
    have hpos : posL k (xs.take (i + 1)) = posR (posL k (xs.take i)) xs[i] := by rw [List.take_succ_eq_append_getElem hia, posL_app]; rfl
    have hle : posL k (xs.take (i + 1)) ≤ 4611686018427387904 := by
      have : posL k xs = posL (posL k (xs.take (i + 1))) (xs.drop (i + 1)) := by rw [← posL_app, List.take_append_drop]
      have h2 := posL_le (xs.drop (i + 1)) (posL k (xs.take (i + 1)))
      omega
    have hrow : ((mkLs k (xs.take i) ++ xs.drop i).map encLO)[i]? = some (encLO xs[i]) := by rw [List.getElem?_map, hget]; rfl
    have hlt : i < ((mkLs k (xs.take i) ++ xs.drop i).map encLO).length := by rw [List.length_map, hlen]; exact hia
    refine Need.mk ⟨by omega, by omega⟩ ?_
    refine Row.mk _ hrow ?_
    refine Row.mk _ hrow ?_
    refine ACall.mk _ _ (laws_markRunS xs[i] (posL k (xs.take i)) (by omega)) ?_
    refine Row.mk _ hrow ?_
    refine Num.mk _ (wrapS (by omega)) ?_
    refine ⟨xs.length - (i + 1), _, by omega, Weak.nrm [true, true, false, false, false, true] [(0, 0)] rfl rfl rfl, i + 1, by omega, rfl, ?_⟩
    refine Eq.trans (b := S (((mkLs k (xs.take i) ++ xs.drop i).map encLO).set i (encLO (mkRs (posL k (xs.take i)) xs[i]))) (i + 1) (posR (posL k (xs.take i)) xs[i])) rfl ?_
    rw [hpos, ← List.map_set, mkLs_step hia]
end Go.Proofs.Yteddoandjgjleaa

namespace Go.Proofs.Yteddoandjgjleaa
open Go Go.Proofs Ev
set_option maxRecDepth 100000
theorem laws_markIntS (xs : List Int) (k : Nat) (hk : k + xs.length ≤ 4611686018427387904) : AFn Try.prog 66 [.one (.ref 0 0 (.cell 0)), av (.int .i64 k)] [[.us 3 (xs.map encI)]] (.one (vi ((k + xs.length : Nat) : Int))) [[.us 3 ((markI k xs.length).map encI)]] := by
  refine AFn.introX (E := En 1 md0) (en_ok 1 md0) Try.func66 rfl rfl rfl fun _ _ => ?_
  let S : List (List C) → Nat → Nat → St := fun rows i m => ⟨some (.one (.ref 0 0 (.cell 0))) :: some (av (.int .i64 m)) :: none :: none :: none :: some (av (.int .i64 i)) :: List.replicate 13 none, ⟨0, 0, some [.us 3 rows]⟩ :: List.replicate 19 absent⟩
  refine ALoop.mk (fun n s => ∃ (i : Nat) (ys : List Int), i ≤ xs.length ∧ n = xs.length - i ∧ ys.length = xs.length ∧ (∀ j : Nat, j < i → ys[j]? = some ((k + j : Nat) : Int)) ∧ s = S (ys.map encI) i (k + i))
    ⟨xs.length, _, Weak.nrm [true, true, false, false, false, true] [(0, 0)] rfl rfl rfl, 0, xs, Nat.zero_le _, rfl, rfl, by intro j hj; omega, rfl⟩ ?_
  rintro n s ⟨i, ys, hi, rfl, hl, hm, rfl⟩
  refine Split.mk fun t ht => ?_
  rw [List.length_map] at ht
  cases t
  · have hia : i = xs.length := by simp at ht; omega
    subst hia
    refine Need.mk ⟨[], _, .same, rfl, ?_⟩ trivial
    rw [← markI_of hl hm]; rfl
  · have hia : i < ys.length := by simpa using ht
    refine Need.mk ⟨by omega, by simpa using hia⟩ ?_
    refine Row.mk _ (map_get _ ys i hia) ?_
    refine Num.mk _ (wrapS (by omega)) ?_
    refine Num.mk _ (wrapS (by omega)) ?_
    refine ⟨xs.length - (i + 1), _, by omega, Weak.nrm [true, true, false, false, false, true] [(0, 0)] rfl rfl rfl, i + 1, ys.set i ((k + i : Nat) : Int), by omega, rfl, by simpa using hl, fun j hj => ?_, ?_⟩
    · by_cases hji : j = i
      · subst hji; exact List.getElem?_set_self hia
      · rw [List.getElem?_set_ne (Ne.symm hji)]; exact hm j (by omega)
    · refine Eq.trans (b := S ((ys.map encI).set i (encI ((k + i : Nat) : Int))) (i + 1) (k + i + 1)) rfl ?_
      simp only [List.map_set]
      rfl
end Go.Proofs.Yteddoandjgjleaa

namespace Go.Proofs.Yteddoandjgjleaa
open Go Go.Proofs Ev
set_option maxRecDepth 100000
def posT (k : Nat) (t : Tre) : Nat := posL (k + 5 * t.mem.length) t.levels + t.snaps.length
def mkT (k : Nat) (t : Tre) : Tre := ⟨t.seq, markL k t.mem.length, mkLs (k + 5 * t.mem.length) t.levels, markI (posL (k + 5 * t.mem.length) t.levels) t.snaps.length⟩
def argT (t : Tre) : AV := .agg [.c (vi t.seq), .ref 0 0 (.cell 0), .ref 1 0 (.cell 0), .ref 2 0 (.cell 0)]
def obsT (t : Tre) : List (List C) := [[.us 82 (t.mem.map Ent.enc)], [.us 91 (t.levels.map encLO)], [.us 3 (t.snaps.map encI)]]
theorem laws_markTree (t : Tre) (k : Nat) (hk : posT k t ≤ 4611686018427387904) : AFn Try.prog 17 [argT t, av (.int .i64 k)] (obsT t) (.one (vi (posT k t : Nat))) (obsT (mkT k t)) := by
  refine AFn.introX (E := En 3 (md1 [44, 65, 66]) [2]) (en_ok 3 _ _) Try.func17 rfl rfl rfl fun _ hs => ?_
  have h1 := posL_le t.levels (k + 5 * t.mem.length)
  unfold posT at hk
  refine ACall.mk _ _ (laws_markEntryS t.mem k (by omega)) ?_
  refine ACall.mk _ _ (laws_markRunSS t.levels (k + 5 * t.mem.length) (by omega)) ?_
  refine ACall.mk _ _ (laws_markIntS t.snaps (posL (k + 5 * t.mem.length) t.levels) (by omega)) ?_
  exact Need.mk ⟨[], _, .same, rfl, rfl⟩ trivial
end Go.Proofs.Yteddoandjgjleaa

namespace Go.Proofs.Yteddoandjgjleaa
open Go Go.Proofs Ev
set_option maxRecDepth 100000
theorem laws_heldEntryS (k n : Nat) (hk : k + 5 * n ≤ 4611686018427387904) : AFn Try.prog 45 [sl ((markL k n).map Ent.enc), av (.int .i64 k)] [] (.one (vi ((k + 5 * n : Nat) : Int))) [] := by
  refine AFn.introX (E := En 0 md0) (en_ok 0 md0) Try.func45 rfl rfl rfl fun _ _ => ?_
  have hn : ((markL k n).map Ent.enc).length = n := by rw [List.length_map, markL_len]
  refine ALoop.mk (fun m s => ∃ i : Nat, i ≤ n ∧ m = n - i ∧
      s = ⟨some (sl ((markL k n).map Ent.enc)) :: some (av (.int .i64 ((k + 5 * i : Nat) : Int))) :: none :: none :: none :: some (av (.int .i64 i)) :: List.replicate 54 none, List.replicate 60 absent⟩)
    ⟨n, _, Weak.nrm [true, true, false, false, false, true] [] rfl rfl rfl, 0, Nat.zero_le _, rfl, rfl⟩ ?_
  rintro m s ⟨i, hi, rfl, rfl⟩
  refine Split.mk fun t ht => ?_
  rw [hn] at ht
  cases t
  · have hin : i = n := by simp at ht; omega
    subst hin
    exact Need.mk ⟨[], _, .same, rfl, rfl⟩ trivial
  · have hin : i < n := by simpa using ht
    have hget : ((markL k n).map Ent.enc)[i]? = some (markE (k + 5 * i)).enc := by rw [List.getElem?_map, markL_get hin]; rfl
    refine Need.mk (by omega) ?_
    refine Row.mk _ hget ?_
    refine ACall.mk _ _ (laws_markText (k + 5 * i) (by omega)) ?_
    refine Split.mk fun t ht => ?_
    rw [bytes_beq] at ht
    cases t
    · refine Need.mk rfl ?_
      refine Num.mk _ (wrapS (by omega)) ?_
      refine Need.mk (by omega) ?_
      refine Row.mk _ hget ?_
      refine Split.mk fun t ht => ?_
      cases t
      · refine Num.mk _ (wrapS (by omega)) ?_
        refine Need.mk (by omega) ?_
        refine Row.mk _ hget ?_
        refine Split.mk fun t ht => ?_
        cases t
        · refine Num.mk _ (wrapS (by omega)) ?_
          refine Need.mk (by omega) ?_
          refine Row.mk _ hget ?_
          refine ACall.mk _ _ (laws_markText (k + 5 * i + 1 + 1 + 1) (by omega)) ?_
          refine Split.mk fun t ht => ?_
          rw [bytes_beq] at ht
          cases t
          · refine Need.mk rfl ?_
            refine Num.mk _ (wrapS (by omega)) ?_
            refine Need.mk (by omega) ?_
            refine Row.mk _ hget ?_
            refine Split.mk fun t ht => ?_
            cases t
            · refine Num.mk _ (wrapS (by omega)) ?_
              refine Num.mk _ (wrapS (by omega)) ?_
              exact ⟨n - (i + 1), _, by omega, Weak.nrm [true, true, false, false, false, true] [] rfl rfl rfl, i + 1, by omega, rfl, rfl⟩
            · simp [markE] at ht <;> omega
          · simp [markE] at ht <;> omega
        · simp [markE] at ht <;> omega
      · simp [markE] at ht <;> omega
    · simp [markE] at ht <;> omega
end Go.Proofs.Yteddoandjgjleaa

namespace Go.Proofs.Yteddoandjgjleaa
open Go Go.Proofs Ev
set_option maxRecDepth 100000
theorem laws_heldRunS (xs : List Rn) (k : Nat) (hk : posR k xs ≤ 4611686018427387904) : AFn Try.prog 117 [sl ((mkRs k xs).map Rn.enc), av (.int .i64 k)] [] (.one (vi (posR k xs : Nat))) [] := by
  refine AFn.introX (E := En 0 md0) (en_ok 0 md0) Try.func117 rfl rfl rfl fun _ _ => ?_
  have hn : ((mkRs k xs).map Rn.enc).length = xs.length := by rw [List.length_map, mkRs_len]
  have hxl := posR_len xs k
  refine ALoop.mk (fun m s => ∃ i : Nat, i ≤ xs.length ∧ m = xs.length - i ∧
      s = ⟨some (sl ((mkRs k xs).map Rn.enc)) :: some (av (.int .i64 ((posR k (xs.take i) : Nat) : Int))) :: none :: none :: none :: some (av (.int .i64 i)) :: List.replicate 25 none, List.replicate 31 absent⟩)
    ⟨xs.length, _, Weak.nrm [true, true, false, false, false, true] [] rfl rfl rfl, 0, Nat.zero_le _, rfl, rfl⟩ ?_
  rintro m s ⟨i, hi, rfl, rfl⟩
  refine Split.mk fun t ht => ?_
  rw [hn] at ht
  cases t
  · have hin : i = xs.length := by simp at ht; omega
    subst hin
    refine Need.mk ⟨[], _, .same, ?_, rfl⟩ trivial
    rw [List.take_length]; rfl
  · have hia : i < xs.length := by simpa using ht
    have hpos : posR k (xs.take (i + 1)) = posR k (xs.take i) + 5 * xs[i].ents.length + 1 := by rw [List.take_succ_eq_append_getElem hia, posR_app]; rfl
    have hle : posR k (xs.take (i + 1)) ≤ 4611686018427387904 := by
      have : posR k xs = posR (posR k (xs.take (i + 1))) (xs.drop (i + 1)) := by rw [← posR_app, List.take_append_drop]
      have h2 := posR_le (xs.drop (i + 1)) (posR k (xs.take (i + 1)))
      omega
    have hget : ((mkRs k xs).map Rn.enc)[i]? = some (mkR (posR k (xs.take i)) xs[i]).enc := by
      have h1 : mkRs k xs = mkRs k (xs.take i) ++ mkRs (posR k (xs.take i)) (xs.drop i) := by rw [← mkRs_app, List.take_append_drop]
      rw [List.getElem?_map, h1, List.getElem?_append_right (by rw [mkRs_len, List.length_take]; omega), mkRs_len, List.length_take, Nat.min_eq_left (by omega), Nat.sub_self, List.drop_eq_getElem_cons hia]
      rfl
    refine Need.mk (by omega) ?_
    refine Row.mk _ hget ?_
    refine ACall.mk _ _ (laws_heldEntryS (posR k (xs.take i)) xs[i].ents.length (by omega)) ?_
    refine Split.mk fun t ht => ?_
    cases t
    · refine Need.mk (by omega) ?_
      refine Row.mk _ hget ?_
      refine Split.mk fun t ht => ?_
      cases t
      · refine Num.mk _ (wrapS (by omega)) ?_
        refine Num.mk _ (wrapS (by omega)) ?_
        refine ⟨xs.length - (i + 1), _, by omega, Weak.nrm [true, true, false, false, false, true] [] rfl rfl rfl, i + 1, by omega, rfl, ?_⟩
        rw [hpos]; rfl
      · simp [mkR] at ht
    · simp at ht <;> omega
end Go.Proofs.Yteddoandjgjleaa

namespace Go.Proofs.Yteddoandjgjleaa
open Go Go.Proofs Ev
set_option maxRecDepth 100000
theorem laws_heldRunSS (xs : List (List Rn)) (k : Nat) (hk : posL k xs ≤ 4611686018427387904) : AFn Try.prog 67 [sl ((mkLs k xs).map encL), av (.int .i64 k)] [] (.one (vi (posL k xs : Nat))) [] := by
  refine AFn.introX (E := En 0 md0) (en_ok 0 md0) Try.func67 rfl rfl rfl fun hs _ => ?_
  have hn : ((mkLs k xs).map encL).length = xs.length := by rw [List.length_map, mkLs_len]
  have hxl := Small.len (hs _ (List.mem_cons_self ..))
  rw [hn] at hxl
  refine ALoop.mk (fun m s => ∃ i : Nat, i ≤ xs.length ∧ m = xs.length - i ∧
      s = ⟨some (sl ((mkLs k xs).map encL)) :: some (av (.int .i64 ((posL k (xs.take i) : Nat) : Int))) :: none :: none :: none :: some (av (.int .i64 i)) :: List.replicate 15 none, List.replicate 21 absent⟩)
    ⟨xs.length, _, Weak.nrm [true, true, false, false, false, true] [] rfl rfl rfl, 0, Nat.zero_le _, rfl, rfl⟩ ?_
  rintro m s ⟨i, hi, rfl, rfl⟩
  refine Split.mk fun t ht => ?_
  rw [hn] at ht
  cases t
  · have hin : i = xs.length := by simp at ht; omega
    subst hin
    refine Need.mk ⟨[], _, .same, ?_, rfl⟩ trivial
    rw [List.take_length]; rfl
  · have hia : i < xs.length := by simpa using ht
    have hpos : posL k (xs.take (i + 1)) = posR (posL k (xs.take i)) xs[i] := by rw [List.take_succ_eq_append_getElem hia, posL_app]; rfl
    have hle : posL k (xs.take (i + 1)) ≤ 4611686018427387904 := by
      have : posL k xs = posL (posL k (xs.take (i + 1))) (xs.drop (i + 1)) := by rw [← posL_app, List.take_append_drop]
      have h2 := posL_le (xs.drop (i + 1)) (posL k (xs.take (i + 1)))
      omega
    have hget : ((mkLs k xs).map encL)[i]? = some (encL (mkRs (posL k (xs.take i)) xs[i])) := by
      have h1 : mkLs k xs = mkLs k (xs.take i) ++ mkLs (posL k (xs.take i)) (xs.drop i) := by rw [← mkLs_app, List.take_append_drop]
      rw [List.getElem?_map, h1, List.getElem?_append_right (by rw [mkLs_len, List.length_take]; omega), mkLs_len, List.length_take, Nat.min_eq_left (by omega), Nat.sub_self, List.drop_eq_getElem_cons hia]
      rfl
    refine Need.mk (by omega) ?_
    refine Row.mk _ hget ?_
    refine ACall.mk _ _ (laws_heldRunS xs[i] (posL k (xs.take i)) (by omega)) ?_
    refine Split.mk fun t ht => ?_
    cases t
    · refine Num.mk _ (wrapS (by omega)) ?_
      refine ⟨xs.length - (i + 1), _, by omega, Weak.nrm [true, true, false, false, false, true] [] rfl rfl rfl, i + 1, by omega, rfl, ?_⟩
      rw [hpos]; rfl
    · simp at ht <;> omega
end Go.Proofs.Yteddoandjgjleaa

namespace Go.Proofs.Yteddoandjgjleaa
open Go Go.Proofs Ev
set_option maxRecDepth 100000
theorem laws_heldIntS (k n : Nat) (hk : k + n ≤ 4611686018427387904) : AFn Try.prog 68 [sl ((markI k n).map encI), av (.int .i64 k)] [] (.one (vi ((k + n : Nat) : Int))) [] := by
  refine AFn.introX (E := En 0 md0) (en_ok 0 md0) Try.func68 rfl rfl rfl fun _ _ => ?_
  have hn : ((markI k n).map encI).length = n := by rw [List.length_map, markI_len]
  refine ALoop.mk (fun m s => ∃ i : Nat, i ≤ n ∧ m = n - i ∧
      s = ⟨some (sl ((markI k n).map encI)) :: some (av (.int .i64 ((k + i : Nat) : Int))) :: none :: none :: none :: some (av (.int .i64 i)) :: List.replicate 15 none, List.replicate 21 absent⟩)
    ⟨n, _, Weak.nrm [true, true, false, false, false, true] [] rfl rfl rfl, 0, Nat.zero_le _, rfl, rfl⟩ ?_
  rintro m s ⟨i, hi, rfl, rfl⟩
  refine Split.mk fun t ht => ?_
  rw [hn] at ht
  cases t
  · have hin : i = n := by simp at ht; omega
    subst hin
    exact Need.mk ⟨[], _, .same, rfl, rfl⟩ trivial
  · have hin : i < n := by simpa using ht
    have hget : ((markI k n).map encI)[i]? = some (encI ((k + i : Nat) : Int)) := by rw [List.getElem?_map, markI_get hin]; rfl
    refine Need.mk (by omega) ?_
    refine Row.mk _ hget ?_
    refine Split.mk fun t ht => ?_
    cases t
    · refine Num.mk _ (wrapS (by omega)) ?_
      refine Num.mk _ (wrapS (by omega)) ?_
      exact ⟨n - (i + 1), _, by omega, Weak.nrm [true, true, false, false, false, true] [] rfl rfl rfl, i + 1, by omega, rfl, rfl⟩
    · simp at ht
end Go.Proofs.Yteddoandjgjleaa

namespace Go.Proofs.Yteddoandjgjleaa
open Go Go.Proofs Ev
set_option maxRecDepth 100000
theorem laws_heldTree (t : Tre) (k : Nat) (hk : posT k t ≤ 4611686018427387904) : AFn Try.prog 18 [.agg ((mkT k t).enc.map .c), av (.int .i64 k)] [] (.one (vi (posT k t : Nat))) [] := by
  refine AFn.introX (E := En 0 md0) (en_ok 0 md0) Try.func18 rfl rfl rfl fun _ hs => ?_
  have h1 := posL_le t.levels (k + 5 * t.mem.length)
  unfold posT at hk
  refine ACall.mk _ _ (laws_heldEntryS k t.mem.length (by omega)) ?_
  refine Split.mk fun b hb => ?_
  cases b
  · refine ACall.mk _ _ (laws_heldRunSS t.levels (k + 5 * t.mem.length) (by omega)) ?_
    refine Split.mk fun b hb => ?_
    cases b
    · refine ACall.mk _ _ (laws_heldIntS (posL (k + 5 * t.mem.length) t.levels) t.snaps.length (by omega)) ?_
      refine Split.mk fun b hb => ?_
      cases b
      · exact Need.mk ⟨[], _, .same, rfl, rfl⟩ trivial
      · simp at hb <;> omega
    · simp at hb <;> omega
  · simp at hb <;> omega
end Go.Proofs.Yteddoandjgjleaa

namespace Go.Proofs.Yteddoandjgjleaa
open Go Go.Proofs Ev
set_option maxRecDepth 100000
theorem frzR (xs : List Rn) : Frz (.us 57 (xs.map encO)) (.sl (xs.map Rn.enc)) := frz_map fun r _ => .cons (frzE r.ents) (.cons .v .nil)
theorem frzRR (xs : List (List Rn)) : Frz (.us 91 (xs.map encLO)) (.sl (xs.map encL)) := frz_map fun r _ => .cons (frzR r) .nil
end Go.Proofs.Yteddoandjgjleaa

namespace Go.Proofs.Yteddoandjgjleaa
open Go Go.Proofs Ev
set_option maxRecDepth 100000
def posS (k : Nat) (s : Sto) : Nat := posL (posT k s.tree) s.disk.levels
def mkS (k : Nat) (s : Sto) : Sto := ⟨s.up, mkT k s.tree, ⟨s.disk.log, s.disk.safe, mkLs (posT k s.tree) s.disk.levels, s.disk.seq⟩⟩
theorem laws_markDisk (d : Dsk) (k : Nat) (hk : posL k d.levels ≤ 4611686018427387904) : AFn Try.prog 70 [.agg [.c (vs d.log), .c (vi d.safe), .ref 0 0 (.cell 0), .c (vi d.seq)], av (.int .i64 k)] [[.us 91 (d.levels.map encLO)]] (.one (vi (posL k d.levels : Nat))) [[.us 91 ((mkLs k d.levels).map encLO)]] := by
  refine AFn.introX (E := En 1 (md1 [65]) [2]) (en_ok 1 _ _) Try.func70 rfl rfl rfl fun _ hs => ?_
  refine ACall.mk _ _ (laws_markRunSS d.levels k hk) ?_
  exact Need.mk ⟨[], _, .same, rfl, rfl⟩ trivial
theorem laws_heldDisk (d : Dsk) (k : Nat) (hk : posL k d.levels ≤ 4611686018427387904) : AFn Try.prog 71 [.agg ((⟨d.log, d.safe, mkLs k d.levels, d.seq⟩ : Dsk).enc.map .c), av (.int .i64 k)] [] (.one (vi (posL k d.levels : Nat))) [] := by
  refine AFn.introX (E := En 0 md0) (en_ok 0 md0) Try.func71 rfl rfl rfl fun _ hs => ?_
  refine ACall.mk _ _ (laws_heldRunSS d.levels k hk) ?_
  refine Split.mk fun b hb => ?_
  cases b
  · exact Need.mk ⟨[], _, .same, rfl, rfl⟩ trivial
  · simp at hb <;> omega
def argS (s : Sto) : AV := .agg [.c (vb s.up), .c (vi s.tree.seq), .ref 0 0 (.cell 0), .ref 1 0 (.cell 0), .ref 2 0 (.cell 0), .c (vs s.disk.log), .c (vi s.disk.safe), .ref 3 0 (.cell 0), .c (vi s.disk.seq)]
def obsS (s : Sto) : List (List C) := obsT s.tree ++ [[.us 91 (s.disk.levels.map encLO)]]
theorem laws_markStore (s : Sto) (k : Nat) (hk : posS k s ≤ 4611686018427387904) : AFn Try.prog 22 [argS s, av (.int .i64 k)] (obsS s) (.one (vi (posS k s : Nat))) (obsS (mkS k s)) := by
  refine AFn.introX (E := En 4 (md1 [17, 70]) [2]) (en_ok 4 _ _) Try.func22 rfl rfl rfl fun _ hs => ?_
  have h1 := posL_le s.disk.levels (posT k s.tree)
  unfold posS at hk
  refine ACall.mk _ _ (laws_markTree s.tree k (by omega)) ?_
  refine ACall.mk _ _ (laws_markDisk s.disk (posT k s.tree) hk) ?_
  exact Need.mk ⟨[], _, .same, rfl, rfl⟩ trivial
theorem laws_heldStore (s : Sto) (k : Nat) (hk : posS k s ≤ 4611686018427387904) : AFn Try.prog 23 [.agg ((mkS k s).enc.map .c), av (.int .i64 k)] [] (.one (vi (posS k s : Nat))) [] := by
  refine AFn.introX (E := En 0 md0) (en_ok 0 md0) Try.func23 rfl rfl rfl fun _ hs => ?_
  have h1 := posL_le s.disk.levels (posT k s.tree)
  unfold posS at hk
  refine ACall.mk _ _ (laws_heldTree s.tree k (by omega)) ?_
  refine Split.mk fun b hb => ?_
  cases b
  · refine ACall.mk _ _ (laws_heldDisk s.disk (posT k s.tree) hk) ?_
    refine Split.mk fun b hb => ?_
    cases b
    · exact Need.mk ⟨[], _, .same, rfl, rfl⟩ trivial
    · simp at hb <;> omega
  · simp at hb <;> omega
end Go.Proofs.Yteddoandjgjleaa

namespace Go.Proofs.Yteddoandjgjleaa
open Go Go.Proofs Ev
set_option maxRecDepth 100000
def sto0 : Sto := ⟨true, ⟨0, [], [[], [], []], []⟩, ⟨⟨#[]⟩, 0, [[], [], []], 0⟩⟩
theorem laws_FnExactStoreNew_any : AFn Try.prog 4 [] [] (rb true) [] := by
  refine AFn.introX (E := En 0 (md1 [22])) (en_ok 0 _) Try.func4 rfl rfl rfl fun _ _ => ?_
  refine ACall.mk _ _ spec_storeNew ?_
  refine ACall.mk _ _ impl_storeNew ?_
  refine Fz.mk _ (frzE []) ?_
  refine Fz.mk _ (frzRR [[], [], []]) ?_
  refine Fz.mk _ (frzI []) ?_
  refine Fz.mk _ (frzRR [[], [], []]) ?_
  refine Fz.mk _ (frzE []) ?_
  refine Fz.mk _ (frzRR [[], [], []]) ?_
  refine Fz.mk _ (frzI []) ?_
  refine Fz.mk _ (frzRR [[], [], []]) ?_
  refine ACall.mk _ _ (laws_eqStore sto0 sto0) ?_
  refine Need.mk ⟨closed_v, no_objs⟩ ?_
  refine Split.mk fun b hb => ?_
  cases b
  · simp at hb
  refine ACall.mk _ _ (laws_markStore sto0 1 (by decide)) ?_
  refine Fz.mk _ (frzE (mkS 1 sto0).tree.mem) ?_
  refine Fz.mk _ (frzRR (mkS 1 sto0).tree.levels) ?_
  refine Fz.mk _ (frzI (mkS 1 sto0).tree.snaps) ?_
  refine Fz.mk _ (frzRR (mkS 1 sto0).disk.levels) ?_
  refine ACall.mk _ _ (laws_heldStore sto0 1 (by decide)) ?_
  refine Need.mk ⟨closed_v, no_objs⟩ ?_
  refine Split.mk fun b hb => ?_
  cases b
  · refine Split.mk fun b hb => ?_
    cases b
    · refine ACall.mk _ _ impl_storeNew ?_
      refine Fz.mk _ (frzE []) ?_
      refine Fz.mk _ (frzRR [[], [], []]) ?_
      refine Fz.mk _ (frzI []) ?_
      refine Fz.mk _ (frzRR [[], [], []]) ?_
      refine Fz.mk _ (frzE []) ?_
      refine Fz.mk _ (frzRR [[], [], []]) ?_
      refine Fz.mk _ (frzI []) ?_
      refine Fz.mk _ (frzRR [[], [], []]) ?_
      refine ACall.mk _ _ (laws_eqStore sto0 sto0) ?_
      refine Need.mk ⟨closed_v, no_objs⟩ ?_
      refine Split.mk fun b hb => ?_
      cases b
      · simp at hb
      refine Fz.mk _ (frzE (mkS 1 sto0).tree.mem) ?_
      refine Fz.mk _ (frzRR (mkS 1 sto0).tree.levels) ?_
      refine Fz.mk _ (frzI (mkS 1 sto0).tree.snaps) ?_
      refine Fz.mk _ (frzRR (mkS 1 sto0).disk.levels) ?_
      refine ACall.mk _ _ (laws_heldStore sto0 1 (by decide)) ?_
      refine Need.mk ⟨closed_v, no_objs⟩ ?_
      refine Split.mk fun b hb => ?_
      cases b
      · refine Split.mk fun b hb => ?_
        cases b
        · exact Need.mk ⟨[], _, .same, rfl, rfl⟩ trivial
        · simp at hb
      · simp at hb <;> omega
    · simp at hb
  · simp at hb <;> omega
end Go.Proofs.Yteddoandjgjleaa
