/-
  Contracts of functions, part 1.
-/
import Derived.Test.YteddoandjgjleaaEvC
import Derived.Test.YteddoandjgjleaaProg
import Derived.KernelRfl
namespace Go.Proofs.Yteddoandjgjleaa
open Go Go.Proofs Ev
def tab : List (TypeId × TI) := [
  (2, ⟨1, 8, false, .int .i64, [.int .i64 0], [none], none⟩),
  (3, ⟨1, 8, false, .int .i64, [.int .i64 0], [none], none⟩),
  (4, ⟨1, 1, false, .bool, [.bool false], [none], none⟩),
  (5, ⟨1, 1, false, .int .u8, [.int .u8 0], [none], none⟩),
  (9, ⟨1, 16, false, .str, [.string ⟨#[]⟩], [none], none⟩),
  (12, ⟨1, 8, false, .int .u64, [.int .u64 0], [none], none⟩),
  (20, ⟨1, 16, false, .other, [.nilIface], [none], none⟩),
  (21, ⟨1, 4, false, .int .i32, [.int .i32 0], [none], none⟩),
  (22, ⟨1, 24, false, .slice 82, [nilV], [some 82], none⟩),
  (23, ⟨1, 24, false, .slice 91, [nilV], [some 91], none⟩),
  (24, ⟨1, 24, false, .slice 3, [nilV], [some 3], none⟩),
  (25, ⟨4, 80, true, .struct [(0, 3), (1, 22), (2, 23), (3, 24)], [.int .i64 0, nilV, nilV, nilV], [none, some 82, some 91, some 3], none⟩),
  (26, ⟨4, 80, true, .struct [(0, 3), (1, 22), (2, 23), (3, 24)], [.int .i64 0, nilV, nilV, nilV], [none, some 82, some 91, some 3], none⟩),
  (27, ⟨1, 8, false, .other, [.nilFunc], [none], none⟩),
  (28, ⟨1, 8, false, .other, [.nilFunc], [none], none⟩),
  (29, ⟨1, 8, false, .other, [.nilFunc], [none], none⟩),
  (30, ⟨1, 8, false, .other, [.nilFunc], [none], none⟩),
  (31, ⟨4, 56, true, .struct [(0, 9), (1, 3), (2, 23), (3, 3)], [.string ⟨#[]⟩, .int .i64 0, nilV, .int .i64 0], [none, none, some 91, none], none⟩),
  (32, ⟨4, 56, true, .struct [(0, 9), (1, 3), (2, 23), (3, 3)], [.string ⟨#[]⟩, .int .i64 0, nilV, .int .i64 0], [none, none, some 91, none], none⟩),
  (33, ⟨9, 144, true, .struct [(0, 4), (1, 26), (5, 32)], [.bool false, .int .i64 0, nilV, nilV, nilV, .string ⟨#[]⟩, .int .i64 0, nilV, .int .i64 0], [none, none, some 82, some 91, some 3, none, none, some 91, none], none⟩),
  (34, ⟨9, 144, true, .struct [(0, 4), (1, 26), (5, 32)], [.bool false, .int .i64 0, nilV, nilV, nilV, .string ⟨#[]⟩, .int .i64 0, nilV, .int .i64 0], [none, none, some 82, some 91, some 3, none, none, some 91, none], none⟩),
  (35, ⟨1, 8, false, .other, [.nilFunc], [none], none⟩),
  (36, ⟨1, 8, false, .other, [.nilFunc], [none], none⟩),
  (37, ⟨1, 8, false, .other, [.nilFunc], [none], none⟩),
  (38, ⟨1, 24, false, .slice 119, [nilV], [some 119], none⟩),
  (39, ⟨1, 24, false, .slice 140, [nilV], [some 140], none⟩),
  (40, ⟨4, 80, true, .struct [(0, 3), (1, 38), (2, 39), (3, 24)], [.int .i64 0, nilV, nilV, nilV], [none, some 119, some 140, some 3], none⟩),
  (41, ⟨4, 80, true, .struct [(0, 3), (1, 38), (2, 39), (3, 24)], [.int .i64 0, nilV, nilV, nilV], [none, some 119, some 140, some 3], none⟩),
  (42, ⟨1, 8, false, .other, [.nilFunc], [none], none⟩),
  (43, ⟨1, 8, false, .other, [.nilFunc], [none], none⟩),
  (44, ⟨1, 8, false, .other, [.nilFunc], [none], none⟩),
  (45, ⟨4, 56, true, .struct [(0, 9), (1, 3), (2, 39), (3, 3)], [.string ⟨#[]⟩, .int .i64 0, nilV, .int .i64 0], [none, none, some 140, none], none⟩),
  (46, ⟨4, 56, true, .struct [(0, 9), (1, 3), (2, 39), (3, 3)], [.string ⟨#[]⟩, .int .i64 0, nilV, .int .i64 0], [none, none, some 140, none], none⟩),
  (47, ⟨9, 144, true, .struct [(0, 4), (1, 41), (5, 46)], [.bool false, .int .i64 0, nilV, nilV, nilV, .string ⟨#[]⟩, .int .i64 0, nilV, .int .i64 0], [none, none, some 119, some 140, some 3, none, none, some 140, none], none⟩),
  (48, ⟨9, 144, true, .struct [(0, 4), (1, 41), (5, 46)], [.bool false, .int .i64 0, nilV, nilV, nilV, .string ⟨#[]⟩, .int .i64 0, nilV, .int .i64 0], [none, none, some 119, some 140, some 3, none, none, some 140, none], none⟩),
  (49, ⟨1, 8, false, .other, [.nilFunc], [none], none⟩),
  (50, ⟨1, 8, false, .other, [.nilFunc], [none], none⟩),
  (51, ⟨1, 8, false, .other, [.nilFunc], [none], none⟩),
  (52, ⟨2, 32, true, .struct [(0, 38), (1, 3)], [nilV, .int .i64 0], [some 119, none], none⟩),
  (53, ⟨2, 32, true, .struct [(0, 38), (1, 3)], [nilV, .int .i64 0], [some 119, none], none⟩),
  (54, ⟨1, 8, false, .other, [.nilFunc], [none], none⟩),
  (55, ⟨1, 8, false, .other, [.nilFunc], [none], none⟩),
  (56, ⟨2, 32, true, .struct [(0, 22), (1, 3)], [nilV, .int .i64 0], [some 82, none], none⟩),
  (57, ⟨2, 32, true, .struct [(0, 22), (1, 3)], [nilV, .int .i64 0], [some 82, none], none⟩),
  (58, ⟨1, 8, false, .other, [.nilFunc], [none], none⟩),
  (59, ⟨1, 8, false, .other, [.nilFunc], [none], none⟩),
  (60, ⟨1, 8, false, .other, [.nilFunc], [none], none⟩),
  (61, ⟨1, 24, false, .slice 38, [nilV], [some 38], none⟩),
  (62, ⟨1, 8, false, .other, [.nilFunc], [none], none⟩),
  (63, ⟨1, 8, false, .other, [.nilFunc], [none], none⟩),
  (64, ⟨1, 24, false, .slice 22, [nilV], [some 22], none⟩),
  (65, ⟨1, 8, false, .other, [.nilFunc], [none], none⟩),
  (66, ⟨1, 8, false, .other, [.nilFunc], [none], none⟩),
  (67, ⟨1, 8, false, .other, [.nilFunc], [none], none⟩),
  (68, ⟨1, 8, false, .other, [.nilFunc], [none], none⟩),
  (69, ⟨1, 8, false, .other, [.nilFunc], [none], none⟩),
  (70, ⟨1, 8, false, .other, [.nilFunc], [none], none⟩),
  (71, ⟨1, 8, false, .other, [.nilFunc], [none], none⟩),
  (73, ⟨1, 8, false, .other, [.nilFunc], [none], none⟩),
  (74, ⟨1, 8, false, .other, [.nilFunc], [none], none⟩),
  (75, ⟨1, 8, false, .other, [.nilFunc], [none], none⟩),
  (76, ⟨1, 8, false, .other, [.nilFunc], [none], none⟩),
  (77, ⟨1, 8, false, .other, [.nilFunc], [none], none⟩),
  (78, ⟨1, 8, false, .other, [.nilFunc], [none], none⟩),
  (79, ⟨1, 24, false, .slice 5, [nilV], [some 5], none⟩),
  (80, ⟨1, 8, false, .other, [.nilFunc], [none], none⟩),
  (81, ⟨5, 56, true, .struct [(0, 9), (1, 3), (2, 3), (3, 9), (4, 3)], [.string ⟨#[]⟩, .int .i64 0, .int .i64 0, .string ⟨#[]⟩, .int .i64 0], [none, none, none, none, none], some [.str, .int .i64, .int .i64, .str, .int .i64]⟩),
  (82, ⟨5, 56, true, .struct [(0, 9), (1, 3), (2, 3), (3, 9), (4, 3)], [.string ⟨#[]⟩, .int .i64 0, .int .i64 0, .string ⟨#[]⟩, .int .i64 0], [none, none, none, none, none], some [.str, .int .i64, .int .i64, .str, .int .i64]⟩),
  (83, ⟨1, 8, false, .other, [.nilFunc], [none], none⟩),
  (84, ⟨1, 8, false, .other, [.nilFunc], [none], none⟩),
  (85, ⟨1, 8, false, .other, [.nilFunc], [none], none⟩),
  (87, ⟨1, 8, false, .other, [.nilFunc], [none], none⟩),
  (88, ⟨1, 8, false, .other, [.nilFunc], [none], none⟩),
  (90, ⟨1, 8, false, .other, [.nilFunc], [none], none⟩),
  (91, ⟨1, 24, false, .slice 57, [nilV], [some 57], none⟩),
  (92, ⟨1, 8, false, .other, [.nilFunc], [none], none⟩),
  (93, ⟨1, 8, false, .other, [.nilFunc], [none], none⟩),
  (94, ⟨1, 8, false, .other, [.nilFunc], [none], none⟩),
  (95, ⟨1, 8, false, .other, [.nilFunc], [none], none⟩),
  (96, ⟨1, 8, false, .other, [.nilFunc], [none], none⟩),
  (97, ⟨1, 8, false, .other, [.nilFunc], [none], none⟩),
  (98, ⟨1, 8, false, .other, [.nilFunc], [none], none⟩),
  (99, ⟨1, 8, false, .other, [.nilFunc], [none], none⟩),
  (100, ⟨1, 8, false, .other, [.nilFunc], [none], none⟩),
  (101, ⟨1, 8, false, .other, [.nilFunc], [none], none⟩),
  (102, ⟨1, 8, false, .other, [.nilFunc], [none], none⟩),
  (103, ⟨1, 8, false, .other, [.nilFunc], [none], none⟩),
  (104, ⟨1, 8, false, .other, [.nilFunc], [none], none⟩),
  (105, ⟨1, 8, false, .other, [.nilFunc], [none], none⟩),
  (106, ⟨1, 8, false, .other, [.nilFunc], [none], none⟩),
  (107, ⟨1, 24, false, .slice 112, [nilV], [some 112], none⟩),
  (108, ⟨1, 24, false, .slice 112, [nilV], [some 112], none⟩),
  (109, ⟨1, 8, false, .other, [.nilFunc], [none], none⟩),
  (110, ⟨1, 8, false, .other, [.nilFunc], [none], none⟩),
  (111, ⟨2, 32, true, .struct [(0, 22), (1, 3)], [nilV, .int .i64 0], [some 82, none], none⟩),
  (112, ⟨2, 32, true, .struct [(0, 22), (1, 3)], [nilV, .int .i64 0], [some 82, none], none⟩),
  (113, ⟨1, 8, false, .other, [.nilFunc], [none], none⟩),
  (114, ⟨1, 8, false, .ptr, [.pointer none], [none], none⟩),
  (115, ⟨1, 8, false, .other, [.nilFunc], [none], none⟩),
  (116, ⟨1, 8, false, .other, [.nilFunc], [none], none⟩),
  (117, ⟨1, 8, false, .other, [.nilFunc], [none], none⟩),
  (118, ⟨1, 8, false, .other, [.nilFunc], [none], none⟩),
  (119, ⟨5, 56, true, .struct [(0, 9), (1, 3), (2, 3), (3, 9), (4, 3)], [.string ⟨#[]⟩, .int .i64 0, .int .i64 0, .string ⟨#[]⟩, .int .i64 0], [none, none, none, none, none], some [.str, .int .i64, .int .i64, .str, .int .i64]⟩),
  (120, ⟨1, 8, false, .other, [.nilFunc], [none], none⟩),
  (121, ⟨1, 8, false, .other, [.nilFunc], [none], none⟩),
  (122, ⟨1, 8, false, .other, [.nilFunc], [none], none⟩),
  (123, ⟨1, 8, false, .other, [.nilFunc], [none], none⟩),
  (124, ⟨1, 8, false, .other, [.nilFunc], [none], none⟩),
  (125, ⟨1, 8, false, .other, [.nilFunc], [none], none⟩),
  (126, ⟨1, 8, false, .other, [.nilFunc], [none], none⟩),
  (127, ⟨1, 8, false, .ptr, [.pointer none], [none], none⟩),
  (128, ⟨1, 8, false, .other, [.nilFunc], [none], none⟩),
  (129, ⟨1, 8, false, .other, [.nilFunc], [none], none⟩),
  (130, ⟨1, 8, false, .other, [.nilFunc], [none], none⟩),
  (131, ⟨1, 8, false, .other, [.nilFunc], [none], none⟩),
  (132, ⟨1, 8, false, .other, [.nilFunc], [none], none⟩),
  (133, ⟨1, 8, false, .other, [.nilFunc], [none], none⟩),
  (134, ⟨1, 8, false, .other, [.nilFunc], [none], none⟩),
  (135, ⟨1, 8, false, .other, [.nilFunc], [none], none⟩),
  (136, ⟨1, 24, false, .slice 9, [nilV], [some 9], none⟩),
  (137, ⟨1, 8, false, .other, [.nilFunc], [none], none⟩),
  (138, ⟨1, 8, false, .other, [.nilFunc], [none], none⟩),
  (139, ⟨1, 8, false, .other, [.nilFunc], [none], none⟩),
  (140, ⟨1, 24, false, .slice 53, [nilV], [some 53], none⟩),
  (141, ⟨1, 8, false, .other, [.nilFunc], [none], none⟩),
  (142, ⟨1, 8, false, .other, [.nilFunc], [none], none⟩),
  (143, ⟨1, 8, false, .other, [.nilFunc], [none], none⟩),
  (144, ⟨1, 8, false, .other, [.nilFunc], [none], none⟩),
  (145, ⟨1, 8, false, .other, [.nilFunc], [none], none⟩),
  (146, ⟨1, 8, false, .other, [.nilFunc], [none], none⟩),
  (147, ⟨1, 16, false, .other, [.nilIface], [none], none⟩),
  (148, ⟨1, 16, false, .other, [.nilIface], [none], none⟩),
  (149, ⟨1, 8, false, .other, [.nilFunc], [none], none⟩),
  (150, ⟨1, 8, false, .other, [.nilFunc], [none], none⟩),
  (151, ⟨1, 8, false, .other, [.nilFunc], [none], none⟩),
  (152, ⟨1, 8, false, .other, [.nilFunc], [none], none⟩),
  (153, ⟨1, 8, false, .other, [.nilFunc], [none], none⟩),
  (154, ⟨1, 8, false, .int .u64, [.int .u64 0], [none], none⟩),
  (155, ⟨2, 32, true, .struct [(0, 79), (1, 3)], [nilV, .int .i64 0], [some 5, none], none⟩),
  (156, ⟨2, 32, true, .struct [(0, 79), (1, 3)], [nilV, .int .i64 0], [some 5, none], none⟩),
  (157, ⟨1, 8, false, .other, [.nilFunc], [none], none⟩),
  (158, ⟨1, 8, false, .other, [.nilFunc], [none], none⟩),
  (159, ⟨1, 8, false, .other, [.nilFunc], [none], none⟩),
  (160, ⟨1, 8, false, .other, [.nilFunc], [none], none⟩),
  (161, ⟨1, 8, false, .other, [.nilFunc], [none], none⟩),
  (162, ⟨1, 8, false, .other, [.nilFunc], [none], none⟩),
  (163, ⟨1, 8, false, .other, [.nilFunc], [none], none⟩),
  (164, ⟨1, 8, false, .other, [.nilFunc], [none], none⟩),
  (165, ⟨4, 40, true, .struct [(0, 17), (1, 17), (2, 17), (3, 9)], [.pointer none, .pointer none, .pointer none, .string ⟨#[]⟩], [none, none, none, none], none⟩),
  (166, ⟨4, 40, true, .struct [(0, 17), (1, 17), (2, 17), (3, 9)], [.pointer none, .pointer none, .pointer none, .string ⟨#[]⟩], [none, none, none, none], none⟩),
  (170, ⟨1, 4, false, .int .u32, [.int .u32 0], [none], none⟩),
  (171, ⟨1, 1, false, .int .u8, [.int .u8 0], [none], none⟩),
  (172, ⟨1, 1, false, .int .u8, [.int .u8 0], [none], none⟩),
  (173, ⟨1, 8, false, .other, [.nilFunc], [none], none⟩),
  (174, ⟨1, 8, false, .ptr, [.pointer none], [none], none⟩),
  (175, ⟨1, 4, false, .int .i32, [.int .i32 0], [none], none⟩),
  (176, ⟨1, 4, false, .int .i32, [.int .i32 0], [none], none⟩),
  (177, ⟨11, 48, true, .struct [(0, 12), (1, 12), (2, 170), (3, 171), (4, 5), (5, 5), (6, 172), (7, 173), (8, 174), (9, 175), (10, 176)], [.int .u64 0, .int .u64 0, .int .u32 0, .int .u8 0, .int .u8 0, .int .u8 0, .int .u8 0, .nilFunc, .pointer none, .int .i32 0, .int .i32 0], [none, none, none, none, none, none, none, none, none, none, none], none⟩),
  (178, ⟨11, 48, true, .struct [(0, 12), (1, 12), (2, 170), (3, 171), (4, 5), (5, 5), (6, 172), (7, 173), (8, 174), (9, 175), (10, 176)], [.int .u64 0, .int .u64 0, .int .u32 0, .int .u8 0, .int .u8 0, .int .u8 0, .int .u8 0, .nilFunc, .pointer none, .int .i32 0, .int .i32 0], [none, none, none, none, none, none, none, none, none, none, none], none⟩),
  (179, ⟨1, 8, false, .other, [.nilFunc], [none], none⟩),
  (180, ⟨1, 8, false, .other, [.nilFunc], [none], none⟩),
  (181, ⟨1, 8, false, .other, [.pointer none], [none], none⟩),
  (182, ⟨1, 8, false, .int .u64, [.int .u64 0], [none], none⟩)]
set_option maxRecDepth 100000
theorem tab_ok : tabB Try.prog tab = true := by kernel_rfl
theorem mixed : Try.prog.follows .mixedOrders = true := by kernel_rfl
def mtab : List (TypeId × String × MI) := [(114, "Len", .load 161 108), (114, "Less", .load 162 108), (114, "Pop", .val 164), (114, "Push", .val 167), (114, "Swap", .load 163 108)]
theorem mtab_ok : mtB Try.prog mtab = true := by kernel_rfl
noncomputable def En (m : Nat) (md : FuncId → Nat) (cb : List Nat := []) : Env := ⟨Try.prog, findT tab, md, m, cb, mtab⟩
theorem en_ok (m : Nat) (md : FuncId → Nat) (cb : List Nat := []) : EOk (En m md cb) := eok_of tab_ok mtab_ok mixed
def md0 : FuncId → Nat := fun _ => 0
def md1 (l : List FuncId) : FuncId → Nat := fun f => bif l.elem f then 1 else 0
end Go.Proofs.Yteddoandjgjleaa

namespace Go.Proofs.Yteddoandjgjleaa
open Go Go.Proofs Ev
set_option maxRecDepth 100000
set_option maxHeartbeats 1000000
theorem impl_KeyOk (s : ByteArray) (hs : s.size ≤ maxLen) : AFn Try.prog 142 [av (.string s)] [] (rb (keyOk s)) [] := by
  refine AFn.introX (E := En 0 md0) (en_ok 0 md0) Try.func142 rfl rfl rfl fun _ _ => ?_
  unfold maxLen at hs
  have fin : ∀ {c : Bool}, c = keyOk s → rb c = rb (keyOk s) := fun h => by rw [h]
  refine Split.mk fun t ht => ?_
  cases t
  case true => exact Need.mk ⟨[], _, .same, fin (keyOk_len (by simp at ht; omega)).symm, rfl⟩ trivial
  refine Split.mk fun t ht2 => ?_
  cases t
  case true => exact Need.mk ⟨[], _, .same, fin (keyOk_len (by simp at ht2; omega)).symm, rfl⟩ trivial
  have hsz : 1 ≤ s.size ∧ s.size ≤ 8 := by simp at ht ht2; omega
  refine ALoop.mk (fun m s' => ∃ i : Nat, i ≤ s.size ∧ m = s.size - i ∧ (∀ j : Nat, j < i → okc (byteAt s j) = true) ∧
      s' = ⟨some (av (.string s)) :: none :: some (av (.bool false)) :: none :: none :: none :: none :: none :: none :: none :: none :: none :: none :: none :: some (av (.int .i64 s.size)) :: some (av (.int .i64 i)) :: List.replicate 25 none, List.replicate 41 absent⟩)
    ⟨s.size, _, Weak.nrm [true, false, true, false, false, false, false, false, false, false, false, false, false, false, true, true] [] rfl rfl rfl, 0, Nat.zero_le _, rfl, by intro j hj; omega, rfl⟩ ?_
  rintro m s' ⟨i, hi, rfl, hall, rfl⟩
  refine Split.mk fun t ht => ?_
  cases t
  · have hin : i = s.size := by simp at ht; omega
    subst hin
    exact Need.mk ⟨[], _, .same, fin (by rw [keyOk_all hall]; simp [hsz]), rfl⟩ trivial
  have hia : i < s.size := by simpa using ht
  have more : okc (byteAt s i) = true → ∀ j : Nat, j < i + 1 → okc (byteAt s j) = true := fun hc j hj => by
    by_cases hji : j = i
    · rw [hji]; exact hc
    · exact hall j (by omega)
  refine Need.mk ⟨by omega, by omega⟩ ?_
  refine Split.mk fun t h1 => ?_
  cases t
  · refine Split.mk fun t h3 => ?_
    cases t
    · refine Split.mk fun t h5 => ?_
      cases t
      · have hc : okc (byteAt s i) = false := by simp at h1 h3 h5; simp [okc]; omega
        exact Need.mk ⟨[], _, .same, fin (keyOk_bad hia hc).symm, rfl⟩ trivial
      · have hc : okc (byteAt s i) = true := by simp at h1 h3 h5; simp [okc]; omega
        refine Num.mk _ (wrapS (by omega)) ?_
        exact ⟨s.size - (i + 1), _, by omega, Weak.nrm [true, false, true, false, false, false, false, false, false, false, false, false, false, false, true, true] [] rfl rfl rfl, i + 1, by omega, rfl, more hc, rfl⟩
    · refine Split.mk fun t h4 => ?_
      cases t
      · refine Split.mk fun t h5 => ?_
        cases t
        · have hc : okc (byteAt s i) = false := by simp at h1 h3 h4 h5; simp [okc]; omega
          exact Need.mk ⟨[], _, .same, fin (keyOk_bad hia hc).symm, rfl⟩ trivial
        · have hc : okc (byteAt s i) = true := by simp at h1 h3 h4 h5; simp [okc]; omega
          refine Num.mk _ (wrapS (by omega)) ?_
          exact ⟨s.size - (i + 1), _, by omega, Weak.nrm [true, false, true, false, false, false, false, false, false, false, false, false, false, false, true, true] [] rfl rfl rfl, i + 1, by omega, rfl, more hc, rfl⟩
      · have hc : okc (byteAt s i) = true := by simp at h1 h3 h4; simp [okc]; omega
        refine Num.mk _ (wrapS (by omega)) ?_
        exact ⟨s.size - (i + 1), _, by omega, Weak.nrm [true, false, true, false, false, false, false, false, false, false, false, false, false, false, true, true] [] rfl rfl rfl, i + 1, by omega, rfl, more hc, rfl⟩
  · refine Split.mk fun t h2 => ?_
    cases t
    · refine Split.mk fun t h3 => ?_
      cases t
      · refine Split.mk fun t h5 => ?_
        cases t
        · have hc : okc (byteAt s i) = false := by simp at h1 h2 h3 h5; simp [okc]; omega
          exact Need.mk ⟨[], _, .same, fin (keyOk_bad hia hc).symm, rfl⟩ trivial
        · have hc : okc (byteAt s i) = true := by simp at h1 h2 h3 h5; simp [okc]; omega
          refine Num.mk _ (wrapS (by omega)) ?_
          exact ⟨s.size - (i + 1), _, by omega, Weak.nrm [true, false, true, false, false, false, false, false, false, false, false, false, false, false, true, true] [] rfl rfl rfl, i + 1, by omega, rfl, more hc, rfl⟩
      · refine Split.mk fun t h4 => ?_
        cases t
        · refine Split.mk fun t h5 => ?_
          cases t
          · have hc : okc (byteAt s i) = false := by simp at h1 h2 h3 h4 h5; simp [okc]; omega
            exact Need.mk ⟨[], _, .same, fin (keyOk_bad hia hc).symm, rfl⟩ trivial
          · have hc : okc (byteAt s i) = true := by simp at h1 h2 h3 h4 h5; simp [okc]; omega
            refine Num.mk _ (wrapS (by omega)) ?_
            exact ⟨s.size - (i + 1), _, by omega, Weak.nrm [true, false, true, false, false, false, false, false, false, false, false, false, false, false, true, true] [] rfl rfl rfl, i + 1, by omega, rfl, more hc, rfl⟩
        · have hc : okc (byteAt s i) = true := by simp at h1 h2 h3 h4; simp [okc]; omega
          refine Num.mk _ (wrapS (by omega)) ?_
          exact ⟨s.size - (i + 1), _, by omega, Weak.nrm [true, false, true, false, false, false, false, false, false, false, false, false, false, false, true, true] [] rfl rfl rfl, i + 1, by omega, rfl, more hc, rfl⟩
    · have hc : okc (byteAt s i) = true := by simp at h1 h2; simp [okc]; omega
      refine Num.mk _ (wrapS (by omega)) ?_
      exact ⟨s.size - (i + 1), _, by omega, Weak.nrm [true, false, true, false, false, false, false, false, false, false, false, false, false, false, true, true] [] rfl rfl rfl, i + 1, by omega, rfl, more hc, rfl⟩
theorem spec_KeyOk (s : ByteArray) (hs : s.size ≤ maxLen) : AFn Try.prog 140 [av (.string s)] [] (rb (keyOk s)) [] := by
  refine AFn.introX (E := En 0 md0) (en_ok 0 md0) Try.func140 rfl rfl rfl fun _ _ => ?_
  unfold maxLen at hs
  have fin : ∀ {c : Bool}, c = keyOk s → rb c = rb (keyOk s) := fun h => by rw [h]
  refine ALoop.mk (fun m s' => ∃ i : Nat, i ≤ s.size ∧ m = s.size - i ∧ (∀ j : Nat, j < i → okc (byteAt s j) = true) ∧
      s' = ⟨some (av (.string s)) :: none :: some (av (.bool false)) :: some (av (.int .i64 i)) :: List.replicate 36 none, List.replicate 40 absent⟩)
    ⟨s.size, _, Weak.nrm [true, false, true, true] [] rfl rfl rfl, 0, Nat.zero_le _, rfl, by intro j hj; omega, rfl⟩ ?_
  rintro m s' ⟨i, hi, rfl, hall, rfl⟩
  refine Split.mk fun t ht => ?_
  cases t
  · have hin : i = s.size := by simp at ht; omega
    subst hin
    refine Split.mk fun t h1 => ?_
    cases t
    · exact Need.mk ⟨[], _, .same, fin (by rw [keyOk_all hall]; simp at h1; simp; omega), rfl⟩ trivial
    · refine Split.mk fun t h2 => ?_
      cases t
      · exact Need.mk ⟨[], _, .same, fin (by rw [keyOk_all hall]; simp at h1 h2; simp; omega), rfl⟩ trivial
      · exact Need.mk ⟨[], _, .same, fin (by rw [keyOk_all hall]; simp at h1 h2; simp; omega), rfl⟩ trivial
  have hia : i < s.size := by simpa using ht
  have more : okc (byteAt s i) = true → ∀ j : Nat, j < i + 1 → okc (byteAt s j) = true := fun hc j hj => by
    by_cases hji : j = i
    · rw [hji]; exact hc
    · exact hall j (by omega)
  refine Need.mk ⟨by omega, by omega⟩ ?_
  refine Split.mk fun t h1 => ?_
  cases t
  · refine Need.mk ⟨by omega, by omega⟩ ?_
    refine Split.mk fun t h2 => ?_
    cases t
    · have hc : okc (byteAt s i) = true := by simp at h1 h2; simp [okc]; omega
      refine Num.mk _ (wrapS (by omega)) ?_
      exact ⟨s.size - (i + 1), _, by omega, Weak.nrm [true, false, true, true] [] rfl rfl rfl, i + 1, by omega, rfl, more hc, rfl⟩
    · refine Need.mk ⟨by omega, by omega⟩ ?_
      refine Split.mk fun t h3 => ?_
      cases t
      · refine Need.mk ⟨by omega, by omega⟩ ?_
        refine Split.mk fun t h4 => ?_
        cases t
        · have hc : okc (byteAt s i) = true := by simp at h1 h2 h3 h4; simp [okc]; omega
          refine Num.mk _ (wrapS (by omega)) ?_
          exact ⟨s.size - (i + 1), _, by omega, Weak.nrm [true, false, true, true] [] rfl rfl rfl, i + 1, by omega, rfl, more hc, rfl⟩
        · have hc : okc (byteAt s i) = false := by simp at h1 h2 h3 h4; simp [okc]; omega
          exact Need.mk ⟨[], _, .same, fin (keyOk_bad hia hc).symm, rfl⟩ trivial
      · have hc : okc (byteAt s i) = false := by simp at h1 h2 h3; simp [okc]; omega
        exact Need.mk ⟨[], _, .same, fin (keyOk_bad hia hc).symm, rfl⟩ trivial
  · refine Need.mk ⟨by omega, by omega⟩ ?_
    refine Split.mk fun t h3 => ?_
    cases t
    · refine Need.mk ⟨by omega, by omega⟩ ?_
      refine Split.mk fun t h4 => ?_
      cases t
      · have hc : okc (byteAt s i) = true := by simp at h1 h3 h4; simp [okc]; omega
        refine Num.mk _ (wrapS (by omega)) ?_
        exact ⟨s.size - (i + 1), _, by omega, Weak.nrm [true, false, true, true] [] rfl rfl rfl, i + 1, by omega, rfl, more hc, rfl⟩
      · have hc : okc (byteAt s i) = false := by simp at h1 h3 h4; simp [okc]; omega
        exact Need.mk ⟨[], _, .same, fin (keyOk_bad hia hc).symm, rfl⟩ trivial
    · have hc : okc (byteAt s i) = false := by simp at h1 h3; simp [okc]; omega
      exact Need.mk ⟨[], _, .same, fin (keyOk_bad hia hc).symm, rfl⟩ trivial
theorem impl_EntryLess (a b : Ent) : AFn Try.prog 56 [.agg (a.enc.map .c), .agg (b.enc.map .c)] [] (rb (eLess a b)) [] := by
  refine AFn.introX (E := En 0 md0) (en_ok 0 md0) Try.func56 rfl rfl rfl fun _ _ => ?_
  have fin : ∀ {c : Bool}, c = eLess a b → rb c = rb (eLess a b) := fun h => by rw [h]
  refine Split.mk fun t ht => ?_
  rw [bytes_beq] at ht
  cases t
  · have he : a.key = b.key := by simpa using ht
    refine Split.mk fun t ht2 => ?_
    exact Need.mk ⟨[], _, .same, fin (by rw [← ht2]; simp [eLess, he, slt_irr]), rfl⟩ trivial
  · have he : a.key ≠ b.key := by simpa using ht
    refine Split.mk fun t ht2 => ?_
    exact Need.mk ⟨[], _, .same, fin (by rw [← ht2]; simp [eLess, he]), rfl⟩ trivial
theorem spec_EntryLess (a b : Ent) : AFn Try.prog 124 [.agg (a.enc.map .c), .agg (b.enc.map .c)] [] (rb (eLess a b)) [] := by
  refine AFn.introX (E := En 0 md0) (en_ok 0 md0) Try.func124 rfl rfl rfl fun _ _ => ?_
  have fin : ∀ {c : Bool}, c = eLess a b → rb c = rb (eLess a b) := fun h => by rw [h]
  refine Split.mk fun t ht => ?_
  have ht : slt a.key b.key = t := ht
  cases t
  · refine Split.mk fun t ht2 => ?_
    rw [bytes_beq] at ht2
    cases t
    · exact Need.mk ⟨[], _, .same, fin (by simp at ht2; simp [eLess, ht, ht2]), rfl⟩ trivial
    · refine Split.mk fun t ht3 => ?_
      exact Need.mk ⟨[], _, .same, fin (by rw [← ht3]; simp at ht2; simp [eLess, ht2, slt_irr]), rfl⟩ trivial
  · exact Need.mk ⟨[], _, .same, fin (by simp [eLess, ht]), rfl⟩ trivial
end Go.Proofs.Yteddoandjgjleaa

namespace Go.Proofs.Yteddoandjgjleaa
open Go Go.Proofs Ev
set_option maxRecDepth 100000
theorem sort_Search (f : FuncId) (a : Rn) (b : Ent) (p : Nat → Bool) (n k : Nat) (hn : n ≤ 1099511627776) (hk : k ≤ n) (h1 : ∀ i, i < k → p i = false) (h2 : ∀ i, k ≤ i → i < n → p i = true)
    (hf : ∀ i : Nat, i < n → AFnK Try.prog f [av (.int .i64 i), .bx 0 0, .bx 1 0] [a.enc, b.enc] [0, 0] (rb (p i)) [a.enc, b.enc]) :
    AFnK Try.prog 104 [av (.int .i64 n), .clo f [.bx 0 0, .bx 1 0]] [a.enc, b.enc] [0, 0] (.one (vi k)) [a.enc, b.enc] := by
  refine AFnK.introX (E := En 2 md0) (en_ok 2 md0) Try.func104 rfl rfl rfl fun _ _ => ?_
  let S : Nat → Nat → St := fun i j => ⟨some (av (.int .i64 n)) :: some (.clo f [.bx 0 0, .bx 1 0]) :: none :: none :: none :: some (av (.int .i64 i)) :: some (av (.int .i64 j)) :: List.replicate 19 none, ⟨0, 0, some a.enc⟩ :: ⟨0, 0, some b.enc⟩ :: List.replicate 26 absent⟩
  refine ALoop.mk (fun m s => ∃ i j : Nat, i ≤ k ∧ k ≤ j ∧ j ≤ n ∧ m = j - i ∧ s = S i j)
    ⟨n, _, Weak.nrm [true, true, false, false, false, true, true] [(0, 0), (1, 1)] rfl rfl rfl, 0, n, Nat.zero_le _, hk, Nat.le_refl _, rfl, rfl⟩ ?_
  rintro m s ⟨i, j, hi, hj, hjn, rfl, hs⟩
  by_cases hij : i < j
  · have hm1 : i ≤ (i + j) / 2 := by omega
    have hm2 : (i + j) / 2 < j := by omega
    have hc := hf ((i + j) / 2) (by omega)
    have up : p ((i + j) / 2) = false → (i + j) / 2 + 1 ≤ k := fun h => by
      refine Nat.lt_of_not_le fun hle => ?_
      rw [h2 _ hle (by omega)] at h; cases h
    have dn : p ((i + j) / 2) = true → k ≤ (i + j) / 2 := fun h => by
      refine Nat.le_of_not_lt fun hle => ?_
      rw [h1 _ hle] at h; cases h
    subst hs
    refine Split.mk fun t ht => ?_
    cases t
    · simp at ht; omega
    refine Num.mk ((i + j : Nat) : Int) (wrapI' (by omega) (by omega)) ?_
    refine Num.mk _ (wrapU (by omega)) ?_
    refine Need.mk (by decide) ?_
    refine Num.mk _ (half (by omega)) ?_
    refine ACall.mk _ _ hc ?_
    refine Split.mk fun t h3 => ?_
    cases t
    · refine Num.mk _ (wrapS (by omega)) ?_
      exact ⟨j - ((i + j) / 2 + 1), _, by omega, Weak.nrm [true, true, false, false, false, true, true] [(0, 0), (1, 1)] rfl rfl rfl, (i + j) / 2 + 1, j, up h3, hj, hjn, rfl, rfl⟩
    · exact ⟨(i + j) / 2 - i, _, by omega, Weak.nrm [true, true, false, false, false, true, true] [(0, 0), (1, 1)] rfl rfl rfl, i, (i + j) / 2, hi, dn h3, by omega, rfl, rfl⟩
  · have he : i = k := by omega
    subst hs
    refine Split.mk fun t ht => ?_
    cases t
    · exact Need.mk ⟨[], _, .same, by rw [he]; rfl, rfl⟩ trivial
    · simp at ht; omega
theorem impl_RunFind1 (r : Rn) (q : Ent) (i : Nat) (h : i < r.ents.length) : AFnK Try.prog 105 [av (.int .i64 i), .bx 0 0, .bx 1 0] [r.enc, q.enc] [0, 0] (rb (!eLess r.ents[i] q)) [r.enc, q.enc] := by
  refine AFnK.introX (E := En 2 md0) (en_ok 2 md0) Try.func105 rfl rfl rfl fun _ _ => ?_
  have hn : (r.ents.map Ent.enc).length = r.ents.length := List.length_map ..
  refine Need.mk (by omega) ?_
  refine Row.mk _ (map_get _ r.ents i h) ?_
  refine ACall.mk _ _ (impl_EntryLess r.ents[i] q) ?_
  refine Split.mk fun t ht => ?_
  refine Need.mk rfl ?_
  exact Need.mk ⟨[], _, .same, by rw [ht]; rfl, rfl⟩ trivial
end Go.Proofs.Yteddoandjgjleaa

namespace Go.Proofs.Yteddoandjgjleaa
open Go Go.Proofs Ev
set_option maxRecDepth 100000
theorem spec_l4Bit (n : Nat) (hn : n < 16) : AFn Try.prog 123 [av (.int .i64 n)] [] (.one (vi ((2 ^ n : Nat) : Int))) [] := by
  refine AFn.introX (E := En 0 md0) (en_ok 0 md0) Try.func123 rfl rfl rfl fun _ _ => ?_
  refine ALoop.mk (fun m s => ∃ i : Nat, i ≤ n ∧ m = n - i ∧ s = ⟨some (av (.int .i64 n)) :: none :: some (av (.int .i64 0)) :: some (av (.int .i64 ((2 ^ i : Nat) : Int))) :: some (av (.int .i64 i)) :: List.replicate 8 none, List.replicate 13 absent⟩)
    ⟨n, _, Weak.nrm [true, false, true, true, true] [] rfl rfl rfl, 0, Nat.zero_le _, rfl, rfl⟩ ?_
  rintro m s ⟨i, hi, rfl, rfl⟩
  refine Split.mk fun t ht => ?_
  cases t
  · have hin : i = n := by simp at ht; omega
    subst hin
    exact Need.mk ⟨[], _, .same, rfl, rfl⟩ trivial
  · have hia : i < n := by simpa using ht
    have hp : 2 ^ i < 65536 := Nat.pow_lt_pow_right (a := 2) (by decide) (show i < 16 by omega)
    refine Num.mk ((2 ^ (i + 1) : Nat) : Int) (wrapI' (by rw [Nat.pow_succ]; omega) (by rw [Nat.pow_succ]; omega)) ?_
    refine Num.mk _ (wrapS (by omega)) ?_
    exact ⟨n - (i + 1), _, by omega, Weak.nrm [true, false, true, true, true] [] rfl rfl rfl, i + 1, by omega, rfl, rfl⟩
theorem spec_l4Or (a b : Nat) (ha : a < 65536) (hb : b < 65536) : AFn Try.prog 84 [av (.int .i64 a), av (.int .i64 b)] [] (.one (vi ((a ||| b : Nat) : Int))) [] := by
  refine AFn.introX (E := En 0 md0) (en_ok 0 md0) Try.func84 rfl rfl rfl fun _ _ => ?_
  have hlt : a ||| b < 65536 := Nat.or_lt_two_pow (n := 16) ha hb
  let S : Int → Nat → St := fun i o => ⟨some (av (.int .i64 a)) :: some (av (.int .i64 b)) :: none :: none :: some (av (.int .i64 0)) :: some (av (.int .i64 o)) :: some (av (.int .i64 i)) :: List.replicate 23 none, List.replicate 30 absent⟩
  refine ALoop.mk (fun m s => ∃ k : Nat, k ≤ 16 ∧ m = k ∧ s = S ((k : Int) - 1) ((a ||| b) / 2 ^ k))
    ⟨16, _, Weak.nrm [true, true, false, false, true, true, true] [] rfl rfl rfl, 16, Nat.le_refl _, rfl, by rw [show (a ||| b) / 2 ^ 16 = 0 from Nat.div_eq_of_lt hlt]; rfl⟩ ?_
  rintro m s ⟨k, hk, rfl, hs⟩
  by_cases h0 : m = 0
  · subst h0
    rw [Nat.pow_zero, Nat.div_one] at hs
    subst hs
    refine Split.mk fun t ht => ?_
    cases t
    · exact Need.mk ⟨[], _, .same, rfl, rfl⟩ trivial
    · simp at ht
  · have hex : ∃ i, m = i + 1 := ⟨m - 1, by omega⟩
    obtain ⟨i, hmi⟩ := hex
    subst hmi
    have hpos : 0 < 2 ^ i := Nat.pow_pos (by decide)
    have hstep : (a ||| b) / 2 ^ i = 2 * ((a ||| b) / 2 ^ (i + 1)) + (a ||| b) / 2 ^ i % 2 := bit_step
    have hor := or_bit (a := a) (b := b) (i := i)
    have hle : (a ||| b) / 2 ^ i ≤ a ||| b := Nat.div_le_self _ _
    have hda : a / 2 ^ i ≤ a := Nat.div_le_self _ _
    have hdb : b / 2 ^ i ≤ b := Nat.div_le_self _ _
    have hii : (((i + 1 : Nat) : Int) - 1) = (i : Int) := by omega
    rw [hii] at hs
    subst hs
    refine Split.mk fun t ht => ?_
    cases t
    · simp at ht <;> omega
    refine Num.mk ((2 * ((a ||| b) / 2 ^ (i + 1)) : Nat) : Int) (wrapI' (by omega) (by omega)) ?_
    refine ACall.mk _ _ (spec_l4Bit i (by omega)) ?_
    refine Need.mk (by omega) ?_
    refine Num.mk ((a / 2 ^ i : Nat) : Int) (wrapI' (tdivN' _ _) (by omega)) ?_
    refine Need.mk (by decide) ?_
    refine Split.mk fun t h1 => ?_
    have h1 : ((((a / 2 ^ i % 2 : Nat) : Int) == 1)) = t := h1
    cases t
    · refine ACall.mk _ _ (spec_l4Bit i (by omega)) ?_
      refine Need.mk (by omega) ?_
      refine Num.mk ((b / 2 ^ i : Nat) : Int) (wrapI' (tdivN' _ _) (by omega)) ?_
      refine Need.mk (by decide) ?_
      refine Split.mk fun t h2 => ?_
      have h2 : ((((b / 2 ^ i % 2 : Nat) : Int) == 1)) = t := h2
      cases t
      · have e : (a ||| b) / 2 ^ i % 2 = 0 := by rw [hor, if_neg (fun h => h.elim (fun e => by rw [e] at h1; cases h1) (fun e => by rw [e] at h2; cases h2))]
        refine Num.mk ((i : Int) - 1) (wrapI (by omega) (by omega)) ?_
        exact ⟨i, _, by omega, Weak.nrm [true, true, false, false, true, true, true] [] rfl rfl rfl, i, by omega, rfl, by rw [hstep, e, Nat.add_zero]; rfl⟩
      · have e : (a ||| b) / 2 ^ i % 2 = 1 := by rw [hor, if_pos (.inr (Int.ofNat_inj.1 (beq_iff_eq.1 h2)))]
        refine Num.mk ((2 * ((a ||| b) / 2 ^ (i + 1)) + 1 : Nat) : Int) (wrapI' (by omega) (by omega)) ?_
        refine Num.mk ((i : Int) - 1) (wrapI (by omega) (by omega)) ?_
        exact ⟨i, _, by omega, Weak.nrm [true, true, false, false, true, true, true] [] rfl rfl rfl, i, by omega, rfl, by rw [hstep, e]; rfl⟩
    · have e : (a ||| b) / 2 ^ i % 2 = 1 := by rw [hor, if_pos (.inl (Int.ofNat_inj.1 (beq_iff_eq.1 h1)))]
      refine Num.mk ((2 * ((a ||| b) / 2 ^ (i + 1)) + 1 : Nat) : Int) (wrapI' (by omega) (by omega)) ?_
      refine Num.mk ((i : Int) - 1) (wrapI (by omega) (by omega)) ?_
      exact ⟨i, _, by omega, Weak.nrm [true, true, false, false, true, true, true] [] rfl rfl rfl, i, by omega, rfl, by rw [hstep, e]; rfl⟩
theorem spec_KeyMask (s : ByteArray) (hs : s.size ≤ maxLen) : AFn Try.prog 85 [av (.string s)] [] (.one (vi (kmask s : Nat))) [] := by
  refine AFn.introX (E := En 0 md0) (en_ok 0 md0) Try.func85 rfl rfl rfl fun _ _ => ?_
  unfold maxLen at hs
  refine ALoop.mk (fun m s' => ∃ i : Nat, i ≤ s.size ∧ m = s.size - i ∧ s' = ⟨some (av (.string s)) :: none :: some (av (.int .i64 0)) :: some (av (.int .i64 (hsh s i : Nat))) :: some (av (.int .i64 i)) :: List.replicate 22 none, List.replicate 27 absent⟩)
    ⟨s.size, _, Weak.nrm [true, false, true, true, true] [] rfl rfl rfl, 0, Nat.zero_le _, rfl, rfl⟩ ?_
  rintro m s' ⟨i, hi, rfl, hs'⟩
  by_cases hin : i = s.size
  · subst hin
    have h1 := hsh_lt s s.size
    subst hs'
    refine Split.mk fun t ht => ?_
    cases t
    · refine Need.mk (by decide) ?_
      refine ACall.mk _ _ (spec_l4Bit (hsh s s.size % 16) (Nat.mod_lt _ (by decide))) ?_
      refine Need.mk (by decide) ?_
      refine Num.mk ((hsh s s.size / 16 : Nat) : Int) (wrapI' (tdivN' _ _) (by omega)) ?_
      refine Need.mk (by decide) ?_
      refine ACall.mk _ _ (spec_l4Bit (hsh s s.size / 16 % 16) (Nat.mod_lt _ (by decide))) ?_
      refine ACall.mk _ _ (spec_l4Or (2 ^ (hsh s s.size % 16)) (2 ^ (hsh s s.size / 16 % 16)) (p16_lt _) (p16_lt _)) ?_
      exact Need.mk ⟨[], _, .same, rfl, rfl⟩ trivial
    · simp at ht
  · have hia : i < s.size := by omega
    have h1 := hsh_lt s i
    have h2 := byteAt_lt s i
    have h3 : byteAt s i = (((byteAt s i).toNat : Nat) : Int) := by omega
    have h4 : ((hsh s i : Int) * 31 + ((byteAt s i).toNat : Int)).tmod 65521 = ((hsh s (i + 1) : Nat) : Int) := by
      rw [show (hsh s i : Int) * 31 + ((byteAt s i).toNat : Int) = ((31 * hsh s i + (byteAt s i).toNat : Nat) : Int) by omega]
      exact tmodN' _ _
    subst hs'
    refine Split.mk fun t ht => ?_
    cases t
    · simp at ht; omega
    refine Num.mk ((hsh s i : Int) * 31) (wrapI (by omega) (by omega)) ?_
    refine Need.mk ⟨by omega, by omega⟩ ?_
    refine Num.mk (((byteAt s i).toNat : Nat) : Int) (by rw [IntKind.wrap_i64]; omega) ?_
    refine Num.mk ((hsh s i : Int) * 31 + ((byteAt s i).toNat : Int)) (wrapI (by omega) (by omega)) ?_
    refine Need.mk (by decide) ?_
    refine Num.mk _ (wrapS (by omega)) ?_
    exact ⟨s.size - (i + 1), _, by omega, Weak.nrm [true, false, true, true, true] [] rfl rfl rfl, i + 1, by omega, rfl, by rw [← h4]; rfl⟩
theorem impl_KeyMask (s : ByteArray) (hs : s.size ≤ maxLen) : AFn Try.prog 88 [av (.string s)] [] (.one (vi (kmask s : Nat))) [] := by
  refine AFn.introX (E := En 0 md0) (en_ok 0 md0) Try.func88 rfl rfl rfl fun _ _ => ?_
  unfold maxLen at hs
  refine ALoop.mk (fun m s' => ∃ i : Nat, i ≤ s.size ∧ m = s.size - i ∧ s' = ⟨some (av (.string s)) :: none :: some (av (.int .i64 0)) :: some (av (.int .i64 (hsh s i : Nat))) :: none :: none :: some (av (.int .i64 s.size)) :: some (av (.int .i64 i)) :: List.replicate 19 none, List.replicate 27 absent⟩)
    ⟨s.size, _, Weak.nrm [true, false, true, true, false, false, true, true] [] rfl rfl rfl, 0, Nat.zero_le _, rfl, rfl⟩ ?_
  rintro m s' ⟨i, hi, rfl, hs'⟩
  by_cases hin : i = s.size
  · subst hin
    have h1 := hsh_lt s s.size
    have p1 := p16_lt (hsh s s.size)
    have p2 := p16_lt (hsh s s.size / 16)
    have sh : ∀ k : Nat, k < 16 → IntKind.i64.wrap ((1 : Int) * 2 ^ (min (k : Int).toNat IntKind.i64.bits)) = ((2 ^ k : Nat) : Int) := fun k hk => by
      have hp : 2 ^ k < 65536 := Nat.pow_lt_pow_right (a := 2) (by decide) hk
      have hb : IntKind.i64.bits = 64 := rfl
      refine wrapI' ?_ (by omega)
      rw [Int.toNat_natCast, Nat.min_eq_left (by rw [hb]; omega), Int.one_mul]
      simp
    subst hs'
    refine Split.mk fun t ht => ?_
    cases t
    · refine Need.mk (by decide) ?_
      refine Need.mk (Int.natCast_nonneg (hsh s s.size % 16)) ?_
      refine Num.mk _ (sh (hsh s s.size % 16) (Nat.mod_lt _ (by decide))) ?_
      refine Need.mk (by decide) ?_
      refine Num.mk ((hsh s s.size / 16 : Nat) : Int) (wrapI' (tdivN' _ _) (by omega)) ?_
      refine Need.mk (by decide) ?_
      refine Need.mk (Int.natCast_nonneg (hsh s s.size / 16 % 16)) ?_
      refine Num.mk _ (sh (hsh s s.size / 16 % 16) (Nat.mod_lt _ (by decide))) ?_
      refine Need.mk rfl ?_
      refine Need.mk ⟨[], _, .same, ?_, rfl⟩ trivial
      exact congrArg (fun z => RV.one (vi z)) (orN p1 p2)
    · simp at ht
  · have hia : i < s.size := by omega
    have h1 := hsh_lt s i
    have h2 := byteAt_lt s i
    have h4 : ((31 : Int) * (hsh s i : Int) + ((byteAt s i).toNat : Int)).tmod 65521 = ((hsh s (i + 1) : Nat) : Int) := by
      rw [show (31 : Int) * (hsh s i : Int) + ((byteAt s i).toNat : Int) = ((31 * hsh s i + (byteAt s i).toNat : Nat) : Int) by omega]
      exact tmodN' _ _
    subst hs'
    refine Split.mk fun t ht => ?_
    cases t
    · simp at ht; omega
    refine Num.mk ((31 : Int) * (hsh s i : Int)) (wrapI (by omega) (by omega)) ?_
    refine Need.mk ⟨by omega, by omega⟩ ?_
    refine Num.mk (((byteAt s i).toNat : Nat) : Int) (by rw [IntKind.wrap_i64]; omega) ?_
    refine Num.mk ((31 : Int) * (hsh s i : Int) + ((byteAt s i).toNat : Int)) (wrapI (by omega) (by omega)) ?_
    refine Need.mk (by decide) ?_
    refine Num.mk _ (wrapS (by omega)) ?_
    exact ⟨s.size - (i + 1), _, by omega, Weak.nrm [true, false, true, true, false, false, true, true] [] rfl rfl rfl, i + 1, by omega, rfl, by rw [← h4]; rfl⟩
end Go.Proofs.Yteddoandjgjleaa

namespace Go.Proofs.Yteddoandjgjleaa
open Go Go.Proofs Ev
set_option maxRecDepth 100000
set_option maxHeartbeats 1000000
theorem spec_l3Sum (n : Int) : AFn Try.prog 141 [av (.int .i64 n)] [] (rb (sumOk n)) [] := by
  refine AFn.introX (E := En 0 md0) (en_ok 0 md0) Try.func141 rfl rfl rfl fun _ _ => ?_
  have fin : ∀ {c : Bool}, c = sumOk n → rb c = rb (sumOk n) := fun h => by rw [h]
  refine Split.mk fun t h1 => ?_
  cases t
  · exact Need.mk ⟨[], _, .same, fin (by simp at h1; simp [sumOk]; omega), rfl⟩ trivial
  · refine Split.mk fun t h2 => ?_
    cases t
    · exact Need.mk ⟨[], _, .same, fin (by simp at h1 h2; simp [sumOk]; omega), rfl⟩ trivial
    · exact Need.mk ⟨[], _, .same, fin (by simp at h1 h2; simp [sumOk]; omega), rfl⟩ trivial
theorem impl_EntryOk (e : Ent) (he : e.Ok) : AFn Try.prog 132 [.agg (e.enc.map .c)] [] (rb (entOk e)) [] := by
  refine AFn.introX (E := En 0 md0) (en_ok 0 md0) Try.func132 rfl rfl rfl fun _ _ => ?_
  have fin : ∀ {c : Bool}, c = entOk e → rb c = rb (entOk e) := fun h => by rw [h]
  refine ACall.mk _ _ (impl_KeyOk e.key he.1) ?_
  refine Split.mk fun t h_k => ?_
  cases t
  · have f_k : keyOk e.key = false := by exact h_k
    exact Need.mk ⟨[], _, .same, fin (by simp [entOk, f_k]), rfl⟩ trivial
  · refine Split.mk fun t h_s1 => ?_
    cases t
    · refine Split.mk fun t h_s2 => ?_
      cases t
      · refine Split.mk fun t h_tx => ?_
        cases t
        · refine Split.mk fun t h_n1 => ?_
          cases t
          · refine Split.mk fun t h_n2 => ?_
            cases t
            · refine Split.mk fun t h_c1 => ?_
              cases t
              · refine Split.mk fun t h_c2 => ?_
                cases t
                · refine Split.mk fun t h_c3 => ?_
                  cases t
                  · have f_k : keyOk e.key = true := by exact h_k
                    have f_s1 : decide (1 ≤ e.seq) = true := by simp at h_s1; simp; omega
                    have f_s2 : decide (e.seq ≤ 100000) = true := by simp at h_s2; simp; omega
                    have f_tx : decide (e.text.size ≤ 60) = true := by simp at h_tx; simp; omega
                    have f_c1 : decide (e.kind = 1) = false := by simp at h_c1; simp; omega
                    have f_c2 : decide (e.kind = 2) = false := by simp at h_c2; simp; omega
                    have f_c3 : decide (e.kind = 3) = false := by simp at h_c3; simp; omega
                    have f_su : sumOk e.n = true := by simp at h_n1 h_n2; simp [sumOk]; omega
                    exact Need.mk ⟨[], _, .same, fin (by simp [entOk, f_k, f_s1, f_s2, f_tx, f_c1, f_c2, f_c3, f_su]), rfl⟩ trivial
                  · refine Split.mk fun t h_t => ?_
                    rw [bytes_beq] at h_t
                    cases t
                    · have f_k : keyOk e.key = true := by exact h_k
                      have f_s1 : decide (1 ≤ e.seq) = true := by simp at h_s1; simp; omega
                      have f_s2 : decide (e.seq ≤ 100000) = true := by simp at h_s2; simp; omega
                      have f_tx : decide (e.text.size ≤ 60) = true := by simp at h_tx; simp; omega
                      have f_c1 : decide (e.kind = 1) = false := by simp at h_c1; simp; omega
                      have f_c2 : decide (e.kind = 2) = false := by simp at h_c2; simp; omega
                      have f_c3 : decide (e.kind = 3) = true := by simp at h_c3; simp; omega
                      have f_t : decide (e.text = ⟨#[]⟩) = false := by exact h_t
                      have f_su : sumOk e.n = true := by simp at h_n1 h_n2; simp [sumOk]; omega
                      exact Need.mk ⟨[], _, .same, fin (by simp [entOk, f_k, f_s1, f_s2, f_tx, f_c1, f_c2, f_c3, f_t, f_su]), rfl⟩ trivial
                    · have f_k : keyOk e.key = true := by exact h_k
                      have f_s1 : decide (1 ≤ e.seq) = true := by simp at h_s1; simp; omega
                      have f_s2 : decide (e.seq ≤ 100000) = true := by simp at h_s2; simp; omega
                      have f_tx : decide (e.text.size ≤ 60) = true := by simp at h_tx; simp; omega
                      have f_c1 : decide (e.kind = 1) = false := by simp at h_c1; simp; omega
                      have f_c2 : decide (e.kind = 2) = false := by simp at h_c2; simp; omega
                      have f_c3 : decide (e.kind = 3) = true := by simp at h_c3; simp; omega
                      have f_t : decide (e.text = ⟨#[]⟩) = true := by exact h_t
                      have f_su : sumOk e.n = true := by simp at h_n1 h_n2; simp [sumOk]; omega
                      exact Need.mk ⟨[], _, .same, fin (by simp [entOk, f_k, f_s1, f_s2, f_tx, f_c1, f_c2, f_c3, f_t, f_su]), rfl⟩ trivial
                · refine Split.mk fun t h_t => ?_
                  rw [bytes_beq] at h_t
                  cases t
                  · have f_k : keyOk e.key = true := by exact h_k
                    have f_s1 : decide (1 ≤ e.seq) = true := by simp at h_s1; simp; omega
                    have f_s2 : decide (e.seq ≤ 100000) = true := by simp at h_s2; simp; omega
                    have f_tx : decide (e.text.size ≤ 60) = true := by simp at h_tx; simp; omega
                    have f_c1 : decide (e.kind = 1) = false := by simp at h_c1; simp; omega
                    have f_c2 : decide (e.kind = 2) = true := by simp at h_c2; simp; omega
                    have f_t : decide (e.text = ⟨#[]⟩) = false := by exact h_t
                    have f_su : sumOk e.n = true := by simp at h_n1 h_n2; simp [sumOk]; omega
                    exact Need.mk ⟨[], _, .same, fin (by simp [entOk, f_k, f_s1, f_s2, f_tx, f_c1, f_c2, f_t, f_su]), rfl⟩ trivial
                  · refine Split.mk fun t h_z => ?_
                    cases t
                    · have f_k : keyOk e.key = true := by exact h_k
                      have f_s1 : decide (1 ≤ e.seq) = true := by simp at h_s1; simp; omega
                      have f_s2 : decide (e.seq ≤ 100000) = true := by simp at h_s2; simp; omega
                      have f_tx : decide (e.text.size ≤ 60) = true := by simp at h_tx; simp; omega
                      have f_c1 : decide (e.kind = 1) = false := by simp at h_c1; simp; omega
                      have f_c2 : decide (e.kind = 2) = true := by simp at h_c2; simp; omega
                      have f_t : decide (e.text = ⟨#[]⟩) = true := by exact h_t
                      have f_z : decide (e.n = 0) = false := by simp at h_z; simp; omega
                      have f_c3 : decide (e.kind = 3) = false := by simp at h_c2; simp; omega
                      have f_su : sumOk e.n = true := by simp at h_n1 h_n2; simp [sumOk]; omega
                      exact Need.mk ⟨[], _, .same, fin (by simp [entOk, f_k, f_s1, f_s2, f_tx, f_c1, f_c2, f_t, f_z, f_c3, f_su]), rfl⟩ trivial
                    · have f_k : keyOk e.key = true := by exact h_k
                      have f_s1 : decide (1 ≤ e.seq) = true := by simp at h_s1; simp; omega
                      have f_s2 : decide (e.seq ≤ 100000) = true := by simp at h_s2; simp; omega
                      have f_tx : decide (e.text.size ≤ 60) = true := by simp at h_tx; simp; omega
                      have f_c1 : decide (e.kind = 1) = false := by simp at h_c1; simp; omega
                      have f_c2 : decide (e.kind = 2) = true := by simp at h_c2; simp; omega
                      have f_t : decide (e.text = ⟨#[]⟩) = true := by exact h_t
                      have f_z : decide (e.n = 0) = true := by simp at h_z; simp; omega
                      have f_su : sumOk e.n = true := by simp at h_n1 h_n2; simp [sumOk]; omega
                      exact Need.mk ⟨[], _, .same, fin (by simp [entOk, f_k, f_s1, f_s2, f_tx, f_c1, f_c2, f_t, f_z, f_su]), rfl⟩ trivial
              · have f_k : keyOk e.key = true := by exact h_k
                have f_s1 : decide (1 ≤ e.seq) = true := by simp at h_s1; simp; omega
                have f_s2 : decide (e.seq ≤ 100000) = true := by simp at h_s2; simp; omega
                have f_tx : decide (e.text.size ≤ 60) = true := by simp at h_tx; simp; omega
                have f_c1 : decide (e.kind = 1) = true := by simp at h_c1; simp; omega
                have f_su : sumOk e.n = true := by simp at h_n1 h_n2; simp [sumOk]; omega
                exact Need.mk ⟨[], _, .same, fin (by simp [entOk, f_k, f_s1, f_s2, f_tx, f_c1, f_su]), rfl⟩ trivial
            · have f_k : keyOk e.key = true := by exact h_k
              have f_s1 : decide (1 ≤ e.seq) = true := by simp at h_s1; simp; omega
              have f_s2 : decide (e.seq ≤ 100000) = true := by simp at h_s2; simp; omega
              have f_tx : decide (e.text.size ≤ 60) = true := by simp at h_tx; simp; omega
              have f_su : sumOk e.n = false := by simp at h_n1 h_n2; simp [sumOk]; omega
              exact Need.mk ⟨[], _, .same, fin (by simp [entOk, f_k, f_s1, f_s2, f_tx, f_su]), rfl⟩ trivial
          · have f_k : keyOk e.key = true := by exact h_k
            have f_s1 : decide (1 ≤ e.seq) = true := by simp at h_s1; simp; omega
            have f_s2 : decide (e.seq ≤ 100000) = true := by simp at h_s2; simp; omega
            have f_tx : decide (e.text.size ≤ 60) = true := by simp at h_tx; simp; omega
            have f_su : sumOk e.n = false := by simp at h_n1; simp [sumOk]; omega
            exact Need.mk ⟨[], _, .same, fin (by simp [entOk, f_k, f_s1, f_s2, f_tx, f_su]), rfl⟩ trivial
        · have f_k : keyOk e.key = true := by exact h_k
          have f_s1 : decide (1 ≤ e.seq) = true := by simp at h_s1; simp; omega
          have f_s2 : decide (e.seq ≤ 100000) = true := by simp at h_s2; simp; omega
          have f_tx : decide (e.text.size ≤ 60) = false := by simp at h_tx; simp; omega
          exact Need.mk ⟨[], _, .same, fin (by simp [entOk, f_k, f_s1, f_s2, f_tx]), rfl⟩ trivial
      · have f_k : keyOk e.key = true := by exact h_k
        have f_s1 : decide (1 ≤ e.seq) = true := by simp at h_s1; simp; omega
        have f_s2 : decide (e.seq ≤ 100000) = false := by simp at h_s2; simp; omega
        exact Need.mk ⟨[], _, .same, fin (by simp [entOk, f_k, f_s1, f_s2]), rfl⟩ trivial
    · have f_k : keyOk e.key = true := by exact h_k
      have f_s1 : decide (1 ≤ e.seq) = false := by simp at h_s1; simp; omega
      exact Need.mk ⟨[], _, .same, fin (by simp [entOk, f_k, f_s1]), rfl⟩ trivial
theorem spec_EntryOk (e : Ent) (he : e.Ok) : AFn Try.prog 131 [.agg (e.enc.map .c)] [] (rb (entOk e)) [] := by
  refine AFn.introX (E := En 0 md0) (en_ok 0 md0) Try.func131 rfl rfl rfl fun _ _ => ?_
  have fin : ∀ {c : Bool}, c = entOk e → rb c = rb (entOk e) := fun h => by rw [h]
  refine ACall.mk _ _ (spec_KeyOk e.key he.1) ?_
  refine Split.mk fun t h_k => ?_
  cases t
  · have f_k : keyOk e.key = false := by exact h_k
    exact Need.mk ⟨[], _, .same, fin (by simp [entOk, f_k]), rfl⟩ trivial
  · refine Split.mk fun t h_s1 => ?_
    cases t
    · refine Split.mk fun t h_s2 => ?_
      cases t
      · refine ACall.mk _ _ (spec_l3Sum e.n) ?_
        refine Split.mk fun t h_su => ?_
        cases t
        · have f_k : keyOk e.key = true := by exact h_k
          have f_s1 : decide (1 ≤ e.seq) = true := by simp at h_s1; simp; omega
          have f_s2 : decide (e.seq ≤ 100000) = true := by simp at h_s2; simp; omega
          have f_su : sumOk e.n = false := by exact h_su
          exact Need.mk ⟨[], _, .same, fin (by simp [entOk, f_k, f_s1, f_s2, f_su]), rfl⟩ trivial
        · refine Split.mk fun t h_tx => ?_
          cases t
          · refine Split.mk fun t h_c1 => ?_
            cases t
            · refine Split.mk fun t h_c2 => ?_
              cases t
              · refine Split.mk fun t h_c3 => ?_
                cases t
                · have f_k : keyOk e.key = true := by exact h_k
                  have f_s1 : decide (1 ≤ e.seq) = true := by simp at h_s1; simp; omega
                  have f_s2 : decide (e.seq ≤ 100000) = true := by simp at h_s2; simp; omega
                  have f_su : sumOk e.n = true := by exact h_su
                  have f_tx : decide (e.text.size ≤ 60) = true := by simp at h_tx; simp; omega
                  have f_c1 : decide (e.kind = 1) = false := by simp at h_c1; simp; omega
                  have f_c2 : decide (e.kind = 2) = false := by simp at h_c2; simp; omega
                  have f_c3 : decide (e.kind = 3) = false := by simp at h_c3; simp; omega
                  exact Need.mk ⟨[], _, .same, fin (by simp [entOk, f_k, f_s1, f_s2, f_su, f_tx, f_c1, f_c2, f_c3]), rfl⟩ trivial
                · refine Split.mk fun t h_t => ?_
                  rw [bytes_beq] at h_t
                  cases t
                  · have f_k : keyOk e.key = true := by exact h_k
                    have f_s1 : decide (1 ≤ e.seq) = true := by simp at h_s1; simp; omega
                    have f_s2 : decide (e.seq ≤ 100000) = true := by simp at h_s2; simp; omega
                    have f_su : sumOk e.n = true := by exact h_su
                    have f_tx : decide (e.text.size ≤ 60) = true := by simp at h_tx; simp; omega
                    have f_c1 : decide (e.kind = 1) = false := by simp at h_c1; simp; omega
                    have f_c2 : decide (e.kind = 2) = false := by simp at h_c2; simp; omega
                    have f_c3 : decide (e.kind = 3) = true := by simp at h_c3; simp; omega
                    have f_t : decide (e.text = ⟨#[]⟩) = false := by exact h_t
                    exact Need.mk ⟨[], _, .same, fin (by simp [entOk, f_k, f_s1, f_s2, f_su, f_tx, f_c1, f_c2, f_c3, f_t]), rfl⟩ trivial
                  · have f_k : keyOk e.key = true := by exact h_k
                    have f_s1 : decide (1 ≤ e.seq) = true := by simp at h_s1; simp; omega
                    have f_s2 : decide (e.seq ≤ 100000) = true := by simp at h_s2; simp; omega
                    have f_su : sumOk e.n = true := by exact h_su
                    have f_tx : decide (e.text.size ≤ 60) = true := by simp at h_tx; simp; omega
                    have f_c1 : decide (e.kind = 1) = false := by simp at h_c1; simp; omega
                    have f_c2 : decide (e.kind = 2) = false := by simp at h_c2; simp; omega
                    have f_c3 : decide (e.kind = 3) = true := by simp at h_c3; simp; omega
                    have f_t : decide (e.text = ⟨#[]⟩) = true := by exact h_t
                    exact Need.mk ⟨[], _, .same, fin (by simp [entOk, f_k, f_s1, f_s2, f_su, f_tx, f_c1, f_c2, f_c3, f_t]), rfl⟩ trivial
              · refine Split.mk fun t h_t => ?_
                rw [bytes_beq] at h_t
                cases t
                · have f_k : keyOk e.key = true := by exact h_k
                  have f_s1 : decide (1 ≤ e.seq) = true := by simp at h_s1; simp; omega
                  have f_s2 : decide (e.seq ≤ 100000) = true := by simp at h_s2; simp; omega
                  have f_su : sumOk e.n = true := by exact h_su
                  have f_tx : decide (e.text.size ≤ 60) = true := by simp at h_tx; simp; omega
                  have f_c1 : decide (e.kind = 1) = false := by simp at h_c1; simp; omega
                  have f_c2 : decide (e.kind = 2) = true := by simp at h_c2; simp; omega
                  have f_t : decide (e.text = ⟨#[]⟩) = false := by exact h_t
                  exact Need.mk ⟨[], _, .same, fin (by simp [entOk, f_k, f_s1, f_s2, f_su, f_tx, f_c1, f_c2, f_t]), rfl⟩ trivial
                · refine Split.mk fun t h_z => ?_
                  cases t
                  · have f_k : keyOk e.key = true := by exact h_k
                    have f_s1 : decide (1 ≤ e.seq) = true := by simp at h_s1; simp; omega
                    have f_s2 : decide (e.seq ≤ 100000) = true := by simp at h_s2; simp; omega
                    have f_su : sumOk e.n = true := by exact h_su
                    have f_tx : decide (e.text.size ≤ 60) = true := by simp at h_tx; simp; omega
                    have f_c1 : decide (e.kind = 1) = false := by simp at h_c1; simp; omega
                    have f_c2 : decide (e.kind = 2) = true := by simp at h_c2; simp; omega
                    have f_t : decide (e.text = ⟨#[]⟩) = true := by exact h_t
                    have f_z : decide (e.n = 0) = false := by simp at h_z; simp; omega
                    have f_c3 : decide (e.kind = 3) = false := by simp at h_c2; simp; omega
                    exact Need.mk ⟨[], _, .same, fin (by simp [entOk, f_k, f_s1, f_s2, f_su, f_tx, f_c1, f_c2, f_t, f_z, f_c3]), rfl⟩ trivial
                  · have f_k : keyOk e.key = true := by exact h_k
                    have f_s1 : decide (1 ≤ e.seq) = true := by simp at h_s1; simp; omega
                    have f_s2 : decide (e.seq ≤ 100000) = true := by simp at h_s2; simp; omega
                    have f_su : sumOk e.n = true := by exact h_su
                    have f_tx : decide (e.text.size ≤ 60) = true := by simp at h_tx; simp; omega
                    have f_c1 : decide (e.kind = 1) = false := by simp at h_c1; simp; omega
                    have f_c2 : decide (e.kind = 2) = true := by simp at h_c2; simp; omega
                    have f_t : decide (e.text = ⟨#[]⟩) = true := by exact h_t
                    have f_z : decide (e.n = 0) = true := by simp at h_z; simp; omega
                    exact Need.mk ⟨[], _, .same, fin (by simp [entOk, f_k, f_s1, f_s2, f_su, f_tx, f_c1, f_c2, f_t, f_z]), rfl⟩ trivial
            · have f_k : keyOk e.key = true := by exact h_k
              have f_s1 : decide (1 ≤ e.seq) = true := by simp at h_s1; simp; omega
              have f_s2 : decide (e.seq ≤ 100000) = true := by simp at h_s2; simp; omega
              have f_su : sumOk e.n = true := by exact h_su
              have f_tx : decide (e.text.size ≤ 60) = true := by simp at h_tx; simp; omega
              have f_c1 : decide (e.kind = 1) = true := by simp at h_c1; simp; omega
              exact Need.mk ⟨[], _, .same, fin (by simp [entOk, f_k, f_s1, f_s2, f_su, f_tx, f_c1]), rfl⟩ trivial
          · have f_k : keyOk e.key = true := by exact h_k
            have f_s1 : decide (1 ≤ e.seq) = true := by simp at h_s1; simp; omega
            have f_s2 : decide (e.seq ≤ 100000) = true := by simp at h_s2; simp; omega
            have f_su : sumOk e.n = true := by exact h_su
            have f_tx : decide (e.text.size ≤ 60) = false := by simp at h_tx; simp; omega
            exact Need.mk ⟨[], _, .same, fin (by simp [entOk, f_k, f_s1, f_s2, f_su, f_tx]), rfl⟩ trivial
      · have f_k : keyOk e.key = true := by exact h_k
        have f_s1 : decide (1 ≤ e.seq) = true := by simp at h_s1; simp; omega
        have f_s2 : decide (e.seq ≤ 100000) = false := by simp at h_s2; simp; omega
        exact Need.mk ⟨[], _, .same, fin (by simp [entOk, f_k, f_s1, f_s2]), rfl⟩ trivial
    · have f_k : keyOk e.key = true := by exact h_k
      have f_s1 : decide (1 ≤ e.seq) = false := by simp at h_s1; simp; omega
      exact Need.mk ⟨[], _, .same, fin (by simp [entOk, f_k, f_s1]), rfl⟩ trivial
end Go.Proofs.Yteddoandjgjleaa

namespace Go.Proofs.Yteddoandjgjleaa
open Go Go.Proofs Ev
set_option maxRecDepth 100000
set_option maxHeartbeats 1000000
theorem impl_inOrder (xs : List Ent) (hx : OkE xs) (hxl : xs.length ≤ 1099511627776) : AFn Try.prog 102 [sl (xs.map Ent.enc)] [] (rb (ordOk xs)) [] := by
  refine AFn.introX (E := En 0 md0) (en_ok 0 md0) Try.func102 rfl rfl rfl fun _ _ => ?_
  have fin : ∀ {c : Bool}, c = ordOk xs → rb c = rb (ordOk xs) := fun h => by rw [h]
  refine ALoop.mk (fun m s => ∃ i : Nat, i ≤ xs.length ∧ m = xs.length - i ∧ (∀ (j : Nat) (h : j < xs.length), j < i → entOk xs[j] = true ∧ (∀ k (hk : k + 1 = j), eLess (xs[k]'(by omega)) xs[j] = true)) ∧
      s = ⟨some (sl (xs.map Ent.enc)) :: none :: some (av (.bool false)) :: none :: none :: some (sl (xs.map Ent.enc)) :: some (av (.int .i64 xs.length)) :: some (av (.int .i64 i)) :: List.replicate 22 none, List.replicate 30 absent⟩)
    ⟨xs.length, _, Weak.nrm [true, false, true, false, false, true, true, true] [] rfl rfl rfl, 0, Nat.zero_le _, rfl, by intro j h hj; omega, by rw [show ((xs.length : Nat) : Int) = ((xs.map Ent.enc).length : Nat) by rw [List.length_map]]; rfl⟩ ?_
  rintro m s ⟨i, hi, rfl, hall, rfl⟩
  refine Split.mk fun t ht => ?_
  cases t
  · have hin : i = xs.length := by simp at ht; omega
    subst hin
    exact Need.mk ⟨[], _, .same, fin ((ordOk_iff xs).2 fun j h => hall j h h).symm, rfl⟩ trivial
  have hia : i < xs.length := by simpa using ht
  refine Need.mk (by omega) ?_
  refine Row.mk _ (map_get _ xs i hia) ?_
  refine ACall.mk _ _ (impl_EntryOk xs[i] (hx _ (List.getElem_mem _))) ?_
  refine Split.mk fun t h1 => ?_
  cases t
  · refine Need.mk rfl ?_
    exact Need.mk ⟨[], _, .same, fin (ordOk_bad hia (.inl h1)).symm, rfl⟩ trivial
  refine Split.mk fun t h2 => ?_
  cases t
  · have h0 : i = 0 := by simp at h2; omega
    refine Need.mk rfl ?_
    refine Num.mk _ (wrapS (by omega)) ?_
    refine ⟨xs.length - (i + 1), _, by omega, Weak.nrm [true, false, true, false, false, true, true, true] [] rfl rfl rfl, i + 1, by omega, rfl, fun j h hj => ?_, rfl⟩
    have : j = i := by omega
    subst this
    exact ⟨h1, fun k hk => by omega⟩
  · have h0 : 0 < i := by simp at h2; omega
    refine Num.mk ((i - 1 : Nat) : Int) (wrapI' (by omega) (by omega)) ?_
    refine Need.mk (by omega) ?_
    refine Row.mk _ (map_get _ xs (i - 1) (by omega)) ?_
    refine ACall.mk _ _ (impl_EntryLess (xs[i - 1]'(by omega)) xs[i]) ?_
    refine Split.mk fun t h3 => ?_
    cases t
    · refine Need.mk rfl ?_
      exact Need.mk ⟨[], _, .same, fin (ordOk_bad hia (.inr ⟨i - 1, by omega, h3⟩)).symm, rfl⟩ trivial
    · refine Need.mk rfl ?_
      refine Num.mk _ (wrapS (by omega)) ?_
      refine ⟨xs.length - (i + 1), _, by omega, Weak.nrm [true, false, true, false, false, true, true, true] [] rfl rfl rfl, i + 1, by omega, rfl, fun j h hj => ?_, rfl⟩
      by_cases hji : j = i
      · subst hji
        refine ⟨h1, fun k hk => ?_⟩
        have : k = j - 1 := by omega
        subst this
        exact h3
      · exact hall j h (by omega)
theorem spec_l4Right (xs : List Ent) (hx : OkE xs) (hxl : xs.length ≤ 1099511627776) : AFn Try.prog 99 [sl (xs.map Ent.enc)] [] (rb (ordOk xs)) [] := by
  refine AFn.introX (E := En 0 md0) (en_ok 0 md0) Try.func99 rfl rfl rfl fun _ _ => ?_
  have fin : ∀ {c : Bool}, c = ordOk xs → rb c = rb (ordOk xs) := fun h => by rw [h]
  have hn : (xs.map Ent.enc).length = xs.length := List.length_map ..
  refine ALoop.mk (fun m s => ∃ i : Nat, i ≤ xs.length ∧ m = xs.length - i ∧ (∀ (j : Nat) (h : j < xs.length), j < i → entOk xs[j] = true ∧ (∀ k (hk : k + 1 = j), eLess (xs[k]'(by omega)) xs[j] = true)) ∧
      s = ⟨some (sl (xs.map Ent.enc)) :: none :: some (av (.bool false)) :: some (av (.int .i64 i)) :: List.replicate 29 none, List.replicate 33 absent⟩)
    ⟨xs.length, _, Weak.nrm [true, false, true, true] [] rfl rfl rfl, 0, Nat.zero_le _, rfl, by intro j h hj; omega, rfl⟩ ?_
  rintro m s ⟨i, hi, rfl, hall, rfl⟩
  refine Split.mk fun t ht => ?_
  rw [hn] at ht
  cases t
  · have hin : i = xs.length := by simp at ht; omega
    subst hin
    exact Need.mk ⟨[], _, .same, fin ((ordOk_iff xs).2 fun j h => hall j h h).symm, rfl⟩ trivial
  have hia : i < xs.length := by simpa using ht
  refine Need.mk (by omega) ?_
  refine Row.mk _ (map_get _ xs i hia) ?_
  refine ACall.mk _ _ (spec_EntryOk xs[i] (hx _ (List.getElem_mem _))) ?_
  refine Split.mk fun t h1 => ?_
  cases t
  · refine Need.mk rfl ?_
    exact Need.mk ⟨[], _, .same, fin (ordOk_bad hia (.inl h1)).symm, rfl⟩ trivial
  refine Split.mk fun t h2 => ?_
  cases t
  · have h0 : i = 0 := by simp at h2; omega
    refine Need.mk rfl ?_
    refine Num.mk _ (wrapS (by omega)) ?_
    refine ⟨xs.length - (i + 1), _, by omega, Weak.nrm [true, false, true, true] [] rfl rfl rfl, i + 1, by omega, rfl, fun j h hj => ?_, rfl⟩
    have : j = i := by omega
    subst this
    exact ⟨h1, fun k hk => by omega⟩
  · have h0 : 0 < i := by simp at h2; omega
    refine Num.mk ((i - 1 : Nat) : Int) (wrapI' (by omega) (by omega)) ?_
    refine Need.mk (by omega) ?_
    refine Row.mk _ (map_get _ xs (i - 1) (by omega)) ?_
    refine Need.mk (by omega) ?_
    refine Row.mk _ (map_get _ xs i hia) ?_
    refine ACall.mk _ _ (spec_EntryLess (xs[i - 1]'(by omega)) xs[i]) ?_
    refine Split.mk fun t h3 => ?_
    cases t
    · refine Need.mk rfl ?_
      exact Need.mk ⟨[], _, .same, fin (ordOk_bad hia (.inr ⟨i - 1, by omega, h3⟩)).symm, rfl⟩ trivial
    · refine Need.mk rfl ?_
      refine Num.mk _ (wrapS (by omega)) ?_
      refine ⟨xs.length - (i + 1), _, by omega, Weak.nrm [true, false, true, true] [] rfl rfl rfl, i + 1, by omega, rfl, fun j h hj => ?_, rfl⟩
      by_cases hji : j = i
      · subst hji
        refine ⟨h1, fun k hk => ?_⟩
        have : k = j - 1 := by omega
        subst this
        exact h3
      · exact hall j h (by omega)
end Go.Proofs.Yteddoandjgjleaa

namespace Go.Proofs.Yteddoandjgjleaa
open Go Go.Proofs Ev
set_option maxRecDepth 100000
def CmpOk (f : FuncId) (lt : Ent → Ent → Bool) : Prop := ∃ ord : Ent → Ent → Int, (∀ x y, decide (ord x y < 0) = lt x y) ∧ ∀ x y, AFn Try.prog f [.agg (x.enc.map .c), .agg (y.enc.map .c)] [] (.one (vi (ord x y))) []
theorem slices_insertionSort (f : FuncId) (lt : Ent → Ent → Bool) (hf : CmpOk f lt) (xs : List Ent) (a b : Nat) (hab : a ≤ b) (hb : b ≤ xs.length) (hx : xs.length ≤ 1099511627776) :
    AFn Try.prog 136 [.one (.ref 0 0 (.cell 0)), av (.int .i64 a), av (.int .i64 b), av (.func (.func f) #[] #[])] [[.us 82 (xs.map Ent.enc)]] (.tup []) [[.us 82 ((sortRange lt xs a b).map Ent.enc)]] := by
  obtain ⟨ord, hord, hfn⟩ := hf
  refine AFn.introX (E := En 1 md0) (en_ok 1 _) Try.func136 rfl rfl rfl fun _ hs => ?_
  let S : List Ent → Nat → Option AV → St := fun ys i j => ⟨some (.one (.ref 0 0 (.cell 0))) :: some (av (.int .i64 a)) :: some (av (.int .i64 b)) :: some (av (.func (.func f) #[] #[])) :: none :: none :: none :: none :: some (av (.int .i64 i)) :: j :: List.replicate 43 none, ⟨0, 1, some [.us 82 (ys.map Ent.enc)]⟩ :: List.replicate 53 absent⟩
  refine Num.mk _ (wrapS (by omega)) ?_
  refine ALoop.mk (fun n s => ∃ i : Nat, n = b - i ∧ a < i ∧ (i ≤ b ∨ i = a + 1) ∧ s = S (sortRange lt xs a (min i b)) i none)
    ⟨b - (a + 1), _, Weak.nrm [true, true, true, true, false, false, false, false, true] [(0, 0)] rfl rfl rfl, a + 1, rfl, by omega, .inr rfl, ?_⟩ ?_
  · have : sortRange lt xs a (min (a + 1) b) = xs := by
      by_cases h : a < b
      · rw [Nat.min_eq_left (by omega), sortRange_one lt (by omega)]
      · rw [Nat.min_eq_right (by omega), show b = a by omega, sortRange_self]
    rw [this]; rfl
  rintro n s ⟨i, rfl, hai, hib, hs⟩
  by_cases hi : b ≤ i
  · rw [Nat.min_eq_right hi] at hs
    subst hs
    refine Split.mk fun t ht => ?_
    cases t
    · exact Need.mk ⟨[], _, .same, rfl, rfl⟩ trivial
    · simp at ht; omega
  · have hix : i < xs.length := by omega
    rw [Nat.min_eq_left (by omega), sortRange_split lt hix] at hs
    have hex : ∃ acc, isort lt ((xs.drop a).take (i - a)) = acc := ⟨_, rfl⟩
    obtain ⟨acc, hacc⟩ := hex
    rw [hacc] at hs
    subst hs
    have hal : acc.length = i - a := by rw [← hacc, isort_len, List.length_take, List.length_drop]; omega
    have hpl : (xs.take a).length = a := by rw [List.length_take]; omega
    refine Split.mk fun t ht => ?_
    cases t
    · simp at ht; omega
    refine ALoop.mk (fun n s => ∃ (u v : List Ent), n = u.length ∧ u.length + v.length = i - a ∧ ins lt u xs[i] ++ v = ins lt acc xs[i] ∧ s = S (xs.take a ++ u ++ xs[i] :: (v ++ xs.drop (i + 1))) i (some (av (.int .i64 ((a + u.length : Nat) : Int)))))
      ⟨acc.length, _, Weak.nrm [true, true, true, true, false, false, false, false, true, true] [(0, 0)] rfl rfl rfl, acc, [], rfl, by simp [hal], by simp, ?_⟩ ?_
    · rw [show a + acc.length = i by omega]; rfl
    rintro n s ⟨u, v, rfl, hl, hins, hs⟩
    have stop : ins lt u xs[i] = u ++ [xs[i]] → xs.take a ++ u ++ xs[i] :: (v ++ xs.drop (i + 1)) = sortRange lt xs a (min (i + 1) b) := fun h => by
      rw [Nat.min_eq_left (by omega), sortRange_succ lt (by omega) hix, hacc, ← hins, h]; simp
    by_cases hu : u = []
    · rw [stop (by rw [hu]; rfl), hu] at hs
      clear stop hins hl hacc hal hpl
      subst hs
      refine Split.mk fun t ht2 => ?_
      cases t
      · refine Need.mk rfl ?_
        refine Num.mk _ (wrapS (by omega)) ?_
        exact ⟨b - (i + 1), _, by omega, Weak.nrm [true, true, true, true, false, false, false, false, true] [(0, 0)] rfl rfl rfl, i + 1, rfl, by omega, .inl (by omega), rfl⟩
      · simp at ht2
    · have hsn := snoc_of (List.length_pos_iff.2 hu)
      obtain ⟨u', x, hu⟩ := hsn
      subst hu
      have hul : (u' ++ [x]).length = u'.length + 1 := by simp
      by_cases hlt : lt xs[i] x = false
      · skip
        have g1 : ((sortRange lt xs a (min (i + 1) b)).map Ent.enc)[a + (u' ++ [x]).length]? = some xs[i].enc := by
          rw [← stop (ins_stop lt _ _ _ hlt), List.getElem?_map, get_mid (by rw [hpl])]; rfl
        have g2 : ((sortRange lt xs a (min (i + 1) b)).map Ent.enc)[a + u'.length]? = some x.enc := by
          rw [← stop (ins_stop lt _ _ _ hlt), show xs.take a ++ (u' ++ [x]) ++ xs[i] :: (v ++ xs.drop (i + 1)) = xs.take a ++ u' ++ x :: (xs[i] :: (v ++ xs.drop (i + 1))) by simp, List.getElem?_map, get_mid (by rw [hpl])]; rfl
        rw [stop (ins_stop lt _ _ _ hlt)] at hs
        have hlen : ((sortRange lt xs a (min (i + 1) b)).map Ent.enc).length = xs.length := by rw [List.length_map, sortRange_len lt (by omega) (by omega)]
        clear stop hins hacc
        subst hs
        refine Split.mk fun t ht2 => ?_
        cases t
        · simp at ht2; omega
        refine Need.mk ⟨by omega, by rw [hlen]; omega⟩ ?_
        refine Row.mk _ g1 ?_
        refine Num.mk ((a + u'.length : Nat) : Int) (by rw [IntKind.wrap_i64]; omega) ?_
        refine Need.mk ⟨by omega, by rw [hlen]; omega⟩ ?_
        refine Row.mk _ g2 ?_
        refine ACall.mk _ _ (hfn xs[i] x) ?_
        refine Split.mk fun t ht3 => ?_
        rw [hord, hlt] at ht3
        subst ht3
        refine Need.mk rfl ?_
        refine Num.mk _ (wrapS (by omega)) ?_
        exact ⟨b - (i + 1), _, by omega, Weak.nrm [true, true, true, true, false, false, false, false, true] [(0, 0)] rfl rfl rfl, i + 1, rfl, by omega, .inl (by omega), rfl⟩
      · have hlt : lt xs[i] x = true := by simpa using hlt
        clear stop
        have hins' : ins lt u' xs[i] ++ (x :: v) = ins lt acc xs[i] := by rw [← hins, ins_step lt _ _ _ hlt]; simp
        clear hins hacc
        have hex : ∃ ys, xs.take a ++ (u' ++ [x]) ++ xs[i] :: (v ++ xs.drop (i + 1)) = ys := ⟨_, rfl⟩
        obtain ⟨ys, hys⟩ := hex
        rw [hys] at hs
        have e1 : xs.take a ++ u' ++ x :: (xs[i] :: (v ++ xs.drop (i + 1))) = ys := by rw [← hys]; simp
        have g1 : (ys.map Ent.enc)[a + (u' ++ [x]).length]? = some xs[i].enc := by
          rw [← hys, List.getElem?_map, get_mid (by rw [hpl])]; rfl
        have g2 : (ys.map Ent.enc)[a + u'.length]? = some x.enc := by
          rw [← e1, List.getElem?_map, get_mid (by rw [hpl])]; rfl
        have hlen : (ys.map Ent.enc).length = xs.length := by rw [← hys]; simp at hl ⊢; omega
        have e2 : ((ys.map Ent.enc).set (a + (u' ++ [x]).length) x.enc).set (a + u'.length) xs[i].enc = (xs.take a ++ u' ++ xs[i] :: (x :: v ++ xs.drop (i + 1))).map Ent.enc := by
          rw [← List.map_set, ← List.map_set, ← hys, set_mid (by rw [hpl]), show xs.take a ++ (u' ++ [x]) ++ x :: (v ++ xs.drop (i + 1)) = xs.take a ++ u' ++ x :: (x :: (v ++ xs.drop (i + 1))) by simp, set_mid (by rw [hpl])]; rfl
        have g3 : ((ys.map Ent.enc).set (a + (u' ++ [x]).length) x.enc)[a + u'.length]? = some x.enc := by
          rw [List.getElem?_set_ne (by omega)]; exact g2
        have hlen2 : ((ys.map Ent.enc).set (a + (u' ++ [x]).length) x.enc).length = xs.length := by rw [List.length_set, hlen]
        clear hys e1
        subst hs
        refine Split.mk fun t ht2 => ?_
        cases t
        · simp at ht2; omega
        refine Need.mk ⟨by omega, by rw [hlen]; omega⟩ ?_
        refine Row.mk _ g1 ?_
        refine Num.mk ((a + u'.length : Nat) : Int) (by rw [IntKind.wrap_i64]; omega) ?_
        refine Need.mk ⟨by omega, by rw [hlen]; omega⟩ ?_
        refine Row.mk _ g2 ?_
        refine ACall.mk _ _ (hfn xs[i] x) ?_
        refine Split.mk fun t ht3 => ?_
        rw [hord, hlt] at ht3
        subst ht3
        refine Need.mk rfl ?_
        have hnum : IntKind.i64.wrap (((a + (u' ++ [x]).length : Nat) : Int) - 1) = ((a + u'.length : Nat) : Int) := by rw [IntKind.wrap_i64]; omega
        refine Num.mk _ hnum ?_
        refine Num.mk _ hnum ?_
        refine Need.mk ⟨by omega, by rw [hlen]; omega⟩ ?_
        refine Row.mk _ g2 ?_
        refine Need.mk ⟨by omega, by rw [hlen]; omega⟩ ?_
        refine Row.mk _ g1 ?_
        refine Need.mk ⟨by omega, by rw [hlen]; omega⟩ ?_
        refine Row.mk _ g1 ?_
        refine Need.mk ⟨by omega, show ((a + u'.length : Nat) : Int) < ((((ys.map Ent.enc).set (a + (u' ++ [x]).length) x.enc).length : Nat) : Int) from by rw [hlen2]; omega⟩ ?_
        refine Row.mk _ g3 ?_
        refine Need.mk rfl ?_
        refine Num.mk _ hnum ?_
        refine ⟨u'.length, _, by omega, Weak.nrm [true, true, true, true, false, false, false, false, true, true] [(0, 0)] rfl rfl rfl, u', x :: v, rfl, by simp at hl ⊢; omega, hins', ?_⟩
        refine Eq.trans (b := ⟨some (.one (.ref 0 0 (.cell 0))) :: some (av (.int .i64 a)) :: some (av (.int .i64 b)) :: some (av (.func (.func f) #[] #[])) :: none :: none :: none :: none :: some (av (.int .i64 i)) :: some (av (.int .i64 ((a + u'.length : Nat) : Int))) :: List.replicate 43 none, ⟨0, 1, some [.us 82 (((ys.map Ent.enc).set (a + (u' ++ [x]).length) x.enc).set (a + u'.length) xs[i].enc)]⟩ :: List.replicate 53 absent⟩) rfl ?_
        rw [e2]
end Go.Proofs.Yteddoandjgjleaa

namespace Go.Proofs.Yteddoandjgjleaa
open Go Go.Proofs Ev
set_option maxRecDepth 100000
theorem slices_swapRange (f : FuncId) (x p m q y : List Ent) (h : p.length = q.length) (hx : x.length + p.length + m.length + q.length + y.length ≤ 1099511627776) :
    AFn Try.prog 144 [.one (.ref 0 0 (.cell 0)), av (.int .i64 x.length), av (.int .i64 ((x.length + p.length + m.length : Nat) : Int)), av (.int .i64 p.length), av (.func (.func f) #[] #[])] [[.us 82 ((x ++ p ++ m ++ q ++ y).map Ent.enc)]] (.tup []) [[.us 82 ((x ++ q ++ m ++ p ++ y).map Ent.enc)]] := by
  refine AFn.introX (E := En 1 md0) (en_ok 1 _) Try.func144 rfl rfl rfl fun _ hs => ?_
  let S : List (List C) → Nat → St := fun rows i => ⟨some (.one (.ref 0 0 (.cell 0))) :: some (av (.int .i64 x.length)) :: some (av (.int .i64 ((x.length + p.length + m.length : Nat) : Int))) :: some (av (.int .i64 p.length)) :: none :: none :: none :: none :: none :: none :: some (av (.int .i64 i)) :: List.replicate 27 none, ⟨0, 1, some [.us 82 rows]⟩ :: List.replicate 38 absent⟩
  refine ALoop.mk (fun n s => ∃ i : Nat, i ≤ p.length ∧ n = p.length - i ∧ s = S ((swZ x p m q y i).map Ent.enc) i)
    ⟨p.length, _, Weak.nrm [true, true, true, true, false, false, false, false, false, false, true] [(0, 0)] rfl rfl rfl, 0, Nat.zero_le _, rfl, ?_⟩ ?_
  · rw [swZ_zero]; rfl
  rintro n s ⟨i, hi, rfl, hs⟩
  by_cases hia : i = p.length
  · subst hia
    rw [swZ_end x p m q y h] at hs
    subst hs
    refine Split.mk fun t ht => ?_
    cases t
    · exact Need.mk ⟨[], _, .same, rfl, rfl⟩ trivial
    · simp at ht
  · have hil : i < p.length := by omega
    have g1 : ((swZ x p m q y i).map Ent.enc)[x.length + i]? = some p[i].enc := by rw [List.getElem?_map, swZ_get1 h hil]; rfl
    have g2 : ((swZ x p m q y i).map Ent.enc)[x.length + p.length + m.length + i]? = some (q[i]'(by omega)).enc := by rw [List.getElem?_map, swZ_get2 h hil]; rfl
    have g3 : (((swZ x p m q y i).map Ent.enc).set (x.length + i) (q[i]'(by omega)).enc)[x.length + p.length + m.length + i]? = some (q[i]'(by omega)).enc := by rw [← List.map_set, List.getElem?_map, swZ_get3 h hil]; rfl
    have e2 : (((swZ x p m q y i).map Ent.enc).set (x.length + i) (q[i]'(by omega)).enc).set (x.length + p.length + m.length + i) p[i].enc = (swZ x p m q y (i + 1)).map Ent.enc := by rw [← List.map_set, ← List.map_set, swZ_set2 h hil]
    have hlen : ((swZ x p m q y i).map Ent.enc).length = x.length + p.length + m.length + q.length + y.length := by rw [List.length_map, swZ_len _ _ _ _ _ _ h]
    have hlen2 : (((swZ x p m q y i).map Ent.enc).set (x.length + i) (q[i]'(by omega)).enc).length = x.length + p.length + m.length + q.length + y.length := by rw [List.length_set, hlen]
    have n1 : IntKind.i64.wrap ((x.length : Int) + (i : Int)) = ((x.length + i : Nat) : Int) := by rw [IntKind.wrap_i64]; omega
    have n2 : IntKind.i64.wrap (((x.length + p.length + m.length : Nat) : Int) + (i : Int)) = ((x.length + p.length + m.length + i : Nat) : Int) := by rw [IntKind.wrap_i64]; omega
    subst hs
    refine Split.mk fun t ht => ?_
    cases t
    · simp at ht; omega
    refine Num.mk _ n1 ?_
    refine Num.mk _ n2 ?_
    refine Num.mk _ n2 ?_
    refine Need.mk ⟨by omega, by rw [hlen]; omega⟩ ?_
    refine Row.mk _ g2 ?_
    refine Num.mk _ n1 ?_
    refine Need.mk ⟨by omega, by rw [hlen]; omega⟩ ?_
    refine Row.mk _ g1 ?_
    refine Need.mk ⟨by omega, by rw [hlen]; omega⟩ ?_
    refine Row.mk _ g1 ?_
    refine Need.mk ⟨by omega, show ((x.length + p.length + m.length + i : Nat) : Int) < (((((swZ x p m q y i).map Ent.enc).set (x.length + i) (q[i]'(by omega)).enc).length : Nat) : Int) from by rw [hlen2]; omega⟩ ?_
    refine Row.mk _ g3 ?_
    refine Need.mk rfl ?_
    refine Num.mk _ (wrapS (by omega)) ?_
    refine ⟨p.length - (i + 1), _, by omega, Weak.nrm [true, true, true, true, false, false, false, false, false, false, true] [(0, 0)] rfl rfl rfl, i + 1, by omega, rfl, ?_⟩
    refine Eq.trans (b := S ((((swZ x p m q y i).map Ent.enc).set (x.length + i) (q[i]'(by omega)).enc).set (x.length + p.length + m.length + i) p[i].enc) (i + 1)) rfl ?_
    rw [e2]
theorem slices_swapRange' (f : FuncId) (x p m q y : List Ent) (l r : List Ent) (a b n : Nat) (hl : l = x ++ p ++ m ++ q ++ y) (hr : r = x ++ q ++ m ++ p ++ y) (ha : a = x.length) (hb : b = x.length + p.length + m.length) (hn : n = p.length) (h : p.length = q.length) (hx : l.length ≤ 1099511627776) :
    AFn Try.prog 144 [.one (.ref 0 0 (.cell 0)), av (.int .i64 a), av (.int .i64 b), av (.int .i64 n), av (.func (.func f) #[] #[])] [[.us 82 (l.map Ent.enc)]] (.tup []) [[.us 82 (r.map Ent.enc)]] := by
  subst hl hr ha hb hn
  exact slices_swapRange f x p m q y h (by simpa [Nat.add_assoc] using hx)
end Go.Proofs.Yteddoandjgjleaa

namespace Go.Proofs.Yteddoandjgjleaa
open Go Go.Proofs Ev
set_option maxRecDepth 100000
theorem slices_rotate (f : FuncId) (x u v y l r : List Ent) (a m b : Nat) (hl : l = x ++ u ++ v ++ y) (hr : r = x ++ v ++ u ++ y) (ha : a = x.length) (hm : m = x.length + u.length) (hb : b = x.length + u.length + v.length) (hu : 0 < u.length) (hv : 0 < v.length) (hx : l.length ≤ 1099511627776) :
    AFn Try.prog 143 [.one (.ref 0 0 (.cell 0)), av (.int .i64 a), av (.int .i64 m), av (.int .i64 b), av (.func (.func f) #[] #[])] [[.us 82 (l.map Ent.enc)]] (.tup []) [[.us 82 (r.map Ent.enc)]] := by
  have hll : l.length = x.length + u.length + v.length + y.length := by rw [hl]; simp; omega
  refine AFn.introX (E := En 1 (md1 [144])) (en_ok 1 _) Try.func143 rfl rfl rfl fun _ hs => ?_
  let S : List Ent → Nat → Nat → St := fun ys i j => ⟨some (.one (.ref 0 0 (.cell 0))) :: some (av (.int .i64 a)) :: some (av (.int .i64 m)) :: some (av (.int .i64 b)) :: some (av (.func (.func f) #[] #[])) :: none :: none :: none :: none :: none :: some (av (.int .i64 i)) :: some (av (.int .i64 j)) :: List.replicate 46 none, ⟨0, 1, some [.us 82 (ys.map Ent.enc)]⟩ :: List.replicate 58 absent⟩
  refine Num.mk (u.length : Int) (by rw [IntKind.wrap_i64]; omega) ?_
  refine Num.mk (v.length : Int) (by rw [IntKind.wrap_i64]; omega) ?_
  refine ALoop.mk (fun n s => ∃ (x' u' v' y' : List Ent) (i j : Nat), n = i + j ∧ i = u'.length ∧ j = v'.length ∧ 0 < i ∧ 0 < j ∧ x'.length + i = m ∧ x'.length + i + j + y'.length = l.length ∧ x' ++ v' ++ u' ++ y' = r ∧ s = S (x' ++ u' ++ v' ++ y') i j)
    ⟨u.length + v.length, _, Weak.nrm [true, true, true, true, true, false, false, false, false, false, true, true] [(0, 0)] rfl rfl rfl, x, u, v, y, u.length, v.length, rfl, rfl, rfl, hu, hv, by omega, by omega, hr.symm, by rw [← hl]; rfl⟩ ?_
  rintro n s ⟨x', u', v', y', i, j, rfl, hi, hj, hi0, hj0, hmm, htot, htar, hs⟩
  have hlen' : (x' ++ u' ++ v' ++ y').length ≤ 1099511627776 := by simp; omega
  by_cases hij : i = j
  · have hcall := slices_swapRange' f x' u' [] v' y' (x' ++ u' ++ v' ++ y') r (m - i) m i (by simp) (by rw [← htar]; simp) (by omega) (by simp; omega) hi (by omega) hlen'
    subst hs
    refine Split.mk fun t ht => ?_
    cases t
    · refine Num.mk ((m - i : Nat) : Int) (by rw [IntKind.wrap_i64]; omega) ?_
      refine ACall.mk _ _ hcall ?_
      exact Need.mk ⟨[], _, .same, rfl, rfl⟩ trivial
    · simp at ht; omega
  · by_cases hgt : j < i
    · have e1 : u' = u'.take j ++ u'.drop j := (List.take_append_drop j u').symm
      have l1 : (u'.take j).length = j := by rw [List.length_take]; omega
      have l2 : (u'.drop j).length = i - j := by rw [List.length_drop]; omega
      have hcall := slices_swapRange' f x' (u'.take j) (u'.drop j) v' y' (x' ++ u' ++ v' ++ y') (x' ++ v' ++ u'.drop j ++ u'.take j ++ y') (m - i) m j (by rw [List.append_assoc x' (u'.take j), List.take_append_drop]) rfl (by omega) (by omega) l1.symm (by omega) hlen'
      have htar2 : x' ++ v' ++ u'.take j ++ u'.drop j ++ y' = r := by rw [List.append_assoc (x' ++ v') (u'.take j), List.take_append_drop, htar]
      subst hs
      refine Split.mk fun t ht => ?_
      cases t
      · simp at ht; omega
      refine Split.mk fun t ht2 => ?_
      cases t
      · simp at ht2; omega
      refine Num.mk ((m - i : Nat) : Int) (by rw [IntKind.wrap_i64]; omega) ?_
      refine ACall.mk _ _ hcall ?_
      refine Num.mk ((i - j : Nat) : Int) (by rw [IntKind.wrap_i64]; omega) ?_
      exact ⟨i - j + j, _, by omega, Weak.nrm [true, true, true, true, true, false, false, false, false, false, true, true] [(0, 0)] rfl rfl rfl, x' ++ v', u'.drop j, u'.take j, y', i - j, j, rfl, l2.symm, l1.symm, by omega, by omega, by simp; omega, by simp; omega, htar2, rfl⟩
    · have l1 : (v'.take (j - i)).length = j - i := by rw [List.length_take]; omega
      have l2 : (v'.drop (j - i)).length = i := by rw [List.length_drop]; omega
      have hcall := slices_swapRange' f x' u' (v'.take (j - i)) (v'.drop (j - i)) y' (x' ++ u' ++ v' ++ y') (x' ++ v'.drop (j - i) ++ v'.take (j - i) ++ (u' ++ y')) (m - i) (m + j - i) i (by rw [List.append_assoc (x' ++ u') (v'.take (j - i)), List.take_append_drop]) (by simp) (by omega) (by omega) hi (by omega) hlen'
      have htar2 : x' ++ v'.take (j - i) ++ v'.drop (j - i) ++ (u' ++ y') = r := by rw [List.append_assoc x' (v'.take (j - i)), List.take_append_drop, ← List.append_assoc, htar]
      subst hs
      refine Split.mk fun t ht => ?_
      cases t
      · simp at ht; omega
      refine Split.mk fun t ht2 => ?_
      cases t
      · refine Num.mk ((m - i : Nat) : Int) (by rw [IntKind.wrap_i64]; omega) ?_
        refine Num.mk ((m + j : Nat) : Int) (by rw [IntKind.wrap_i64]; omega) ?_
        refine Num.mk ((m + j - i : Nat) : Int) (by rw [IntKind.wrap_i64]; omega) ?_
        refine ACall.mk _ _ hcall ?_
        refine Num.mk ((j - i : Nat) : Int) (by rw [IntKind.wrap_i64]; omega) ?_
        exact ⟨i + (j - i), _, by omega, Weak.nrm [true, true, true, true, true, false, false, false, false, false, true, true] [(0, 0)] rfl rfl rfl, x', v'.drop (j - i), v'.take (j - i), u' ++ y', i, j - i, rfl, l2.symm, l1.symm, by omega, by omega, by omega, by simp; omega, htar2, rfl⟩
      · simp at ht2; omega
end Go.Proofs.Yteddoandjgjleaa

namespace Go.Proofs.Yteddoandjgjleaa
open Go Go.Proofs Ev
set_option maxRecDepth 100000
def SymM (f : FuncId) (lt : Ent → Ent → Bool) (n : Nat) : Prop := ∀ (x c d y l r : List Ent) (a m b : Nat), l = x ++ c ++ d ++ y → r = x ++ mrg lt c d ++ y → a = x.length → m = x.length + c.length → b = x.length + c.length + d.length → 0 < c.length → 0 < d.length → Srt lt c → Srt lt d → c.length + d.length ≤ n → l.length ≤ 1099511627776 →
    AFn Try.prog 137 [.one (.ref 0 0 (.cell 0)), av (.int .i64 a), av (.int .i64 m), av (.int .i64 b), av (.func (.func f) #[] #[])] [[.us 82 (l.map Ent.enc)]] (.tup []) [[.us 82 (r.map Ent.enc)]]
set_option maxHeartbeats 4000000
theorem symMerge_left (f : FuncId) (lt : Ent → Ent → Bool) (hw : Wk lt) (hf : CmpOk f lt) (x c d y l r : List Ent) (a m b : Nat) (hl : l = x ++ c ++ d ++ y) (hr : r = x ++ mrg lt c d ++ y) (ha : a = x.length) (hm : m = x.length + c.length) (hb : b = x.length + c.length + d.length) (hc : c.length = 1) (hd : 0 < d.length) (sd : Srt lt d) (hx : l.length ≤ 1099511627776) :
    AFn Try.prog 137 [.one (.ref 0 0 (.cell 0)), av (.int .i64 a), av (.int .i64 m), av (.int .i64 b), av (.func (.func f) #[] #[])] [[.us 82 (l.map Ent.enc)]] (.tup []) [[.us 82 (r.map Ent.enc)]] := by
  obtain ⟨ord, hord, hfn⟩ := hf
  have hll : l.length = x.length + c.length + d.length + y.length := by rw [hl]; simp; omega
  refine AFn.introX (E := En 1 (md1 [137, 143])) (en_ok 1 _) Try.func137 rfl rfl rfl fun _ hs => ?_
  have hlm : (l.map Ent.enc).length = l.length := List.length_map ..
  have gd : ∀ k (hk : k < d.length), (l.map Ent.enc)[m + k]? = some d[k].enc := fun k hk => by rw [List.getElem?_map, hl, get_r (i := k) (by omega) hk]; rfl
  have gc : ∀ k (hk : k < c.length), (l.map Ent.enc)[a + k]? = some c[k].enc := fun k hk => by rw [List.getElem?_map, hl, get_l (i := k) (by omega) hk]; rfl
  refine Num.mk ((c.length : Nat) : Int) (wrapI' (by omega) (by omega)) ?_
  refine Split.mk fun t ht => ?_
  cases t
  · simp at ht; omega
  have he : ∃ e, c = [e] := by
    match c, hc with
    | [e], _ => exact ⟨e, rfl⟩
  obtain ⟨e, he⟩ := he
  subst he
  have ge : (l.map Ent.enc)[a]? = some e.enc := gc 0 (by simp)
  let S : Nat → Nat → St := fun i j => ⟨some (.one (.ref 0 0 (.cell 0))) :: some (av (.int .i64 a)) :: some (av (.int .i64 m)) :: some (av (.int .i64 b)) :: some (av (.func (.func f) #[] #[])) :: none :: none :: none :: none :: none :: some (av (.int .i64 i)) :: some (av (.int .i64 j)) :: List.replicate 208 none, ⟨0, 1, some [.us 82 (l.map Ent.enc)]⟩ :: List.replicate 220 absent⟩
  refine ALoop.mk (fun n s => ∃ p q : Nat, p ≤ q ∧ q ≤ d.length ∧ n = q - p ∧ (∀ k (hk : k < d.length), k < p → lt d[k] e = true) ∧ (∀ k (hk : k < d.length), q ≤ k → lt d[k] e = false) ∧ s = S (m + p) (m + q))
    ⟨d.length, _, Weak.nrm [true, true, true, true, true, false, false, false, false, false, true, true] [(0, 0)] rfl rfl rfl, 0, d.length, Nat.zero_le _, Nat.le_refl _, rfl, by intro k hk h; omega, by intro k hk h; omega, by rw [show m + d.length = b by omega]; rfl⟩ ?_
  rintro n s ⟨p, q, hpq, hq, rfl, h1, h2, hs⟩
  by_cases hlt : p < q
  · have hk : (p + q) / 2 < d.length := by omega
    by_cases hcmp : lt (d[(p + q) / 2]) e = true
    · have h1' : ∀ k (hk : k < d.length), k < (p + q) / 2 + 1 → lt d[k] e = true := fun k hk' hle => by
        cases hx' : lt d[k] e with
        | true => rfl
        | false => have := hw.nt _ _ _ (srt_get hw sd (i := k) (j := (p + q) / 2) (by omega) hk) hx'; rw [hcmp] at this; cases this
      subst hs
      refine Split.mk fun t ht => ?_
      cases t
      · simp at ht; omega
      refine Num.mk ((m + p + (m + q) : Nat) : Int) (wrapI' (by omega) (by omega)) ?_
      refine Num.mk _ (wrapU (by omega)) ?_
      refine Need.mk (by decide) ?_
      refine Num.mk _ (half (by omega)) ?_
      have hh : (m + p + (m + q)) / 2 = m + (p + q) / 2 := by omega
      refine Need.mk ⟨by omega, by rw [hlm]; omega⟩ ?_
      refine Row.mk _ (by show (l.map Ent.enc)[(m + p + (m + q)) / 2]? = _; rw [hh]; exact gd _ hk) ?_
      refine Need.mk ⟨by omega, by rw [hlm]; omega⟩ ?_
      refine Row.mk _ ge ?_
      refine ACall.mk _ _ (hfn _ e) ?_
      refine Split.mk fun t ht3 => ?_
      rw [hord, hcmp] at ht3
      subst ht3
      refine Need.mk rfl ?_
      refine Num.mk _ (wrapS (by omega)) ?_
      refine ⟨q - ((p + q) / 2 + 1), _, by omega, Weak.nrm [true, true, true, true, true, false, false, false, false, false, true, true] [(0, 0)] rfl rfl rfl, (p + q) / 2 + 1, q, by omega, hq, rfl, h1', h2, ?_⟩
      rw [show m + ((p + q) / 2 + 1) = (m + p + (m + q)) / 2 + 1 by omega]; rfl
    · have hcmp : lt (d[(p + q) / 2]) e = false := by simpa using hcmp
      have h2' : ∀ k (hk : k < d.length), (p + q) / 2 ≤ k → lt d[k] e = false := fun k hk' hle => hw.nt _ _ _ (srt_get hw sd (i := (p + q) / 2) (j := k) hle hk') hcmp
      subst hs
      refine Split.mk fun t ht => ?_
      cases t
      · simp at ht; omega
      refine Num.mk ((m + p + (m + q) : Nat) : Int) (wrapI' (by omega) (by omega)) ?_
      refine Num.mk _ (wrapU (by omega)) ?_
      refine Need.mk (by decide) ?_
      refine Num.mk _ (half (by omega)) ?_
      have hh : (m + p + (m + q)) / 2 = m + (p + q) / 2 := by omega
      refine Need.mk ⟨by omega, by rw [hlm]; omega⟩ ?_
      refine Row.mk _ (by show (l.map Ent.enc)[(m + p + (m + q)) / 2]? = _; rw [hh]; exact gd _ hk) ?_
      refine Need.mk ⟨by omega, by rw [hlm]; omega⟩ ?_
      refine Row.mk _ ge ?_
      refine ACall.mk _ _ (hfn _ e) ?_
      refine Split.mk fun t ht3 => ?_
      rw [hord, hcmp] at ht3
      subst ht3
      refine Need.mk rfl ?_
      refine ⟨(p + q) / 2 - p, _, by omega, Weak.nrm [true, true, true, true, true, false, false, false, false, false, true, true] [(0, 0)] rfl rfl rfl, p, (p + q) / 2, by omega, by omega, rfl, h1, h2', ?_⟩
      rw [← hh]; rfl
  · have hpq : q = p := by omega
    subst hpq
    have hfin : r = x ++ d.take q ++ e :: (d.drop q ++ y) := by rw [hr, mrg_one_l h1 h2]; simp
    have h0 : l = x ++ d.take 0 ++ e :: (d.drop 0 ++ y) := by rw [hl]; simp
    subst hs
    refine Split.mk fun t ht => ?_
    cases t
    · let S2 : List Ent → Nat → Nat → St := fun ys p k => ⟨some (.one (.ref 0 0 (.cell 0))) :: some (av (.int .i64 a)) :: some (av (.int .i64 m)) :: some (av (.int .i64 b)) :: some (av (.func (.func f) #[] #[])) :: none :: none :: none :: none :: none :: some (av (.int .i64 ((m + p : Nat) : Int))) :: none :: none :: some (av (.int .i64 k)) :: List.replicate 206 none, ⟨0, 1, some [.us 82 (ys.map Ent.enc)]⟩ :: List.replicate 220 absent⟩
      refine ALoop.mk (fun n s => ∃ t : Nat, t ≤ q ∧ n = q - t ∧ s = S2 (x ++ d.take t ++ e :: (d.drop t ++ y)) q (a + t))
        ⟨q, _, Weak.nrm [true, true, true, true, true, false, false, false, false, false, true, false, false, true] [(0, 0)] rfl rfl rfl, 0, Nat.zero_le _, rfl, by rw [← h0]; rfl⟩ ?_
      rintro n s ⟨t, ht, rfl, hs⟩
      by_cases htq : t = q
      · subst htq
        rw [← hfin] at hs
        subst hs
        refine Num.mk ((a + t : Nat) : Int) (wrapI' (by simp at hm; omega) (by omega)) ?_
        refine Split.mk fun t ht => ?_
        cases t
        · exact Need.mk ⟨[], _, .same, rfl, rfl⟩ trivial
        · simp at ht
      · have htd : t < d.length := by omega
        have hys : x ++ d.take t ++ e :: (d.drop t ++ y) = x ++ d.take t ++ e :: d[t] :: (d.drop (t + 1) ++ y) := by rw [List.drop_eq_getElem_cons htd]; rfl
        have hys2 : x ++ d.take t ++ d[t] :: e :: (d.drop (t + 1) ++ y) = x ++ d.take (t + 1) ++ e :: (d.drop (t + 1) ++ y) := by rw [List.take_succ_eq_append_getElem htd]; simp only [List.append_assoc, List.cons_append, List.nil_append]
        have hadj := adj Ent.enc (x ++ d.take t) (d.drop (t + 1) ++ y) e d[t] (k := a + t) (by simp; omega)
        obtain ⟨g0, g1, g2, g3, _, _⟩ := hadj
        have hln : ((x ++ d.take t ++ e :: d[t] :: (d.drop (t + 1) ++ y)).map Ent.enc).length = l.length := by rw [List.length_map, ← hys]; simp at hll ⊢; omega
        have hln2 : (((x ++ d.take t ++ e :: d[t] :: (d.drop (t + 1) ++ y)).map Ent.enc).set (a + t) d[t].enc).length = l.length := by rw [List.length_set, hln]
        have hm1 : m = a + 1 := by simp at hm; omega
        rw [hys] at hs
        have hex : ∃ ys, x ++ d.take t ++ e :: d[t] :: (d.drop (t + 1) ++ y) = ys := ⟨_, rfl⟩
        obtain ⟨ys, hyy⟩ := hex
        rw [hyy] at hs g0 g1 g2 g3 hln hln2
        rw [hys2] at g3
        subst hs
        refine Num.mk ((a + q : Nat) : Int) (wrapI' (by omega) (by omega)) ?_
        refine Split.mk fun t' ht' => ?_
        cases t'
        · simp at ht'; omega
        refine Num.mk ((a + t + 1 : Nat) : Int) (wrapI' (by omega) (by omega)) ?_
        refine Num.mk ((a + t + 1 : Nat) : Int) (wrapI' (by omega) (by omega)) ?_
        refine Need.mk ⟨by omega, by rw [hln]; omega⟩ ?_
        refine Row.mk _ g1 ?_
        refine Need.mk ⟨by omega, by rw [hln]; omega⟩ ?_
        refine Row.mk _ g0 ?_
        refine Need.mk ⟨by omega, by rw [hln]; omega⟩ ?_
        refine Row.mk _ g0 ?_
        refine Need.mk ⟨by omega, show ((a + t + 1 : Nat) : Int) < ((((ys.map Ent.enc).set (a + t) d[t].enc).length : Nat) : Int) from by rw [hln2]; omega⟩ ?_
        refine Row.mk _ g2 ?_
        refine Need.mk rfl ?_
        refine Num.mk ((a + t + 1 : Nat) : Int) (wrapI' (by omega) (by omega)) ?_
        refine ⟨q - (t + 1), _, by omega, Weak.nrm [true, true, true, true, true, false, false, false, false, false, true, false, false, true] [(0, 0)] rfl rfl rfl, t + 1, by omega, rfl, ?_⟩
        refine Eq.trans (b := ⟨some (.one (.ref 0 0 (.cell 0))) :: some (av (.int .i64 a)) :: some (av (.int .i64 m)) :: some (av (.int .i64 b)) :: some (av (.func (.func f) #[] #[])) :: none :: none :: none :: none :: none :: some (av (.int .i64 ((m + q : Nat) : Int))) :: none :: none :: some (av (.int .i64 ((a + t + 1 : Nat) : Int))) :: List.replicate 206 none, ⟨0, 1, some [.us 82 (((ys.map Ent.enc).set (a + t) d[t].enc).set (a + t + 1) e.enc)]⟩ :: List.replicate 220 absent⟩) rfl ?_
        rw [g3]; rfl
    · simp at ht
end Go.Proofs.Yteddoandjgjleaa

namespace Go.Proofs.Yteddoandjgjleaa
open Go Go.Proofs Ev
set_option maxRecDepth 100000
set_option maxHeartbeats 4000000
theorem symMerge_right (f : FuncId) (lt : Ent → Ent → Bool) (hw : Wk lt) (hf : CmpOk f lt) (x c d y l r : List Ent) (a m b : Nat) (hl : l = x ++ c ++ d ++ y) (hr : r = x ++ mrg lt c d ++ y) (ha : a = x.length) (hm : m = x.length + c.length) (hb : b = x.length + c.length + d.length) (hc : 1 < c.length) (hd : d.length = 1) (sc : Srt lt c) (hx : l.length ≤ 1099511627776) :
    AFn Try.prog 137 [.one (.ref 0 0 (.cell 0)), av (.int .i64 a), av (.int .i64 m), av (.int .i64 b), av (.func (.func f) #[] #[])] [[.us 82 (l.map Ent.enc)]] (.tup []) [[.us 82 (r.map Ent.enc)]] := by
  obtain ⟨ord, hord, hfn⟩ := hf
  have hll : l.length = x.length + c.length + d.length + y.length := by rw [hl]; simp; omega
  refine AFn.introX (E := En 1 (md1 [137, 143])) (en_ok 1 _) Try.func137 rfl rfl rfl fun _ hs => ?_
  have hlm : (l.map Ent.enc).length = l.length := List.length_map ..
  have gd : ∀ k (hk : k < d.length), (l.map Ent.enc)[m + k]? = some d[k].enc := fun k hk => by rw [List.getElem?_map, hl, get_r (i := k) (by omega) hk]; rfl
  have gc : ∀ k (hk : k < c.length), (l.map Ent.enc)[a + k]? = some c[k].enc := fun k hk => by rw [List.getElem?_map, hl, get_l (i := k) (by omega) hk]; rfl
  refine Num.mk ((c.length : Nat) : Int) (wrapI' (by omega) (by omega)) ?_
  refine Split.mk fun t ht => ?_
  cases t
  case true => simp at ht; omega
  refine Num.mk ((d.length : Nat) : Int) (wrapI' (by omega) (by omega)) ?_
  refine Split.mk fun t ht => ?_
  cases t
  · simp at ht; omega
  have he : ∃ e, d = [e] := by
    match d, hd with
    | [e], _ => exact ⟨e, rfl⟩
  obtain ⟨e, he⟩ := he
  subst he
  have ge : (l.map Ent.enc)[m]? = some e.enc := gd 0 (by simp)
  let S : Nat → Nat → St := fun i j => ⟨some (.one (.ref 0 0 (.cell 0))) :: some (av (.int .i64 a)) :: some (av (.int .i64 m)) :: some (av (.int .i64 b)) :: some (av (.func (.func f) #[] #[])) :: none :: none :: none :: none :: none :: none :: none :: none :: none :: some (av (.int .i64 i)) :: some (av (.int .i64 j)) :: List.replicate 204 none, ⟨0, 1, some [.us 82 (l.map Ent.enc)]⟩ :: List.replicate 220 absent⟩
  refine ALoop.mk (fun n s => ∃ p q : Nat, p ≤ q ∧ q ≤ c.length ∧ n = q - p ∧ (∀ k (hk : k < c.length), k < p → lt e c[k] = false) ∧ (∀ k (hk : k < c.length), q ≤ k → lt e c[k] = true) ∧ s = S (a + p) (a + q))
    ⟨c.length, _, Weak.nrm [true, true, true, true, true, false, false, false, false, false, false, false, false, false, true, true] [(0, 0)] rfl rfl rfl, 0, c.length, Nat.zero_le _, Nat.le_refl _, rfl, by intro k hk h; omega, by intro k hk h; omega, by rw [show a + c.length = m by omega]; rfl⟩ ?_
  rintro n s ⟨p, q, hpq, hq, rfl, h1, h2, hs⟩
  by_cases hlt : p < q
  · have hk : (p + q) / 2 < c.length := by omega
    by_cases hcmp : lt e (c[(p + q) / 2]) = false
    · have h1' : ∀ k (hk : k < c.length), k < (p + q) / 2 + 1 → lt e c[k] = false := fun k hk' hle => hw.nt _ _ _ hcmp (srt_get hw sc (i := k) (j := (p + q) / 2) (by omega) hk)
      subst hs
      refine Split.mk fun t ht => ?_
      cases t
      · simp at ht; omega
      refine Num.mk ((a + p + (a + q) : Nat) : Int) (wrapI' (by omega) (by omega)) ?_
      refine Num.mk _ (wrapU (by omega)) ?_
      refine Need.mk (by decide) ?_
      refine Num.mk _ (half (by omega)) ?_
      have hh : (a + p + (a + q)) / 2 = a + (p + q) / 2 := by omega
      refine Need.mk ⟨by omega, by rw [hlm]; omega⟩ ?_
      refine Row.mk _ ge ?_
      refine Need.mk ⟨by omega, by rw [hlm]; omega⟩ ?_
      refine Row.mk _ (by show (l.map Ent.enc)[(a + p + (a + q)) / 2]? = _; rw [hh]; exact gc _ hk) ?_
      refine ACall.mk _ _ (hfn e _) ?_
      refine Split.mk fun t ht3 => ?_
      rw [hord, hcmp] at ht3
      subst ht3
      refine Need.mk rfl ?_
      refine Num.mk _ (wrapS (by omega)) ?_
      refine ⟨q - ((p + q) / 2 + 1), _, by omega, Weak.nrm [true, true, true, true, true, false, false, false, false, false, false, false, false, false, true, true] [(0, 0)] rfl rfl rfl, (p + q) / 2 + 1, q, by omega, hq, rfl, h1', h2, ?_⟩
      rw [show a + ((p + q) / 2 + 1) = (a + p + (a + q)) / 2 + 1 by omega]; rfl
    · have hcmp : lt e (c[(p + q) / 2]) = true := by simpa using hcmp
      have h2' : ∀ k (hk : k < c.length), (p + q) / 2 ≤ k → lt e c[k] = true := fun k hk' hle => by
        cases hx' : lt e c[k] with
        | true => rfl
        | false => have := hw.nt _ _ _ hx' (srt_get hw sc (i := (p + q) / 2) (j := k) hle hk'); rw [hcmp] at this; cases this
      subst hs
      refine Split.mk fun t ht => ?_
      cases t
      · simp at ht; omega
      refine Num.mk ((a + p + (a + q) : Nat) : Int) (wrapI' (by omega) (by omega)) ?_
      refine Num.mk _ (wrapU (by omega)) ?_
      refine Need.mk (by decide) ?_
      refine Num.mk _ (half (by omega)) ?_
      have hh : (a + p + (a + q)) / 2 = a + (p + q) / 2 := by omega
      refine Need.mk ⟨by omega, by rw [hlm]; omega⟩ ?_
      refine Row.mk _ ge ?_
      refine Need.mk ⟨by omega, by rw [hlm]; omega⟩ ?_
      refine Row.mk _ (by show (l.map Ent.enc)[(a + p + (a + q)) / 2]? = _; rw [hh]; exact gc _ hk) ?_
      refine ACall.mk _ _ (hfn e _) ?_
      refine Split.mk fun t ht3 => ?_
      rw [hord, hcmp] at ht3
      subst ht3
      refine Need.mk rfl ?_
      refine ⟨(p + q) / 2 - p, _, by omega, Weak.nrm [true, true, true, true, true, false, false, false, false, false, false, false, false, false, true, true] [(0, 0)] rfl rfl rfl, p, (p + q) / 2, by omega, by omega, rfl, h1, h2', ?_⟩
      rw [← hh]; rfl
  · have hpq : q = p := by omega
    subst hpq
    have hfin : r = x ++ c.take q ++ e :: (c.drop q ++ y) := by rw [hr, mrg_one_r h1 h2]; simp
    have h0 : l = x ++ c.take c.length ++ e :: (c.drop c.length ++ y) := by rw [hl]; simp
    subst hs
    refine Split.mk fun t ht => ?_
    cases t
    · let S2 : List Ent → Nat → Nat → St := fun ys p k => ⟨some (.one (.ref 0 0 (.cell 0))) :: some (av (.int .i64 a)) :: some (av (.int .i64 m)) :: some (av (.int .i64 b)) :: some (av (.func (.func f) #[] #[])) :: none :: none :: none :: none :: none :: none :: none :: none :: none :: some (av (.int .i64 ((a + p : Nat) : Int))) :: none :: none :: some (av (.int .i64 k)) :: List.replicate 202 none, ⟨0, 1, some [.us 82 (ys.map Ent.enc)]⟩ :: List.replicate 220 absent⟩
      refine ALoop.mk (fun n s => ∃ t : Nat, q ≤ t ∧ t ≤ c.length ∧ n = t - q ∧ s = S2 (x ++ c.take t ++ e :: (c.drop t ++ y)) q (a + t))
        ⟨c.length - q, _, Weak.nrm [true, true, true, true, true, false, false, false, false, false, false, false, false, false, true, false, false, true] [(0, 0)] rfl rfl rfl, c.length, hq, Nat.le_refl _, rfl, by rw [← h0, show a + c.length = m by omega]; rfl⟩ ?_
      rintro n s ⟨t, htq0, ht, rfl, hs⟩
      by_cases htq : t = q
      · subst htq
        rw [← hfin] at hs
        subst hs
        refine Split.mk fun t ht => ?_
        cases t
        · exact Need.mk ⟨[], _, .same, rfl, rfl⟩ trivial
        · simp at ht
      · have hexu : ∃ u, t = u + 1 := ⟨t - 1, by omega⟩
        obtain ⟨u, hu⟩ := hexu
        subst hu
        have htd : u < c.length := by omega
        have hys : x ++ c.take (u + 1) ++ e :: (c.drop (u + 1) ++ y) = x ++ c.take u ++ c[u] :: e :: (c.drop (u + 1) ++ y) := by rw [List.take_succ_eq_append_getElem htd]; simp only [List.append_assoc, List.cons_append, List.nil_append]
        have hys2 : x ++ c.take u ++ e :: c[u] :: (c.drop (u + 1) ++ y) = x ++ c.take u ++ e :: (c.drop u ++ y) := by rw [List.drop_eq_getElem_cons htd]; rfl
        have hadj := adj Ent.enc (x ++ c.take u) (c.drop (u + 1) ++ y) c[u] e (k := a + u) (by simp; omega)
        obtain ⟨g0, g1, _, _, g2, g3⟩ := hadj
        have hln : ((x ++ c.take u ++ c[u] :: e :: (c.drop (u + 1) ++ y)).map Ent.enc).length = l.length := by rw [List.length_map, ← hys]; simp at hll ⊢; omega
        have hln2 : (((x ++ c.take u ++ c[u] :: e :: (c.drop (u + 1) ++ y)).map Ent.enc).set (a + u + 1) c[u].enc).length = l.length := by rw [List.length_set, hln]
        rw [hys] at hs
        have hex : ∃ ys, x ++ c.take u ++ c[u] :: e :: (c.drop (u + 1) ++ y) = ys := ⟨_, rfl⟩
        obtain ⟨ys, hyy⟩ := hex
        rw [hyy] at hs g0 g1 g2 g3 hln hln2
        rw [hys2] at g3
        subst hs
        refine Split.mk fun t' ht' => ?_
        cases t'
        · simp at ht'; omega
        have hnum : IntKind.i64.wrap (((a + (u + 1) : Nat) : Int) - 1) = ((a + u : Nat) : Int) := wrapI' (by omega) (by omega)
        refine Num.mk _ hnum ?_
        refine Num.mk _ hnum ?_
        refine Need.mk ⟨by omega, by rw [hln]; omega⟩ ?_
        refine Row.mk _ g0 ?_
        refine Need.mk ⟨by omega, by rw [hln]; omega⟩ ?_
        refine Row.mk _ g1 ?_
        refine Need.mk ⟨by omega, by rw [hln]; omega⟩ ?_
        refine Row.mk _ g1 ?_
        refine Need.mk ⟨by omega, show ((a + u : Nat) : Int) < ((((ys.map Ent.enc).set (a + u + 1) c[u].enc).length : Nat) : Int) from by rw [hln2]; omega⟩ ?_
        refine Row.mk _ g2 ?_
        refine Need.mk rfl ?_
        refine Num.mk _ hnum ?_
        refine ⟨u - q, _, by omega, Weak.nrm [true, true, true, true, true, false, false, false, false, false, false, false, false, false, true, false, false, true] [(0, 0)] rfl rfl rfl, u, by omega, by omega, rfl, ?_⟩
        refine Eq.trans (b := ⟨some (.one (.ref 0 0 (.cell 0))) :: some (av (.int .i64 a)) :: some (av (.int .i64 m)) :: some (av (.int .i64 b)) :: some (av (.func (.func f) #[] #[])) :: none :: none :: none :: none :: none :: none :: none :: none :: none :: some (av (.int .i64 ((a + q : Nat) : Int))) :: none :: none :: some (av (.int .i64 ((a + u : Nat) : Int))) :: List.replicate 202 none, ⟨0, 1, some [.us 82 (((ys.map Ent.enc).set (a + u + 1) c[u].enc).set (a + u) e.enc)]⟩ :: List.replicate 220 absent⟩) rfl ?_
        rw [g3]
    · simp at ht
end Go.Proofs.Yteddoandjgjleaa

namespace Go.Proofs.Yteddoandjgjleaa
open Go Go.Proofs Ev
set_option maxRecDepth 100000
set_option maxHeartbeats 8000000
theorem symMerge_hi (f : FuncId) (lt : Ent → Ent → Bool) (hw : Wk lt) (hf : CmpOk f lt) (n : Nat) (ih : ∀ k, k < n → SymM f lt k) (x c d y l r : List Ent) (a m b mid : Nat) (hl : l = x ++ c ++ d ++ y) (hr : r = x ++ mrg lt c d ++ y) (ha : a = x.length) (hm : m = x.length + c.length) (hb : b = x.length + c.length + d.length) (hc : 1 < c.length) (hd : 1 < d.length) (sc : Srt lt c) (sd : Srt lt d) (hcd : c.length + d.length ≤ n) (hx : l.length ≤ 1099511627776) (hmid : (a + b) / 2 = mid) (hwh : mid < m) :
    AFn Try.prog 137 [.one (.ref 0 0 (.cell 0)), av (.int .i64 a), av (.int .i64 m), av (.int .i64 b), av (.func (.func f) #[] #[])] [[.us 82 (l.map Ent.enc)]] (.tup []) [[.us 82 (r.map Ent.enc)]] := by
  obtain ⟨ord, hord, hfn⟩ := hf
  have hll : l.length = x.length + c.length + d.length + y.length := by rw [hl]; simp; omega
  refine AFn.introX (E := En 1 (md1 [137, 143])) (en_ok 1 _) Try.func137 rfl rfl rfl fun _ hs => ?_
  have hlm : (l.map Ent.enc).length = l.length := List.length_map ..
  have gd : ∀ k (hk : k < d.length), (l.map Ent.enc)[m + k]? = some d[k].enc := fun k hk => by rw [List.getElem?_map, hl, get_r (i := k) (by omega) hk]; rfl
  have gc : ∀ k (hk : k < c.length), (l.map Ent.enc)[a + k]? = some c[k].enc := fun k hk => by rw [List.getElem?_map, hl, get_l (i := k) (by omega) hk]; rfl
  refine Num.mk ((c.length : Nat) : Int) (wrapI' (by omega) (by omega)) ?_
  refine Split.mk fun t ht => ?_
  cases t
  case true => simp at ht; omega
  refine Num.mk ((d.length : Nat) : Int) (wrapI' (by omega) (by omega)) ?_
  refine Split.mk fun t ht => ?_
  cases t
  case true => simp at ht; omega
  refine Num.mk ((a + b : Nat) : Int) (wrapI' (by omega) (by omega)) ?_
  refine Num.mk _ (wrapU (by omega)) ?_
  refine Need.mk (by decide) ?_
  refine Num.mk ((mid : Nat) : Int) (by rw [← hmid]; exact half (by omega)) ?_
  refine Num.mk ((mid + m : Nat) : Int) (wrapI' (by omega) (by omega)) ?_
  refine Split.mk fun t ht => ?_
  cases t
  · first | (simp at ht; done) | (simp at ht; omega) | omega
  refine Num.mk ((mid + m - b : Nat) : Int) (wrapI' (by omega) (by omega)) ?_
  refine Num.mk ((mid + m - 1 : Nat) : Int) (wrapI' (by omega) (by omega)) ?_
  let S : Nat → Nat → St := fun s t => ⟨some (.one (.ref 0 0 (.cell 0))) :: some (av (.int .i64 a)) :: some (av (.int .i64 m)) :: some (av (.int .i64 b)) :: some (av (.func (.func f) #[] #[])) :: none :: none :: none :: none :: none :: none :: none :: none :: none :: none :: none :: none :: none :: some (av (.int .i64 mid)) :: some (av (.int .i64 ((mid + m : Nat) : Int))) :: some (av (.int .i64 s)) :: some (av (.int .i64 t)) :: some (av (.int .i64 ((mid + m - 1 : Nat) : Int))) :: List.replicate 197 none, ⟨0, 1, some [.us 82 (l.map Ent.enc)]⟩ :: List.replicate 220 absent⟩
  refine ALoop.mk (fun n s' => ∃ s t : Nat, mid + m - b ≤ s ∧ s ≤ t ∧ t ≤ mid ∧ n = t - s ∧ (∀ k, mid + m - b ≤ k → k < s → ∀ (i j : Nat) (hi : i < d.length) (hj : j < c.length), i + k + 1 = mid → j + a = k → lt d[i] c[j] = false) ∧ (∀ k, t ≤ k → k < mid → ∀ (i j : Nat) (hi : i < d.length) (hj : j < c.length), i + k + 1 = mid → j + a = k → lt d[i] c[j] = true) ∧ s' = S s t)
    ⟨mid - (mid + m - b), _, Weak.nrm [true, true, true, true, true, false, false, false, false, false, false, false, false, false, false, false, false, false, true, true, true, true, true] [(0, 0)] rfl rfl rfl, mid + m - b, mid, Nat.le_refl _, by omega, Nat.le_refl _, rfl, by intro k hk1 hk2; omega, by intro k hk1 hk2; omega, rfl⟩ ?_
  rintro n' s' ⟨s, t, hs0, hst, htr, rfl, h1, h2, hs⟩
  by_cases hlt : s < t
  · have hk : (s + t) / 2 < mid := by omega
    have hk0 : s ≤ (s + t) / 2 := by omega
    have hi0 : mid - (s + t) / 2 - 1 < d.length := by omega
    have hj0 : (s + t) / 2 - a < c.length := by omega
    have hp : IntKind.i64.wrap (((mid + m - 1 : Nat) : Int) - (((s + t) / 2 : Nat) : Int)) = ((m + (mid - (s + t) / 2 - 1) : Nat) : Int) := wrapI' (by omega) (by omega)
    have gcc : (l.map Ent.enc)[(s + t) / 2]? = some c[(s + t) / 2 - a].enc := by
      have := gc ((s + t) / 2 - a) hj0
      rwa [show a + ((s + t) / 2 - a) = (s + t) / 2 by omega] at this
    by_cases hcmp : lt d[mid - (s + t) / 2 - 1] c[(s + t) / 2 - a] = false
    · have h1' : ∀ k, mid + m - b ≤ k → k < (s + t) / 2 + 1 → ∀ (i j : Nat) (hi : i < d.length) (hj : j < c.length), i + k + 1 = mid → j + a = k → lt d[i] c[j] = false := fun k hk1 hk2 i j hi hj e1 e2 => find_lo hw sc sd hi hj0 (by omega) (by omega) hcmp
      subst hs
      refine Split.mk fun t ht => ?_
      cases t
      · first | (simp at ht; done) | (simp at ht; omega) | omega
      refine Num.mk ((s + t : Nat) : Int) (wrapI' (by omega) (by omega)) ?_
      refine Num.mk _ (wrapU (by omega)) ?_
      refine Need.mk (by decide) ?_
      refine Num.mk _ (half (by omega)) ?_
      refine Num.mk _ hp ?_
      refine Need.mk ⟨by omega, by rw [hlm]; omega⟩ ?_
      refine Row.mk _ (gd _ hi0) ?_
      refine Need.mk ⟨by omega, by rw [hlm]; omega⟩ ?_
      refine Row.mk _ gcc ?_
      refine ACall.mk _ _ (hfn _ _) ?_
      refine Split.mk fun t3 ht3 => ?_
      rw [hord, hcmp] at ht3
      subst ht3
      refine Need.mk rfl ?_
      refine Num.mk _ (wrapS (by omega)) ?_
      exact ⟨t - ((s + t) / 2 + 1), _, by omega, Weak.nrm [true, true, true, true, true, false, false, false, false, false, false, false, false, false, false, false, false, false, true, true, true, true, true] [(0, 0)] rfl rfl rfl, (s + t) / 2 + 1, t, by omega, by omega, htr, rfl, h1', h2, rfl⟩
    · have hcmp : lt d[mid - (s + t) / 2 - 1] c[(s + t) / 2 - a] = true := by simpa using hcmp
      have h2' : ∀ k, (s + t) / 2 ≤ k → k < mid → ∀ (i j : Nat) (hi : i < d.length) (hj : j < c.length), i + k + 1 = mid → j + a = k → lt d[i] c[j] = true := fun k hk1 hk2 i j hi hj e1 e2 => find_hi hw sc sd hi0 hj (by omega) (by omega) hcmp
      subst hs
      refine Split.mk fun t ht => ?_
      cases t
      · first | (simp at ht; done) | (simp at ht; omega) | omega
      refine Num.mk ((s + t : Nat) : Int) (wrapI' (by omega) (by omega)) ?_
      refine Num.mk _ (wrapU (by omega)) ?_
      refine Need.mk (by decide) ?_
      refine Num.mk _ (half (by omega)) ?_
      refine Num.mk _ hp ?_
      refine Need.mk ⟨by omega, by rw [hlm]; omega⟩ ?_
      refine Row.mk _ (gd _ hi0) ?_
      refine Need.mk ⟨by omega, by rw [hlm]; omega⟩ ?_
      refine Row.mk _ gcc ?_
      refine ACall.mk _ _ (hfn _ _) ?_
      refine Split.mk fun t3 ht3 => ?_
      rw [hord, hcmp] at ht3
      subst ht3
      refine Need.mk rfl ?_
      exact ⟨(s + t) / 2 - s, _, by omega, Weak.nrm [true, true, true, true, true, false, false, false, false, false, false, false, false, false, false, false, false, false, true, true, true, true, true] [(0, 0)] rfl rfl rfl, s, (s + t) / 2, hs0, by omega, by omega, rfl, h1, h2', rfl⟩
  · have hst2 : t = s := by omega
    subst hst2
    have hmrg := mrg_find hw sc sd (s := t - a) (t := mid - t) (by omega) (by omega) (fun e1 e2 => h2 t (Nat.le_refl _) (by omega) _ _ _ _ (by omega) (by omega)) (fun e1 e2 => h1 (t - 1) (by omega) (by omega) _ _ _ _ (by omega) (by omega))
    have hend : IntKind.i64.wrap (((mid + m : Nat) : Int) - ((t : Nat) : Int)) = ((mid + m - t : Nat) : Int) := wrapI' (by omega) (by omega)
    by_cases hA : m ≤ t
    · have hsm : t = m := by omega
      have eA : c.drop (t - a) = [] := List.drop_eq_nil_of_le (by omega)
      have eA1 : c.take (t - a) = c := List.take_of_length_le (by omega)
      rw [eA, eA1, mrg_nil] at hmrg
      by_cases hB : t < mid
      · have e0 : l = x ++ c ++ d.take (mid - t) ++ (d.drop (mid - t) ++ y) := by
          rw [hl]
          conv => lhs; rw [← List.take_append_drop (mid - t) d]
          simp only [List.append_assoc]
        have H := ih (mid - a) (by omega) x c (d.take (mid - t)) (d.drop (mid - t) ++ y) l r a t mid e0 (by rw [hr, hmrg]; simp only [List.append_assoc]) ha (by omega) (by rw [List.length_take]; omega) (by omega) (by rw [List.length_take]; omega) sc (srt_take sd _) (by rw [List.length_take]; omega) hx
        subst hs
        refine Split.mk fun t ht => ?_
        cases t
        case true => first | (simp at ht; done) | (simp at ht; omega) | omega
        refine Num.mk _ hend ?_
        refine Split.mk fun t ht => ?_
        cases t
        case true => first | (simp at ht; done) | (simp at ht; omega) | omega
        refine Split.mk fun t ht => ?_
        cases t
        · first | (simp at ht; done) | (simp at ht; omega) | omega
        refine Split.mk fun t ht => ?_
        cases t
        · first | (simp at ht; done) | (simp at ht; omega) | omega
        refine ACall.mk _ _ H ?_
        refine Split.mk fun t ht => ?_
        cases t
        case true => first | (simp at ht; done) | (simp at ht; omega) | omega
        exact Need.mk ⟨[], _, .same, rfl, rfl⟩ trivial
      · have eB : d.take (mid - t) = [] := by rw [show mid - t = 0 by omega]; rfl
        have eB1 : d.drop (mid - t) = d := by rw [show mid - t = 0 by omega]; rfl
        rw [eB, eB1, mrg_nil_r] at hmrg
        have hrl : l = r := by rw [hl, hr, hmrg]; simp only [List.append_assoc]
        subst hs
        refine Split.mk fun t ht => ?_
        cases t
        case true => first | (simp at ht; done) | (simp at ht; omega) | omega
        refine Num.mk _ hend ?_
        refine Split.mk fun t ht => ?_
        cases t
        case true => first | (simp at ht; done) | (simp at ht; omega) | omega
        refine Split.mk fun t ht => ?_
        cases t
        · first | (simp at ht; done) | (simp at ht; omega) | omega
        refine Split.mk fun t ht => ?_
        cases t
        case true => first | (simp at ht; done) | (simp at ht; omega) | omega
        refine Split.mk fun t ht => ?_
        cases t
        case true => first | (simp at ht; done) | (simp at ht; omega) | omega
        exact Need.mk ⟨[], _, .same, rfl, by rw [← hrl]; rfl⟩ trivial
    · by_cases hB : mid ≤ t
      · have hsm : t = mid := by omega
        have eB : d.take (mid - t) = [] := by rw [show mid - t = 0 by omega]; rfl
        have eB1 : d.drop (mid - t) = d := by rw [show mid - t = 0 by omega]; rfl
        rw [eB, eB1, mrg_nil_r] at hmrg
        have H := ih (b - mid) (by omega) (x ++ c.take (t - a)) (c.drop (t - a)) d y l r mid (mid + m - t) b (by rw [hl, List.append_assoc x (c.take (t - a)), List.take_append_drop]) (by rw [hr, hmrg]; simp only [List.append_assoc]) (by rw [List.length_append, List.length_take]; omega) (by rw [List.length_append, List.length_take, List.length_drop]; omega) (by rw [List.length_append, List.length_take, List.length_drop]; omega) (by rw [List.length_drop]; omega) (by omega) (srt_drop sc _) sd (by rw [List.length_drop]; omega) hx
        subst hs
        refine Split.mk fun t ht => ?_
        cases t
        case true => first | (simp at ht; done) | (simp at ht; omega) | omega
        refine Num.mk _ hend ?_
        refine Split.mk fun t ht => ?_
        cases t
        · first | (simp at ht; done) | (simp at ht; omega) | omega
        refine Split.mk fun t ht => ?_
        cases t
        case true => first | (simp at ht; done) | (simp at ht; omega) | omega
        refine Split.mk fun t ht => ?_
        cases t
        · first | (simp at ht; done) | (simp at ht; omega) | omega
        refine Split.mk fun t ht => ?_
        cases t
        case true => first | (simp at ht; done) | (simp at ht; omega) | omega
        refine Split.mk fun t ht => ?_
        cases t
        · first | (simp at ht; done) | (simp at ht; omega) | omega
        refine Split.mk fun t ht => ?_
        cases t
        · first | (simp at ht; done) | (simp at ht; omega) | omega
        refine ACall.mk _ _ H ?_
        exact Need.mk ⟨[], _, .same, rfl, rfl⟩ trivial
      · have e1 : l = x ++ c.take (t - a) ++ c.drop (t - a) ++ d.take (mid - t) ++ (d.drop (mid - t) ++ y) := by
          rw [hl]
          conv => lhs; rw [← List.take_append_drop (t - a) c, ← List.take_append_drop (mid - t) d]
          simp only [List.append_assoc]
        have H1 := slices_rotate f (x ++ c.take (t - a)) (c.drop (t - a)) (d.take (mid - t)) (d.drop (mid - t) ++ y) l (x ++ c.take (t - a) ++ d.take (mid - t) ++ c.drop (t - a) ++ (d.drop (mid - t) ++ y)  ) t m (mid + m - t) e1 rfl (by rw [List.length_append, List.length_take]; omega) (by rw [List.length_append, List.length_take, List.length_drop]; omega) (by rw [List.length_append, List.length_take, List.length_drop, List.length_take]; omega) (by rw [List.length_drop]; omega) (by rw [List.length_take]; omega) hx
        have hlen1 : (x ++ c.take (t - a) ++ d.take (mid - t) ++ c.drop (t - a) ++ (d.drop (mid - t) ++ y)).length ≤ 1099511627776 := by
          simp only [List.length_append, List.length_take, List.length_drop]; omega
        by_cases hC : a < t
        · have H2 := ih (mid - a) (by omega) x (c.take (t - a)) (d.take (mid - t)) (c.drop (t - a) ++ (d.drop (mid - t) ++ y)) (x ++ c.take (t - a) ++ d.take (mid - t) ++ c.drop (t - a) ++ (d.drop (mid - t) ++ y)) (x ++ mrg lt (c.take (t - a)) (d.take (mid - t)) ++ (c.drop (t - a) ++ (d.drop (mid - t) ++ y))) a t mid (by simp only [List.append_assoc]) rfl ha (by rw [List.length_take]; omega) (by rw [List.length_take, List.length_take]; omega) (by rw [List.length_take]; omega) (by rw [List.length_take]; omega) (srt_take sc _) (srt_take sd _) (by rw [List.length_take, List.length_take]; omega) hlen1
          have hlen2 : (x ++ mrg lt (c.take (t - a)) (d.take (mid - t)) ++ (c.drop (t - a) ++ (d.drop (mid - t) ++ y))).length ≤ 1099511627776 := by
            simp only [List.length_append, List.length_take, List.length_drop, mrg_len]; omega
          by_cases hD : mid + m - t < b
          · have H3 := ih (b - mid) (by omega) (x ++ mrg lt (c.take (t - a)) (d.take (mid - t))) (c.drop (t - a)) (d.drop (mid - t)) y (x ++ mrg lt (c.take (t - a)) (d.take (mid - t)) ++ (c.drop (t - a) ++ (d.drop (mid - t) ++ y))) r mid (mid + m - t) b (by simp only [List.append_assoc]) (by rw [hr, hmrg]; simp only [List.append_assoc]) (by simp only [List.length_append, mrg_len, List.length_take]; omega) (by simp only [List.length_append, mrg_len, List.length_take, List.length_drop]; omega) (by simp only [List.length_append, mrg_len, List.length_take, List.length_drop]; omega) (by rw [List.length_drop]; omega) (by rw [List.length_drop]; omega) (srt_drop sc _) (srt_drop sd _) (by rw [List.length_drop, List.length_drop]; omega) hlen2
            subst hs
            refine Split.mk fun t ht => ?_
            cases t
            case true => first | (simp at ht; done) | (simp at ht; omega) | omega
            refine Num.mk _ hend ?_
            refine Split.mk fun t ht => ?_
            cases t
            · first | (simp at ht; done) | (simp at ht; omega) | omega
            refine Split.mk fun t ht => ?_
            cases t
            · first | (simp at ht; done) | (simp at ht; omega) | omega
            refine ACall.mk _ _ H1 ?_
            refine Split.mk fun t ht => ?_
            cases t
            · first | (simp at ht; done) | (simp at ht; omega) | omega
            refine Split.mk fun t ht => ?_
            cases t
            · first | (simp at ht; done) | (simp at ht; omega) | omega
            refine ACall.mk _ _ H2 ?_
            refine Split.mk fun t ht => ?_
            cases t
            · first | (simp at ht; done) | (simp at ht; omega) | omega
            refine Split.mk fun t ht => ?_
            cases t
            · first | (simp at ht; done) | (simp at ht; omega) | omega
            refine ACall.mk _ _ H3 ?_
            exact Need.mk ⟨[], _, .same, rfl, rfl⟩ trivial
          · have eD : d.drop (mid - t) = [] := List.drop_eq_nil_of_le (by omega)
            have hfin : x ++ mrg lt (c.take (t - a)) (d.take (mid - t)) ++ (c.drop (t - a) ++ (d.drop (mid - t) ++ y)) = r := by rw [hr, hmrg, eD, mrg_nil_r]; simp only [List.append_assoc, List.nil_append]
            rw [hfin] at H2
            subst hs
            refine Split.mk fun t ht => ?_
            cases t
            case true => first | (simp at ht; done) | (simp at ht; omega) | omega
            refine Num.mk _ hend ?_
            refine Split.mk fun t ht => ?_
            cases t
            · first | (simp at ht; done) | (simp at ht; omega) | omega
            refine Split.mk fun t ht => ?_
            cases t
            · first | (simp at ht; done) | (simp at ht; omega) | omega
            refine ACall.mk _ _ H1 ?_
            refine Split.mk fun t ht => ?_
            cases t
            · first | (simp at ht; done) | (simp at ht; omega) | omega
            refine Split.mk fun t ht => ?_
            cases t
            · first | (simp at ht; done) | (simp at ht; omega) | omega
            refine ACall.mk _ _ H2 ?_
            refine Split.mk fun t ht => ?_
            cases t
            · first | (simp at ht; done) | (simp at ht; omega) | omega
            refine Split.mk fun t ht => ?_
            cases t
            case true => first | (simp at ht; done) | (simp at ht; omega) | omega
            exact Need.mk ⟨[], _, .same, rfl, rfl⟩ trivial
        · have eC : c.take (t - a) = [] := by rw [show t - a = 0 by omega]; rfl
          have eC1 : c.drop (t - a) = c := by rw [show t - a = 0 by omega]; rfl
          rw [eC, eC1] at hmrg H1 hlen1
          rw [mrg_nil] at hmrg
          by_cases hD : mid + m - t < b
          · have H3 := ih (b - mid) (by omega) (x ++ d.take (mid - t)) c (d.drop (mid - t)) y (x ++ [] ++ d.take (mid - t) ++ c ++ (d.drop (mid - t) ++ y)) r mid (mid + m - t) b (by simp only [List.append_assoc, List.nil_append]) (by rw [hr, hmrg]; simp only [List.append_assoc]) (by simp only [List.length_append, List.length_take]; omega) (by simp only [List.length_append, List.length_take]; omega) (by simp only [List.length_append, List.length_take, List.length_drop]; omega) (by omega) (by rw [List.length_drop]; omega) sc (srt_drop sd _) (by rw [List.length_drop]; omega) hlen1
            subst hs
            refine Split.mk fun t ht => ?_
            cases t
            case true => first | (simp at ht; done) | (simp at ht; omega) | omega
            refine Num.mk _ hend ?_
            refine Split.mk fun t ht => ?_
            cases t
            · first | (simp at ht; done) | (simp at ht; omega) | omega
            refine Split.mk fun t ht => ?_
            cases t
            · first | (simp at ht; done) | (simp at ht; omega) | omega
            refine ACall.mk _ _ H1 ?_
            refine Split.mk fun t ht => ?_
            cases t
            case true => first | (simp at ht; done) | (simp at ht; omega) | omega
            refine Split.mk fun t ht => ?_
            cases t
            · first | (simp at ht; done) | (simp at ht; omega) | omega
            refine Split.mk fun t ht => ?_
            cases t
            · first | (simp at ht; done) | (simp at ht; omega) | omega
            refine ACall.mk _ _ H3 ?_
            exact Need.mk ⟨[], _, .same, rfl, rfl⟩ trivial
          · have eD : d.drop (mid - t) = [] := List.drop_eq_nil_of_le (by omega)
            have hfin : x ++ [] ++ d.take (mid - t) ++ c ++ (d.drop (mid - t) ++ y) = r := by rw [hr, hmrg, eD, mrg_nil_r]; simp only [List.append_assoc, List.nil_append]
            rw [hfin] at H1
            subst hs
            refine Split.mk fun t ht => ?_
            cases t
            case true => first | (simp at ht; done) | (simp at ht; omega) | omega
            refine Num.mk _ hend ?_
            refine Split.mk fun t ht => ?_
            cases t
            · first | (simp at ht; done) | (simp at ht; omega) | omega
            refine Split.mk fun t ht => ?_
            cases t
            · first | (simp at ht; done) | (simp at ht; omega) | omega
            refine ACall.mk _ _ H1 ?_
            refine Split.mk fun t ht => ?_
            cases t
            case true => first | (simp at ht; done) | (simp at ht; omega) | omega
            refine Split.mk fun t ht => ?_
            cases t
            · first | (simp at ht; done) | (simp at ht; omega) | omega
            refine Split.mk fun t ht => ?_
            cases t
            case true => first | (simp at ht; done) | (simp at ht; omega) | omega
            exact Need.mk ⟨[], _, .same, rfl, rfl⟩ trivial
end Go.Proofs.Yteddoandjgjleaa

namespace Go.Proofs.Yteddoandjgjleaa
open Go Go.Proofs Ev
set_option maxRecDepth 100000
set_option maxHeartbeats 8000000
theorem symMerge_lo (f : FuncId) (lt : Ent → Ent → Bool) (hw : Wk lt) (hf : CmpOk f lt) (n : Nat) (ih : ∀ k, k < n → SymM f lt k) (x c d y l r : List Ent) (a m b mid : Nat) (hl : l = x ++ c ++ d ++ y) (hr : r = x ++ mrg lt c d ++ y) (ha : a = x.length) (hm : m = x.length + c.length) (hb : b = x.length + c.length + d.length) (hc : 1 < c.length) (hd : 1 < d.length) (sc : Srt lt c) (sd : Srt lt d) (hcd : c.length + d.length ≤ n) (hx : l.length ≤ 1099511627776) (hmid : (a + b) / 2 = mid) (hwh : m ≤ mid) :
    AFn Try.prog 137 [.one (.ref 0 0 (.cell 0)), av (.int .i64 a), av (.int .i64 m), av (.int .i64 b), av (.func (.func f) #[] #[])] [[.us 82 (l.map Ent.enc)]] (.tup []) [[.us 82 (r.map Ent.enc)]] := by
  obtain ⟨ord, hord, hfn⟩ := hf
  have hll : l.length = x.length + c.length + d.length + y.length := by rw [hl]; simp; omega
  refine AFn.introX (E := En 1 (md1 [137, 143])) (en_ok 1 _) Try.func137 rfl rfl rfl fun _ hs => ?_
  have hlm : (l.map Ent.enc).length = l.length := List.length_map ..
  have gd : ∀ k (hk : k < d.length), (l.map Ent.enc)[m + k]? = some d[k].enc := fun k hk => by rw [List.getElem?_map, hl, get_r (i := k) (by omega) hk]; rfl
  have gc : ∀ k (hk : k < c.length), (l.map Ent.enc)[a + k]? = some c[k].enc := fun k hk => by rw [List.getElem?_map, hl, get_l (i := k) (by omega) hk]; rfl
  refine Num.mk ((c.length : Nat) : Int) (wrapI' (by omega) (by omega)) ?_
  refine Split.mk fun t ht => ?_
  cases t
  case true => simp at ht; omega
  refine Num.mk ((d.length : Nat) : Int) (wrapI' (by omega) (by omega)) ?_
  refine Split.mk fun t ht => ?_
  cases t
  case true => simp at ht; omega
  refine Num.mk ((a + b : Nat) : Int) (wrapI' (by omega) (by omega)) ?_
  refine Num.mk _ (wrapU (by omega)) ?_
  refine Need.mk (by decide) ?_
  refine Num.mk ((mid : Nat) : Int) (by rw [← hmid]; exact half (by omega)) ?_
  refine Num.mk ((mid + m : Nat) : Int) (wrapI' (by omega) (by omega)) ?_
  refine Split.mk fun t ht => ?_
  cases t
  case true => first | (simp at ht; done) | (simp at ht; omega) | omega
  refine Num.mk ((mid + m - 1 : Nat) : Int) (wrapI' (by omega) (by omega)) ?_
  let S : Nat → Nat → St := fun s t => ⟨some (.one (.ref 0 0 (.cell 0))) :: some (av (.int .i64 a)) :: some (av (.int .i64 m)) :: some (av (.int .i64 b)) :: some (av (.func (.func f) #[] #[])) :: none :: none :: none :: none :: none :: none :: none :: none :: none :: none :: none :: none :: none :: some (av (.int .i64 mid)) :: some (av (.int .i64 ((mid + m : Nat) : Int))) :: some (av (.int .i64 s)) :: some (av (.int .i64 t)) :: some (av (.int .i64 ((mid + m - 1 : Nat) : Int))) :: List.replicate 197 none, ⟨0, 1, some [.us 82 (l.map Ent.enc)]⟩ :: List.replicate 220 absent⟩
  refine ALoop.mk (fun n s' => ∃ s t : Nat, a ≤ s ∧ s ≤ t ∧ t ≤ m ∧ n = t - s ∧ (∀ k, a ≤ k → k < s → ∀ (i j : Nat) (hi : i < d.length) (hj : j < c.length), i + k + 1 = mid → j + a = k → lt d[i] c[j] = false) ∧ (∀ k, t ≤ k → k < m → ∀ (i j : Nat) (hi : i < d.length) (hj : j < c.length), i + k + 1 = mid → j + a = k → lt d[i] c[j] = true) ∧ s' = S s t)
    ⟨m - (a), _, Weak.nrm [true, true, true, true, true, false, false, false, false, false, false, false, false, false, false, false, false, false, true, true, true, true, true] [(0, 0)] rfl rfl rfl, a, m, Nat.le_refl _, by omega, Nat.le_refl _, rfl, by intro k hk1 hk2; omega, by intro k hk1 hk2; omega, rfl⟩ ?_
  rintro n' s' ⟨s, t, hs0, hst, htr, rfl, h1, h2, hs⟩
  by_cases hlt : s < t
  · have hk : (s + t) / 2 < m := by omega
    have hk0 : s ≤ (s + t) / 2 := by omega
    have hi0 : mid - (s + t) / 2 - 1 < d.length := by omega
    have hj0 : (s + t) / 2 - a < c.length := by omega
    have hp : IntKind.i64.wrap (((mid + m - 1 : Nat) : Int) - (((s + t) / 2 : Nat) : Int)) = ((m + (mid - (s + t) / 2 - 1) : Nat) : Int) := wrapI' (by omega) (by omega)
    have gcc : (l.map Ent.enc)[(s + t) / 2]? = some c[(s + t) / 2 - a].enc := by
      have := gc ((s + t) / 2 - a) hj0
      rwa [show a + ((s + t) / 2 - a) = (s + t) / 2 by omega] at this
    by_cases hcmp : lt d[mid - (s + t) / 2 - 1] c[(s + t) / 2 - a] = false
    · have h1' : ∀ k, a ≤ k → k < (s + t) / 2 + 1 → ∀ (i j : Nat) (hi : i < d.length) (hj : j < c.length), i + k + 1 = mid → j + a = k → lt d[i] c[j] = false := fun k hk1 hk2 i j hi hj e1 e2 => find_lo hw sc sd hi hj0 (by omega) (by omega) hcmp
      subst hs
      refine Split.mk fun t ht => ?_
      cases t
      · first | (simp at ht; done) | (simp at ht; omega) | omega
      refine Num.mk ((s + t : Nat) : Int) (wrapI' (by omega) (by omega)) ?_
      refine Num.mk _ (wrapU (by omega)) ?_
      refine Need.mk (by decide) ?_
      refine Num.mk _ (half (by omega)) ?_
      refine Num.mk _ hp ?_
      refine Need.mk ⟨by omega, by rw [hlm]; omega⟩ ?_
      refine Row.mk _ (gd _ hi0) ?_
      refine Need.mk ⟨by omega, by rw [hlm]; omega⟩ ?_
      refine Row.mk _ gcc ?_
      refine ACall.mk _ _ (hfn _ _) ?_
      refine Split.mk fun t3 ht3 => ?_
      rw [hord, hcmp] at ht3
      subst ht3
      refine Need.mk rfl ?_
      refine Num.mk _ (wrapS (by omega)) ?_
      exact ⟨t - ((s + t) / 2 + 1), _, by omega, Weak.nrm [true, true, true, true, true, false, false, false, false, false, false, false, false, false, false, false, false, false, true, true, true, true, true] [(0, 0)] rfl rfl rfl, (s + t) / 2 + 1, t, by omega, by omega, htr, rfl, h1', h2, rfl⟩
    · have hcmp : lt d[mid - (s + t) / 2 - 1] c[(s + t) / 2 - a] = true := by simpa using hcmp
      have h2' : ∀ k, (s + t) / 2 ≤ k → k < m → ∀ (i j : Nat) (hi : i < d.length) (hj : j < c.length), i + k + 1 = mid → j + a = k → lt d[i] c[j] = true := fun k hk1 hk2 i j hi hj e1 e2 => find_hi hw sc sd hi0 hj (by omega) (by omega) hcmp
      subst hs
      refine Split.mk fun t ht => ?_
      cases t
      · first | (simp at ht; done) | (simp at ht; omega) | omega
      refine Num.mk ((s + t : Nat) : Int) (wrapI' (by omega) (by omega)) ?_
      refine Num.mk _ (wrapU (by omega)) ?_
      refine Need.mk (by decide) ?_
      refine Num.mk _ (half (by omega)) ?_
      refine Num.mk _ hp ?_
      refine Need.mk ⟨by omega, by rw [hlm]; omega⟩ ?_
      refine Row.mk _ (gd _ hi0) ?_
      refine Need.mk ⟨by omega, by rw [hlm]; omega⟩ ?_
      refine Row.mk _ gcc ?_
      refine ACall.mk _ _ (hfn _ _) ?_
      refine Split.mk fun t3 ht3 => ?_
      rw [hord, hcmp] at ht3
      subst ht3
      refine Need.mk rfl ?_
      exact ⟨(s + t) / 2 - s, _, by omega, Weak.nrm [true, true, true, true, true, false, false, false, false, false, false, false, false, false, false, false, false, false, true, true, true, true, true] [(0, 0)] rfl rfl rfl, s, (s + t) / 2, hs0, by omega, by omega, rfl, h1, h2', rfl⟩
  · have hst2 : t = s := by omega
    subst hst2
    have hmrg := mrg_find hw sc sd (s := t - a) (t := mid - t) (by omega) (by omega) (fun e1 e2 => h2 t (Nat.le_refl _) (by omega) _ _ _ _ (by omega) (by omega)) (fun e1 e2 => h1 (t - 1) (by omega) (by omega) _ _ _ _ (by omega) (by omega))
    have hend : IntKind.i64.wrap (((mid + m : Nat) : Int) - ((t : Nat) : Int)) = ((mid + m - t : Nat) : Int) := wrapI' (by omega) (by omega)
    by_cases hA : m ≤ t
    · have hsm : t = m := by omega
      have eA : c.drop (t - a) = [] := List.drop_eq_nil_of_le (by omega)
      have eA1 : c.take (t - a) = c := List.take_of_length_le (by omega)
      rw [eA, eA1, mrg_nil] at hmrg
      by_cases hB : t < mid
      · have e0 : l = x ++ c ++ d.take (mid - t) ++ (d.drop (mid - t) ++ y) := by
          rw [hl]
          conv => lhs; rw [← List.take_append_drop (mid - t) d]
          simp only [List.append_assoc]
        have H := ih (mid - a) (by omega) x c (d.take (mid - t)) (d.drop (mid - t) ++ y) l r a t mid e0 (by rw [hr, hmrg]; simp only [List.append_assoc]) ha (by omega) (by rw [List.length_take]; omega) (by omega) (by rw [List.length_take]; omega) sc (srt_take sd _) (by rw [List.length_take]; omega) hx
        subst hs
        refine Split.mk fun t ht => ?_
        cases t
        case true => first | (simp at ht; done) | (simp at ht; omega) | omega
        refine Num.mk _ hend ?_
        refine Split.mk fun t ht => ?_
        cases t
        case true => first | (simp at ht; done) | (simp at ht; omega) | omega
        refine Split.mk fun t ht => ?_
        cases t
        · first | (simp at ht; done) | (simp at ht; omega) | omega
        refine Split.mk fun t ht => ?_
        cases t
        · first | (simp at ht; done) | (simp at ht; omega) | omega
        refine ACall.mk _ _ H ?_
        refine Split.mk fun t ht => ?_
        cases t
        case true => first | (simp at ht; done) | (simp at ht; omega) | omega
        exact Need.mk ⟨[], _, .same, rfl, rfl⟩ trivial
      · have eB : d.take (mid - t) = [] := by rw [show mid - t = 0 by omega]; rfl
        have eB1 : d.drop (mid - t) = d := by rw [show mid - t = 0 by omega]; rfl
        rw [eB, eB1, mrg_nil_r] at hmrg
        have hrl : l = r := by rw [hl, hr, hmrg]; simp only [List.append_assoc]
        subst hs
        refine Split.mk fun t ht => ?_
        cases t
        case true => first | (simp at ht; done) | (simp at ht; omega) | omega
        refine Num.mk _ hend ?_
        refine Split.mk fun t ht => ?_
        cases t
        case true => first | (simp at ht; done) | (simp at ht; omega) | omega
        refine Split.mk fun t ht => ?_
        cases t
        · first | (simp at ht; done) | (simp at ht; omega) | omega
        refine Split.mk fun t ht => ?_
        cases t
        case true => first | (simp at ht; done) | (simp at ht; omega) | omega
        refine Split.mk fun t ht => ?_
        cases t
        case true => first | (simp at ht; done) | (simp at ht; omega) | omega
        exact Need.mk ⟨[], _, .same, rfl, by rw [← hrl]; rfl⟩ trivial
    · by_cases hB : mid ≤ t
      · have hsm : t = mid := by omega
        have eB : d.take (mid - t) = [] := by rw [show mid - t = 0 by omega]; rfl
        have eB1 : d.drop (mid - t) = d := by rw [show mid - t = 0 by omega]; rfl
        rw [eB, eB1, mrg_nil_r] at hmrg
        have H := ih (b - mid) (by omega) (x ++ c.take (t - a)) (c.drop (t - a)) d y l r mid (mid + m - t) b (by rw [hl, List.append_assoc x (c.take (t - a)), List.take_append_drop]) (by rw [hr, hmrg]; simp only [List.append_assoc]) (by rw [List.length_append, List.length_take]; omega) (by rw [List.length_append, List.length_take, List.length_drop]; omega) (by rw [List.length_append, List.length_take, List.length_drop]; omega) (by rw [List.length_drop]; omega) (by omega) (srt_drop sc _) sd (by rw [List.length_drop]; omega) hx
        subst hs
        refine Split.mk fun t ht => ?_
        cases t
        case true => first | (simp at ht; done) | (simp at ht; omega) | omega
        refine Num.mk _ hend ?_
        refine Split.mk fun t ht => ?_
        cases t
        · first | (simp at ht; done) | (simp at ht; omega) | omega
        refine Split.mk fun t ht => ?_
        cases t
        case true => first | (simp at ht; done) | (simp at ht; omega) | omega
        refine Split.mk fun t ht => ?_
        cases t
        · first | (simp at ht; done) | (simp at ht; omega) | omega
        refine Split.mk fun t ht => ?_
        cases t
        case true => first | (simp at ht; done) | (simp at ht; omega) | omega
        refine Split.mk fun t ht => ?_
        cases t
        · first | (simp at ht; done) | (simp at ht; omega) | omega
        refine Split.mk fun t ht => ?_
        cases t
        · first | (simp at ht; done) | (simp at ht; omega) | omega
        refine ACall.mk _ _ H ?_
        exact Need.mk ⟨[], _, .same, rfl, rfl⟩ trivial
      · have e1 : l = x ++ c.take (t - a) ++ c.drop (t - a) ++ d.take (mid - t) ++ (d.drop (mid - t) ++ y) := by
          rw [hl]
          conv => lhs; rw [← List.take_append_drop (t - a) c, ← List.take_append_drop (mid - t) d]
          simp only [List.append_assoc]
        have H1 := slices_rotate f (x ++ c.take (t - a)) (c.drop (t - a)) (d.take (mid - t)) (d.drop (mid - t) ++ y) l (x ++ c.take (t - a) ++ d.take (mid - t) ++ c.drop (t - a) ++ (d.drop (mid - t) ++ y)  ) t m (mid + m - t) e1 rfl (by rw [List.length_append, List.length_take]; omega) (by rw [List.length_append, List.length_take, List.length_drop]; omega) (by rw [List.length_append, List.length_take, List.length_drop, List.length_take]; omega) (by rw [List.length_drop]; omega) (by rw [List.length_take]; omega) hx
        have hlen1 : (x ++ c.take (t - a) ++ d.take (mid - t) ++ c.drop (t - a) ++ (d.drop (mid - t) ++ y)).length ≤ 1099511627776 := by
          simp only [List.length_append, List.length_take, List.length_drop]; omega
        by_cases hC : a < t
        · have H2 := ih (mid - a) (by omega) x (c.take (t - a)) (d.take (mid - t)) (c.drop (t - a) ++ (d.drop (mid - t) ++ y)) (x ++ c.take (t - a) ++ d.take (mid - t) ++ c.drop (t - a) ++ (d.drop (mid - t) ++ y)) (x ++ mrg lt (c.take (t - a)) (d.take (mid - t)) ++ (c.drop (t - a) ++ (d.drop (mid - t) ++ y))) a t mid (by simp only [List.append_assoc]) rfl ha (by rw [List.length_take]; omega) (by rw [List.length_take, List.length_take]; omega) (by rw [List.length_take]; omega) (by rw [List.length_take]; omega) (srt_take sc _) (srt_take sd _) (by rw [List.length_take, List.length_take]; omega) hlen1
          have hlen2 : (x ++ mrg lt (c.take (t - a)) (d.take (mid - t)) ++ (c.drop (t - a) ++ (d.drop (mid - t) ++ y))).length ≤ 1099511627776 := by
            simp only [List.length_append, List.length_take, List.length_drop, mrg_len]; omega
          by_cases hD : mid + m - t < b
          · have H3 := ih (b - mid) (by omega) (x ++ mrg lt (c.take (t - a)) (d.take (mid - t))) (c.drop (t - a)) (d.drop (mid - t)) y (x ++ mrg lt (c.take (t - a)) (d.take (mid - t)) ++ (c.drop (t - a) ++ (d.drop (mid - t) ++ y))) r mid (mid + m - t) b (by simp only [List.append_assoc]) (by rw [hr, hmrg]; simp only [List.append_assoc]) (by simp only [List.length_append, mrg_len, List.length_take]; omega) (by simp only [List.length_append, mrg_len, List.length_take, List.length_drop]; omega) (by simp only [List.length_append, mrg_len, List.length_take, List.length_drop]; omega) (by rw [List.length_drop]; omega) (by rw [List.length_drop]; omega) (srt_drop sc _) (srt_drop sd _) (by rw [List.length_drop, List.length_drop]; omega) hlen2
            subst hs
            refine Split.mk fun t ht => ?_
            cases t
            case true => first | (simp at ht; done) | (simp at ht; omega) | omega
            refine Num.mk _ hend ?_
            refine Split.mk fun t ht => ?_
            cases t
            · first | (simp at ht; done) | (simp at ht; omega) | omega
            refine Split.mk fun t ht => ?_
            cases t
            · first | (simp at ht; done) | (simp at ht; omega) | omega
            refine ACall.mk _ _ H1 ?_
            refine Split.mk fun t ht => ?_
            cases t
            · first | (simp at ht; done) | (simp at ht; omega) | omega
            refine Split.mk fun t ht => ?_
            cases t
            · first | (simp at ht; done) | (simp at ht; omega) | omega
            refine ACall.mk _ _ H2 ?_
            refine Split.mk fun t ht => ?_
            cases t
            · first | (simp at ht; done) | (simp at ht; omega) | omega
            refine Split.mk fun t ht => ?_
            cases t
            · first | (simp at ht; done) | (simp at ht; omega) | omega
            refine ACall.mk _ _ H3 ?_
            exact Need.mk ⟨[], _, .same, rfl, rfl⟩ trivial
          · have eD : d.drop (mid - t) = [] := List.drop_eq_nil_of_le (by omega)
            have hfin : x ++ mrg lt (c.take (t - a)) (d.take (mid - t)) ++ (c.drop (t - a) ++ (d.drop (mid - t) ++ y)) = r := by rw [hr, hmrg, eD, mrg_nil_r]; simp only [List.append_assoc, List.nil_append]
            rw [hfin] at H2
            subst hs
            refine Split.mk fun t ht => ?_
            cases t
            case true => first | (simp at ht; done) | (simp at ht; omega) | omega
            refine Num.mk _ hend ?_
            refine Split.mk fun t ht => ?_
            cases t
            · first | (simp at ht; done) | (simp at ht; omega) | omega
            refine Split.mk fun t ht => ?_
            cases t
            · first | (simp at ht; done) | (simp at ht; omega) | omega
            refine ACall.mk _ _ H1 ?_
            refine Split.mk fun t ht => ?_
            cases t
            · first | (simp at ht; done) | (simp at ht; omega) | omega
            refine Split.mk fun t ht => ?_
            cases t
            · first | (simp at ht; done) | (simp at ht; omega) | omega
            refine ACall.mk _ _ H2 ?_
            refine Split.mk fun t ht => ?_
            cases t
            · first | (simp at ht; done) | (simp at ht; omega) | omega
            refine Split.mk fun t ht => ?_
            cases t
            case true => first | (simp at ht; done) | (simp at ht; omega) | omega
            exact Need.mk ⟨[], _, .same, rfl, rfl⟩ trivial
        · have eC : c.take (t - a) = [] := by rw [show t - a = 0 by omega]; rfl
          have eC1 : c.drop (t - a) = c := by rw [show t - a = 0 by omega]; rfl
          rw [eC, eC1] at hmrg H1 hlen1
          rw [mrg_nil] at hmrg
          by_cases hD : mid + m - t < b
          · have H3 := ih (b - mid) (by omega) (x ++ d.take (mid - t)) c (d.drop (mid - t)) y (x ++ [] ++ d.take (mid - t) ++ c ++ (d.drop (mid - t) ++ y)) r mid (mid + m - t) b (by simp only [List.append_assoc, List.nil_append]) (by rw [hr, hmrg]; simp only [List.append_assoc]) (by simp only [List.length_append, List.length_take]; omega) (by simp only [List.length_append, List.length_take]; omega) (by simp only [List.length_append, List.length_take, List.length_drop]; omega) (by omega) (by rw [List.length_drop]; omega) sc (srt_drop sd _) (by rw [List.length_drop]; omega) hlen1
            subst hs
            refine Split.mk fun t ht => ?_
            cases t
            case true => first | (simp at ht; done) | (simp at ht; omega) | omega
            refine Num.mk _ hend ?_
            refine Split.mk fun t ht => ?_
            cases t
            · first | (simp at ht; done) | (simp at ht; omega) | omega
            refine Split.mk fun t ht => ?_
            cases t
            · first | (simp at ht; done) | (simp at ht; omega) | omega
            refine ACall.mk _ _ H1 ?_
            refine Split.mk fun t ht => ?_
            cases t
            case true => first | (simp at ht; done) | (simp at ht; omega) | omega
            refine Split.mk fun t ht => ?_
            cases t
            · first | (simp at ht; done) | (simp at ht; omega) | omega
            refine Split.mk fun t ht => ?_
            cases t
            · first | (simp at ht; done) | (simp at ht; omega) | omega
            refine ACall.mk _ _ H3 ?_
            exact Need.mk ⟨[], _, .same, rfl, rfl⟩ trivial
          · have eD : d.drop (mid - t) = [] := List.drop_eq_nil_of_le (by omega)
            have hfin : x ++ [] ++ d.take (mid - t) ++ c ++ (d.drop (mid - t) ++ y) = r := by rw [hr, hmrg, eD, mrg_nil_r]; simp only [List.append_assoc, List.nil_append]
            rw [hfin] at H1
            subst hs
            refine Split.mk fun t ht => ?_
            cases t
            case true => first | (simp at ht; done) | (simp at ht; omega) | omega
            refine Num.mk _ hend ?_
            refine Split.mk fun t ht => ?_
            cases t
            · first | (simp at ht; done) | (simp at ht; omega) | omega
            refine Split.mk fun t ht => ?_
            cases t
            · first | (simp at ht; done) | (simp at ht; omega) | omega
            refine ACall.mk _ _ H1 ?_
            refine Split.mk fun t ht => ?_
            cases t
            case true => first | (simp at ht; done) | (simp at ht; omega) | omega
            refine Split.mk fun t ht => ?_
            cases t
            · first | (simp at ht; done) | (simp at ht; omega) | omega
            refine Split.mk fun t ht => ?_
            cases t
            case true => first | (simp at ht; done) | (simp at ht; omega) | omega
            exact Need.mk ⟨[], _, .same, rfl, rfl⟩ trivial
end Go.Proofs.Yteddoandjgjleaa

namespace Go.Proofs.Yteddoandjgjleaa
open Go Go.Proofs Ev
set_option maxRecDepth 100000
theorem slices_symMerge (f : FuncId) (lt : Ent → Ent → Bool) (hw : Wk lt) (hf : CmpOk f lt) : ∀ n, SymM f lt n := by
  intro n
  induction n using Nat.strongRecOn with
  | _ n ih =>
    intro x c d y l r a m b hl hr ha hm hb hc hd sc sd hcd hx
    by_cases h1 : c.length = 1
    · exact symMerge_left f lt hw hf x c d y l r a m b hl hr ha hm hb h1 hd sd hx
    · by_cases h2 : d.length = 1
      · exact symMerge_right f lt hw hf x c d y l r a m b hl hr ha hm hb (by omega) h2 sc hx
      · by_cases h3 : (a + b) / 2 < m
        · exact symMerge_hi f lt hw hf n ih x c d y l r a m b _ hl hr ha hm hb (by omega) (by omega) sc sd hcd hx rfl h3
        · exact symMerge_lo f lt hw hf n ih x c d y l r a m b _ hl hr ha hm hb (by omega) (by omega) sc sd hcd hx rfl (by omega)
end Go.Proofs.Yteddoandjgjleaa

namespace Go.Proofs.Yteddoandjgjleaa
open Go Go.Proofs Ev
set_option maxRecDepth 100000
theorem ins_call (f : FuncId) (lt : Ent → Ent → Bool) (hf : CmpOk f lt) (l r : List Ent) (a b : Nat) (hr : r = sortRange lt l a b) (hab : a ≤ b) (hb : b ≤ l.length) (hx : l.length ≤ 1099511627776) :
    AFn Try.prog 136 [.one (.ref 0 0 (.cell 0)), av (.int .i64 a), av (.int .i64 b), av (.func (.func f) #[] #[])] [[.us 82 (l.map Ent.enc)]] (.tup []) [[.us 82 (r.map Ent.enc)]] := by
  subst hr; exact slices_insertionSort f lt hf l a b hab hb hx
set_option maxHeartbeats 2000000
theorem slices_stable (f : FuncId) (lt : Ent → Ent → Bool) (hw : Wk lt) (hf : CmpOk f lt) (xs : List Ent) (n : Nat) (hn : n = xs.length) (hx : xs.length ≤ 1099511627776) :
    AFn Try.prog 125 [.one (.ref 0 0 (.cell 0)), av (.int .i64 n), av (.func (.func f) #[] #[])] [[.us 82 (xs.map Ent.enc)]] (.tup []) [[.us 82 ((isort lt xs).map Ent.enc)]] := by
  refine AFn.introX (E := En 1 (md1 [137, 136])) (en_ok 1 _) Try.func125 rfl rfl rfl fun _ hs => ?_
  let S : List Ent → Nat → Option AV → Option AV → St := fun ys w a b => ⟨some (.one (.ref 0 0 (.cell 0))) :: some (av (.int .i64 n)) :: some (av (.func (.func f) #[] #[])) :: none :: none :: none :: some (av (.int .i64 w)) :: a :: b :: List.replicate 54 none, ⟨0, 1, some [.us 82 (ys.map Ent.enc)]⟩ :: List.replicate 63 absent⟩
  refine ALoop.mk (fun k s => ∃ j : Nat, 20 * j ≤ n ∧ k = n - 20 * j ∧ s = S (sb lt 20 j xs ++ xs.drop (20 * j)) 20 (some (av (.int .i64 ((20 * j : Nat) : Int)))) (some (av (.int .i64 ((20 * j + 20 : Nat) : Int)))))
    ⟨n, _, Weak.nrm [true, true, true, false, false, false, true, true, true] [(0, 0)] rfl rfl rfl, 0, Nat.zero_le _, rfl, rfl⟩ ?_
  rintro k s ⟨j, hj, rfl, hs⟩
  have hsl : (sb lt 20 j xs).length = 20 * j := sb_len lt 20 j xs (by omega)
  have hyl : (sb lt 20 j xs ++ xs.drop (20 * j)).length = xs.length := by rw [List.length_append, hsl, List.length_drop]; omega
  by_cases hb : 20 * j + 20 ≤ n
  · have H := ins_call f lt hf (sb lt 20 j xs ++ xs.drop (20 * j)) (sb lt 20 (j + 1) xs ++ xs.drop (20 * (j + 1))) (20 * j) (20 * j + 20) (by rw [sortRange_app lt hsl.symm (by omega), sb_snoc, List.drop_drop, show 20 * j + 20 - 20 * j = 20 by omega, show 20 * j + 20 = 20 * (j + 1) by omega]) (by omega) (by rw [hyl]; omega) (by rw [hyl]; exact hx)
    subst hs
    refine Split.mk fun t ht => ?_
    cases t
    · simp at ht; omega
    refine ACall.mk _ _ H ?_
    refine Num.mk ((20 * j + 20 + 20 : Nat) : Int) (wrapI' (by omega) (by omega)) ?_
    exact ⟨n - 20 * (j + 1), _, by omega, Weak.nrm [true, true, true, false, false, false, true, true, true] [(0, 0)] rfl rfl rfl, j + 1, by omega, rfl, rfl⟩
  · have H := ins_call f lt hf (sb lt 20 j xs ++ xs.drop (20 * j)) (tl lt 20 xs) (20 * j) n (by
      have e1 : (xs.drop (20 * j)).take (n - 20 * j) = xs.drop (20 * j) := List.take_of_length_le (by rw [List.length_drop]; omega)
      have e2 : (xs.drop (20 * j)).drop (n - 20 * j) = [] := List.drop_eq_nil_of_le (by rw [List.length_drop]; omega)
      rw [sortRange_app lt hsl.symm (by omega), e1, e2, List.append_nil, ← sb_tl lt (w := 20) (by omega) j xs, tl_short lt (w := 20) (by omega) (by rw [List.length_drop]; omega)]) (by omega) (by rw [hyl]; omega) (by rw [hyl]; exact hx)
    subst hs
    refine Split.mk fun t ht => ?_
    cases t
    case true => simp at ht; omega
    refine ACall.mk _ _ H ?_
    refine ALoop.mk (fun k s => ∃ w : Nat, 20 ≤ w ∧ (w < 2 * n ∨ w = 20) ∧ k = n - w ∧ s = S (tl lt w xs) w none none)
      ⟨n - 20, _, Weak.nrm [true, true, true, false, false, false, true] [(0, 0)] rfl rfl rfl, 20, Nat.le_refl _, .inr rfl, rfl, rfl⟩ ?_
    rintro k s ⟨w, hw20, hw2, rfl, hs⟩
    by_cases hwn : n ≤ w
    · rw [tl_short lt (by omega) (by omega)] at hs
      subst hs
      refine Split.mk fun t ht => ?_
      cases t
      · exact Need.mk ⟨[], _, .same, rfl, rfl⟩ trivial
      · simp at ht; omega
    · subst hs
      refine Split.mk fun t ht => ?_
      cases t
      · simp at ht; omega
      refine Num.mk ((2 * w : Nat) : Int) (wrapI' (by omega) (by omega)) ?_
      refine ALoop.mk (fun k s => ∃ j p : Nat, p = 2 * w * j ∧ p ≤ n ∧ k = n - p ∧ s = S (sb lt (2 * w) j xs ++ tl lt w (xs.drop (p))) w (some (av (.int .i64 ((p : Nat) : Int)))) (some (av (.int .i64 ((p + 2 * w : Nat) : Int)))))
        ⟨n, _, Weak.nrm [true, true, true, false, false, false, true, true, true] [(0, 0)] rfl rfl rfl, 0, 0, rfl, Nat.zero_le _, rfl, by rw [Nat.zero_add]; rfl⟩ ?_
      rintro k s ⟨j, p, hp, hj, rfl, hs⟩
      have hsl : (sb lt (2 * w) j xs).length = p := hp ▸ sb_len lt (2 * w) j xs (by rw [← hp]; omega)
      have htl : (tl lt w (xs.drop (p))).length = xs.length - p := by rw [tl_len lt (by omega) _ _ (Nat.le_refl _), List.length_drop]
      have hyl : (sb lt (2 * w) j xs ++ tl lt w (xs.drop (p))).length = xs.length := by rw [List.length_append, hsl, htl]; omega
      have hmul : p + 2 * w = 2 * w * (j + 1) := by rw [hp]; exact (Nat.mul_succ _ _).symm
      have c1 := tl_cons lt (w := w) (by omega) (xs.drop (p))
      by_cases hb : p + 2 * w ≤ n
      · have c2 := tl_cons lt (w := w) (by omega) ((xs.drop (p)).drop w)
        have hlen1 : ((xs.drop (p)).take w).length = w := by rw [List.length_take, List.length_drop]; omega
        have hlen2 : (((xs.drop (p)).drop w).take w).length = w := by rw [List.length_take, List.length_drop, List.length_drop]; omega
        have htk : (xs.drop (p)).take (2 * w) = (xs.drop (p)).take w ++ ((xs.drop (p)).drop w).take w := by rw [← List.take_add, show w + w = 2 * w by omega]
        have e3 : ((xs.drop (p)).drop w).drop w = xs.drop (p + 2 * w) := by rw [List.drop_drop, List.drop_drop]; congr 1; omega
        have H := slices_symMerge f lt hw hf (2 * w) (sb lt (2 * w) j xs) (isort lt ((xs.drop (p)).take w)) (isort lt (((xs.drop (p)).drop w).take w)) (tl lt w (((xs.drop (p)).drop w).drop w)) (sb lt (2 * w) j xs ++ tl lt w (xs.drop (p))) (sb lt (2 * w) (j + 1) xs ++ tl lt w (xs.drop (p + 2 * w))) (p) (p + w) (p + 2 * w)
          (by rw [c1, c2]; simp only [List.append_assoc]) (by rw [sb_snoc, ← hp, htk, isort_app hw, e3]) hsl.symm (by rw [isort_len]; omega) (by rw [isort_len, isort_len]; omega) (by rw [isort_len]; omega) (by rw [isort_len]; omega) (srt_isort hw _) (srt_isort hw _) (by rw [isort_len, isort_len]; omega) (by rw [hyl]; exact hx)
        subst hs
        refine Split.mk fun t ht => ?_
        cases t
        · simp at ht; omega
        refine Num.mk ((p + w : Nat) : Int) (wrapI' (by omega) (by omega)) ?_
        refine ACall.mk _ _ H ?_
        refine Num.mk ((2 * w : Nat) : Int) (wrapI' (by omega) (by omega)) ?_
        refine Num.mk ((p + 2 * w + 2 * w : Nat) : Int) (wrapI' (by omega) (by omega)) ?_
        refine ⟨n - (p + 2 * w), _, by omega, Weak.nrm [true, true, true, false, false, false, true, true, true] [(0, 0)] rfl rfl rfl, j + 1, p + 2 * w, hmul, by omega, rfl, rfl⟩
      · have fin : sb lt (2 * w) j xs ++ tl lt (2 * w) (xs.drop (p)) = tl lt (2 * w) xs := hp ▸ sb_tl lt (by omega) j xs
        rw [tl_short lt (w := 2 * w) (by omega) (by rw [List.length_drop]; omega)] at fin
        by_cases hm : p + w < n
        · have c2 := tl_short lt (w := w) (by omega) (l := (xs.drop (p)).drop w) (by rw [List.length_drop, List.length_drop]; omega)
          have hlen1 : ((xs.drop (p)).take w).length = w := by rw [List.length_take, List.length_drop]; omega
          have hlen2 : ((xs.drop (p)).drop w).length = n - (p + w) := by rw [List.length_drop, List.length_drop]; omega
          have H := slices_symMerge f lt hw hf (2 * w) (sb lt (2 * w) j xs) (isort lt ((xs.drop (p)).take w)) (isort lt ((xs.drop (p)).drop w)) [] (sb lt (2 * w) j xs ++ tl lt w (xs.drop (p))) (tl lt (2 * w) xs) (p) (p + w) n
            (by rw [c1, c2]; simp only [List.append_assoc, List.append_nil]) (by rw [← isort_app hw, List.take_append_drop, List.append_nil, fin]) hsl.symm (by rw [isort_len]; omega) (by rw [isort_len, isort_len]; omega) (by rw [isort_len]; omega) (by rw [isort_len]; omega) (srt_isort hw _) (srt_isort hw _) (by rw [isort_len, isort_len]; omega) (by rw [hyl]; exact hx)
          subst hs
          refine Split.mk fun t ht => ?_
          cases t
          case true => simp at ht; omega
          refine Num.mk ((p + w : Nat) : Int) (wrapI' (by omega) (by omega)) ?_
          refine Split.mk fun t ht => ?_
          cases t
          · simp at ht; omega
          refine ACall.mk _ _ H ?_
          refine Num.mk ((2 * w : Nat) : Int) (wrapI' (by omega) (by omega)) ?_
          exact ⟨n - 2 * w, _, by omega, Weak.nrm [true, true, true, false, false, false, true] [(0, 0)] rfl rfl rfl, 2 * w, by omega, .inl (by omega), rfl, rfl⟩
        · rw [tl_short lt (w := w) (by omega) (by rw [List.length_drop]; omega), fin] at hs
          subst hs
          refine Split.mk fun t ht => ?_
          cases t
          case true => simp at ht; omega
          refine Num.mk ((p + w : Nat) : Int) (wrapI' (by omega) (by omega)) ?_
          refine Split.mk fun t ht => ?_
          cases t
          case true => simp at ht; omega
          refine Num.mk ((2 * w : Nat) : Int) (wrapI' (by omega) (by omega)) ?_
          exact ⟨n - 2 * w, _, by omega, Weak.nrm [true, true, true, false, false, false, true] [(0, 0)] rfl rfl rfl, 2 * w, by omega, .inl (by omega), rfl, rfl⟩
theorem slices_SortStable (f : FuncId) (lt : Ent → Ent → Bool) (hw : Wk lt) (hf : CmpOk f lt) (xs : List Ent) (hx : xs.length ≤ 1099511627776) :
    AFn Try.prog 90 [.one (.ref 0 0 (.cell 0)), av (.func (.func f) #[] #[])] [[.us 82 (xs.map Ent.enc)]] (.tup []) [[.us 82 ((isort lt xs).map Ent.enc)]] := by
  refine AFn.introX (E := En 1 (md1 [125])) (en_ok 1 _) Try.func90 rfl rfl rfl fun _ hs => ?_
  refine ACall.mk _ _ (slices_stable f lt hw hf xs (xs.map Ent.enc).length (List.length_map ..) hx) ?_
  exact Need.mk ⟨[], _, .same, rfl, rfl⟩ trivial
end Go.Proofs.Yteddoandjgjleaa

namespace Go.Proofs.Yteddoandjgjleaa
open Go Go.Proofs Ev
set_option maxRecDepth 100000
theorem cmp_isNaN_S (a : ByteArray) : AFn Try.prog 138 [av (.string a)] [] (rb false) [] := by
  refine AFn.introX (E := En 0 md0) (en_ok 0 md0) Try.func138 rfl rfl rfl fun _ _ => ?_
  refine Split.mk fun t ht => ?_
  cases t
  · exact Need.mk ⟨[], _, .same, rfl, rfl⟩ trivial
  · simp at ht
theorem cmp_Compare_S (a b : ByteArray) : AFn Try.prog 127 [av (.string a), av (.string b)] [] (.one (vi (scmp a b))) [] := by
  refine AFn.introX (E := En 0 md0) (en_ok 0 md0) Try.func127 rfl rfl rfl fun _ _ => ?_
  have fin : ∀ {z : Int}, z = scmp a b → RV.one (vi z) = RV.one (vi (scmp a b)) := fun h => by rw [h]
  refine ACall.mk _ _ (cmp_isNaN_S a) ?_
  refine Split.mk fun t ht => ?_
  cases t
  case true => cases ht
  refine ACall.mk _ _ (cmp_isNaN_S b) ?_
  refine Split.mk fun t ht => ?_
  cases t
  case true => cases ht
  refine Split.mk fun t ht1 => ?_
  have ht1 : slt a b = t := ht1
  cases t
  · refine Split.mk fun t ht2 => ?_
    rw [str_gt] at ht2
    cases t
    · exact Need.mk ⟨[], _, .same, fin (by unfold scmp; simp [ht1, ht2]), rfl⟩ trivial
    · exact Need.mk ⟨[], _, .same, fin (by unfold scmp; simp [ht1, ht2]), rfl⟩ trivial
  · exact Need.mk ⟨[], _, .same, fin (by unfold scmp; simp [ht1]), rfl⟩ trivial
theorem cmp_isNaN_I (a : Int) : AFn Try.prog 139 [av (.int .i64 a)] [] (rb false) [] := by
  refine AFn.introX (E := En 0 md0) (en_ok 0 md0) Try.func139 rfl rfl rfl fun _ _ => ?_
  refine Split.mk fun t ht => ?_
  cases t
  · exact Need.mk ⟨[], _, .same, rfl, rfl⟩ trivial
  · simp at ht
theorem cmp_Compare_I (a b : Int) : AFn Try.prog 128 [av (.int .i64 a), av (.int .i64 b)] [] (.one (vi (icmp a b))) [] := by
  refine AFn.introX (E := En 0 md0) (en_ok 0 md0) Try.func128 rfl rfl rfl fun _ _ => ?_
  have fin : ∀ {z : Int}, z = icmp a b → RV.one (vi z) = RV.one (vi (icmp a b)) := fun h => by rw [h]
  refine ACall.mk _ _ (cmp_isNaN_I a) ?_
  refine Split.mk fun t ht => ?_
  cases t
  case true => cases ht
  refine ACall.mk _ _ (cmp_isNaN_I b) ?_
  refine Split.mk fun t ht => ?_
  cases t
  case true => cases ht
  refine Split.mk fun t ht1 => ?_
  have ht1 : decide (a < b) = t := ht1
  cases t
  · refine Split.mk fun t ht2 => ?_
    have ht2 : decide (b < a) = t := ht2
    cases t
    · exact Need.mk ⟨[], _, .same, fin (by simp at ht1 ht2; simp [icmp]; omega), rfl⟩ trivial
    · exact Need.mk ⟨[], _, .same, fin (by simp at ht1 ht2; simp [icmp]; omega), rfl⟩ trivial
  · exact Need.mk ⟨[], _, .same, fin (by unfold icmp; simp only [decide_eq_true_eq] at ht1; simp [ht1]), rfl⟩ trivial
theorem cmp_Or (xs : List Int) (hx : xs.length ≤ 1048576) : AFn Try.prog 126 [sl (xs.map encI)] [] (.one (vi (firstNZ xs))) [] := by
  refine AFn.introX (E := En 0 md0) (en_ok 0 md0) Try.func126 rfl rfl rfl fun _ _ => ?_
  have hn : (xs.map encI).length = xs.length := List.length_map ..
  have fin : ∀ {z : Int}, z = firstNZ xs → RV.one (vi z) = RV.one (vi (firstNZ xs)) := fun h => by rw [h]
  refine ALoop.mk (fun m s => ∃ i : Nat, i ≤ xs.length ∧ m = xs.length - i ∧ (∀ x ∈ xs.take i, x = 0) ∧
      s = ⟨some (sl (xs.map encI)) :: none :: some (av (.int .i64 0)) :: some (av (.int .i64 0)) :: none :: none :: some (sl (xs.map encI)) :: some (av (.int .i64 xs.length)) :: some (av (.int .i64 i)) :: List.replicate 9 none, List.replicate 18 absent⟩)
    ⟨xs.length, _, Weak.nrm [true, false, true, true, false, false, true, true, true] [] rfl rfl rfl, 0, Nat.zero_le _, rfl, by simp, by rw [show ((xs.length : Nat) : Int) = ((xs.map encI).length : Nat) by rw [List.length_map]]; rfl⟩ ?_
  rintro m s ⟨i, hi, rfl, hz, rfl⟩
  refine Split.mk fun t ht => ?_
  cases t
  · have hin : i = xs.length := by simp at ht; omega
    subst hin
    rw [List.take_length] at hz
    exact Need.mk ⟨[], _, .same, fin (by have := firstNZ_app (m := []) hz; simpa [firstNZ] using this.symm), rfl⟩ trivial
  · have hia : i < xs.length := by simpa using ht
    refine Need.mk (by omega) ?_
    refine Row.mk _ (map_get _ xs i hia) ?_
    refine Split.mk fun t ht2 => ?_
    have hsp : firstNZ xs = firstNZ (xs[i] :: xs.drop (i + 1)) := by
      conv => lhs; rw [← List.take_append_drop i xs, List.drop_eq_getElem_cons hia]
      exact firstNZ_app hz
    cases t
    · have h0 : xs[i] = 0 := by simpa using ht2
      refine Num.mk _ (wrapS (by omega)) ?_
      refine ⟨xs.length - (i + 1), _, by omega, Weak.nrm [true, false, true, true, false, false, true, true, true] [] rfl rfl rfl, i + 1, by omega, rfl, fun x hx => ?_, rfl⟩
      rw [List.take_succ_eq_append_getElem hia] at hx
      rcases List.mem_append.1 hx with hx | hx
      · exact hz x hx
      · rw [List.mem_singleton.1 hx]; exact h0
    · have h0 : xs[i] ≠ 0 := by simpa using ht2
      exact Need.mk ⟨[], _, .same, fin (by rw [hsp]; simp only [firstNZ]; rw [if_neg h0]), rfl⟩ trivial
theorem impl_entryOrder (a b : Ent) : AFn Try.prog 91 [.agg (a.enc.map .c), .agg (b.enc.map .c)] [] (.one (vi (eord a b))) [] := by
  refine AFn.introX (E := En 0 md0) (en_ok 0 md0) Try.func91 rfl rfl rfl fun _ _ => ?_
  refine ACall.mk _ _ (cmp_Compare_S a.key b.key) ?_
  refine ACall.mk _ _ (cmp_Compare_I b.seq a.seq) ?_
  refine Fz.mk _ (frzI [scmp a.key b.key, icmp b.seq a.seq]) ?_
  refine ACall.mk _ _ (cmp_Or [scmp a.key b.key, icmp b.seq a.seq] (by simp)) ?_
  refine Need.mk ⟨closed_v, no_objs⟩ ?_
  refine Need.mk rfl ?_
  exact Need.mk ⟨[], _, .same, rfl, rfl⟩ trivial
theorem entryOrder_ok : CmpOk 91 eLess := ⟨eord, eord_lt, impl_entryOrder⟩
end Go.Proofs.Yteddoandjgjleaa

namespace Go.Proofs.Yteddoandjgjleaa
open Go Go.Proofs Ev
set_option maxRecDepth 100000
set_option maxHeartbeats 1000000
theorem impl_RunOf_bad (xs : List Ent) (hx : OkE xs) (hg : good xs = false) : AFn Try.prog 49 [sl (xs.map Ent.enc)] [] (.tup [.agg [.us 82 [], vi 0], .one (vb false)]) [] := by
  refine AFn.introX (E := En 0 (md1 [90])) (en_ok 0 _) Try.func49 rfl rfl rfl fun _ _ => ?_
  have hn : (xs.map Ent.enc).length = xs.length := List.length_map ..
  have hO : OkE (isort eLess xs) := fun e he => hx e ((isort_mem _ _ _).1 he)
  refine Split.mk fun t h1 => ?_
  rw [hn] at h1
  cases t
  case true => exact Need.mk ⟨[], _, .same, rfl, rfl⟩ trivial
  refine Split.mk fun t h2 => ?_
  rw [hn] at h2
  cases t
  case true => exact Need.mk ⟨[], _, .same, rfl, rfl⟩ trivial
  have hl : 1 ≤ xs.length ∧ xs.length ≤ 150 := by simp at h1 h2; omega
  have ho : ordOk (isort eLess xs) = false := by simpa [good, hl] using hg
  refine Need.mk ⟨plainE xs, lenE xs⟩ ?_
  refine Need.mk ⟨by simp only [hn, List.length_nil]; omega, by simp only [hn, List.length_nil, maxLen]; omega⟩ ?_
  refine ACall.mk _ _ (slices_SortStable 91 eLess eLess_wk entryOrder_ok xs (by omega)) ?_
  refine Fz.mk _ (frzE (isort eLess xs)) ?_
  refine ACall.mk _ _ (impl_inOrder (isort eLess xs) hO (by rw [isort_len]; omega)) ?_
  refine Need.mk ⟨closed_v, no_objs⟩ ?_
  refine Split.mk fun t h3 => ?_
  cases t
  · exact Need.mk ⟨[], _, .same, rfl, rfl⟩ trivial
  · rw [ho] at h3; cases h3
theorem impl_RunOf_ok (xs : List Ent) (hx : OkE xs) (hg : good xs = true) : AFn Try.prog 49 [sl (xs.map Ent.enc)] [] (.tup [.agg [.us 82 ((isort eLess xs).map Ent.enc), vi (rmask (isort eLess xs) : Nat)], .one (vb true)]) [] := by
  refine AFn.introX (E := En 0 (md1 [90])) (en_ok 0 _) Try.func49 rfl rfl rfl fun _ _ => ?_
  have hn : (xs.map Ent.enc).length = xs.length := List.length_map ..
  have hO : OkE (isort eLess xs) := fun e he => hx e ((isort_mem _ _ _).1 he)
  have hl : 1 ≤ xs.length ∧ xs.length ≤ 150 ∧ ordOk (isort eLess xs) = true := by simpa [good] using hg
  refine Split.mk fun t h1 => ?_
  rw [hn] at h1
  cases t
  case true => simp at h1; omega
  refine Split.mk fun t h2 => ?_
  rw [hn] at h2
  cases t
  case true => simp at h2; omega
  refine Need.mk ⟨plainE xs, lenE xs⟩ ?_
  refine Need.mk ⟨by simp only [hn, List.length_nil]; omega, by simp only [hn, List.length_nil, maxLen]; omega⟩ ?_
  refine ACall.mk _ _ (slices_SortStable 91 eLess eLess_wk entryOrder_ok xs (by omega)) ?_
  refine Fz.mk _ (frzE (isort eLess xs)) ?_
  refine ACall.mk _ _ (impl_inOrder (isort eLess xs) hO (by rw [isort_len]; omega)) ?_
  refine Need.mk ⟨closed_v, no_objs⟩ ?_
  refine Split.mk fun t h3 => ?_
  cases t
  case false => rw [hl.2.2] at h3; cases h3
  have hex : ∃ ys, isort eLess xs = ys := ⟨_, rfl⟩
  obtain ⟨ys, hy⟩ := hex
  have hyl : ys.length ≤ 150 := by rw [← hy, isort_len]; omega
  have hyO : OkE ys := by rw [← hy]; exact hO
  let S : Nat → Int → St := fun i mm => ⟨none :: none :: some (.bx 2 0) :: some (av (.bool false)) :: some (.one (.ref 4 0 (.cell 0))) :: some (av (.int .i64 mm)) :: none :: none :: none :: none :: none :: none :: none :: none :: none :: none :: none :: none :: none :: none :: none :: none :: none :: none :: none :: some (.one (.ref 4 0 (.cell 0))) :: some (av (.int .i64 ((ys.map Ent.enc).length : Nat))) :: some (av (.int .i64 i)) :: List.replicate 12 none, absent :: absent :: ⟨0, 0, some [.us 82 [], vi 0]⟩ :: absent :: ⟨0, 1, some [.us 82 (ys.map Ent.enc)]⟩ :: List.replicate 35 absent⟩
  refine ALoop.mk (fun m s => ∃ i : Nat, i ≤ ys.length ∧ m = ys.length - i ∧ s = S i (rmask (ys.take i) : Nat))
    ⟨ys.length, _, Weak.nrm [false, false, true, true, true, true, false, false, false, false, false, false, false, false, false, false, false, false, false, false, false, false, false, false, false, true, true, true] [(2, 2), (18, 4)] rfl rfl rfl, 0, Nat.zero_le _, rfl, ?_⟩ ?_
  · subst hy
    rfl
  rintro m s ⟨i, hi, rfl, hs⟩
  by_cases hin : i = ys.length
  · subst hin
    rw [List.take_length] at hs
    subst hs
    refine Split.mk fun t ht => ?_
    cases t
    · exact Need.mk ⟨[], _, .same, by rw [hy]; rfl, rfl⟩ trivial
    · rw [List.length_map] at ht; simp at ht
  · have hia : i < ys.length := by omega
    have he := rmask_snoc (ys.take i) ys[i]
    rw [← List.take_succ_eq_append_getElem hia] at he
    have hor : IntKind.i64.wrap (((BitVec.ofInt IntKind.i64.bits ((rmask (ys.take i) : Nat) : Int) ||| BitVec.ofInt IntKind.i64.bits ((kmask ys[i].key : Nat) : Int)).toNat : Nat) : Int) = ((rmask (ys.take (i + 1)) : Nat) : Int) := by
      rw [he]; exact orN (rmask_lt _) (kmask_lt _)
    subst hs
    refine Split.mk fun t ht => ?_
    rw [List.length_map] at ht
    cases t
    · simp at ht; omega
    refine Need.mk ⟨by omega, by rw [List.length_map]; omega⟩ ?_
    refine Row.mk _ (map_get _ ys i hia) ?_
    refine ACall.mk _ _ (impl_KeyMask ys[i].key (hyO _ (List.getElem_mem _)).1) ?_
    refine Num.mk _ (wrapS (by omega)) ?_
    exact ⟨ys.length - (i + 1), _, by omega, Weak.nrm [false, false, true, true, true, true, false, false, false, false, false, false, false, false, false, false, false, false, false, false, false, false, false, false, false, true, true, true] [(2, 2), (4, 4)] rfl rfl rfl, i + 1, by omega, rfl, congrArg (S (i + 1)) hor⟩
end Go.Proofs.Yteddoandjgjleaa

namespace Go.Proofs.Yteddoandjgjleaa
open Go Go.Proofs Ev
set_option maxRecDepth 100000
theorem spec_l4Mask (xs : List Ent) (hx : OkE xs) (hxl : xs.length ≤ 1099511627776) : AFn Try.prog 112 [sl (xs.map Ent.enc)] [] (.one (vi (rmask xs : Nat))) [] := by
  refine AFn.introX (E := En 0 md0) (en_ok 0 md0) Try.func112 rfl rfl rfl fun _ _ => ?_
  have hn : (xs.map Ent.enc).length = xs.length := List.length_map ..
  refine ALoop.mk (fun m s => ∃ i : Nat, i ≤ xs.length ∧ m = xs.length - i ∧ s = ⟨some (sl (xs.map Ent.enc)) :: none :: some (av (.int .i64 0)) :: some (av (.int .i64 (rmask (xs.take i) : Nat))) :: some (av (.int .i64 i)) :: List.replicate 15 none, List.replicate 20 absent⟩)
    ⟨xs.length, _, Weak.nrm [true, false, true, true, true] [] rfl rfl rfl, 0, Nat.zero_le _, rfl, rfl⟩ ?_
  rintro m s ⟨i, hi, rfl, hs⟩
  by_cases hin : i = xs.length
  · subst hin
    rw [List.take_length] at hs
    subst hs
    refine Split.mk fun t ht => ?_
    rw [hn] at ht
    cases t
    · exact Need.mk ⟨[], _, .same, rfl, rfl⟩ trivial
    · simp at ht
  · have hia : i < xs.length := by omega
    have he := rmask_snoc (xs.take i) xs[i]
    rw [← List.take_succ_eq_append_getElem hia] at he
    subst hs
    refine Split.mk fun t ht => ?_
    rw [hn] at ht
    cases t
    · simp at ht; omega
    refine Need.mk (by omega) ?_
    refine Row.mk _ (map_get _ xs i hia) ?_
    refine ACall.mk _ _ (spec_KeyMask xs[i].key (hx _ (List.getElem_mem _)).1) ?_
    refine ACall.mk _ _ (spec_l4Or (rmask (xs.take i)) (kmask xs[i].key) (rmask_lt _) (kmask_lt _)) ?_
    refine Num.mk _ (wrapS (by omega)) ?_
    exact ⟨xs.length - (i + 1), _, by omega, Weak.nrm [true, false, true, true, true] [] rfl rfl rfl, i + 1, by omega, rfl, by rw [he]; rfl⟩
end Go.Proofs.Yteddoandjgjleaa

namespace Go.Proofs.Yteddoandjgjleaa
open Go Go.Proofs Ev
set_option maxRecDepth 100000
theorem spec_l4Same (a b : List Ent) : AFn Try.prog 74 [sl (a.map Ent.enc), sl (b.map Ent.enc)] [] (rb (decide (a = b))) [] := by
  refine AFn.introX (E := En 0 md0) (en_ok 0 md0) Try.func74 rfl rfl rfl fun hs _ => ?_
  have ha := Small.len (hs _ (List.mem_cons_self ..))
  rw [List.length_map] at ha
  have fin : ∀ {c : Bool}, c = decide (a = b) → rb c = rb (decide (a = b)) := fun h => by rw [h]
  refine Split.mk fun t ht => ?_
  cases t
  · have hl : a.length = b.length := Int.ofNat_inj.1 (by simpa using ht)
    refine ALoop.mk (fun n s => ∃ i : Nat, i ≤ a.length ∧ n = a.length - i ∧ a.take i = b.take i ∧
      s = ⟨some (sl (a.map Ent.enc)) :: some (sl (b.map Ent.enc)) :: none :: none :: some (av (.bool false)) :: some (av (.int .i64 i)) :: List.replicate 20 none, List.replicate 26 absent⟩)
      ⟨a.length, _, Weak.nrm [true, true, false, false, true, true] [] rfl rfl rfl, 0, Nat.zero_le _, rfl, rfl, rfl⟩ ?_
    rintro n s ⟨i, hi, rfl, hp, rfl⟩
    refine Split.mk fun t ht => ?_
    cases t
    · have hia : i = a.length := by simp at ht; omega
      refine Need.mk ⟨[], _, .same, fin ?_, rfl⟩ trivial
      subst hia
      rw [List.take_length, hl, List.take_length] at hp
      simp [hp]
    · have hia : i < a.length := by simpa using ht
      refine Need.mk (by omega) ?_
      refine Row.mk _ (map_get _ a i hia) ?_
      refine Need.mk (by omega) ?_
      refine Row.mk _ (map_get _ b i (by omega)) ?_
      refine Split.mk fun t ht2 => ?_
      have ht2 : (!decide (a[i] = b[i]'(by omega))) = t := by rw [← ent_beq]; exact ht2
      cases t
      · refine Need.mk rfl ?_
        refine Num.mk _ (wrapS (by omega)) ?_
        refine ⟨a.length - (i + 1), _, by omega, Weak.nrm [true, true, false, false, true, true] [] rfl rfl rfl, i + 1, by omega, rfl, ?_, rfl⟩
        have : a[i] = b[i]'(by omega) := by simpa using ht2
        rw [List.take_succ_eq_append_getElem hia, List.take_succ_eq_append_getElem (by omega), hp, this]
      · refine Need.mk rfl ?_
        refine Need.mk ⟨[], _, .same, fin ?_, rfl⟩ trivial
        have : a[i] ≠ b[i]'(by omega) := by simpa using ht2
        refine (decide_eq_false fun e => this ?_).symm
        subst e; rfl
  · refine Need.mk ⟨[], _, .same, fin ?_, rfl⟩ trivial
    have : a.length ≠ b.length := by
      intro e; simp [e] at ht
    exact (decide_eq_false fun e => this (by rw [e])).symm
theorem spec_l5Ints (a b : List Int) : AFn Try.prog 76 [sl (a.map encI), sl (b.map encI)] [] (rb (decide (a = b))) [] := by
  refine AFn.introX (E := En 0 md0) (en_ok 0 md0) Try.func76 rfl rfl rfl fun hs _ => ?_
  have ha := Small.len (hs _ (List.mem_cons_self ..))
  rw [List.length_map] at ha
  have fin : ∀ {c : Bool}, c = decide (a = b) → rb c = rb (decide (a = b)) := fun h => by rw [h]
  refine Split.mk fun t ht => ?_
  cases t
  · have hl : a.length = b.length := Int.ofNat_inj.1 (by simpa using ht)
    refine ALoop.mk (fun n s => ∃ i : Nat, i ≤ a.length ∧ n = a.length - i ∧ a.take i = b.take i ∧
      s = ⟨some (sl (a.map encI)) :: some (sl (b.map encI)) :: none :: none :: some (av (.bool false)) :: some (av (.int .i64 i)) :: List.replicate 20 none, List.replicate 26 absent⟩)
      ⟨a.length, _, Weak.nrm [true, true, false, false, true, true] [] rfl rfl rfl, 0, Nat.zero_le _, rfl, rfl, rfl⟩ ?_
    rintro n s ⟨i, hi, rfl, hp, rfl⟩
    refine Split.mk fun t ht => ?_
    cases t
    · have hia : i = a.length := by simp at ht; omega
      refine Need.mk ⟨[], _, .same, fin ?_, rfl⟩ trivial
      subst hia
      rw [List.take_length, hl, List.take_length] at hp
      simp [hp]
    · have hia : i < a.length := by simpa using ht
      refine Need.mk (by omega) ?_
      refine Row.mk _ (map_get _ a i hia) ?_
      refine Need.mk (by omega) ?_
      refine Row.mk _ (map_get _ b i (by omega)) ?_
      refine Split.mk fun t ht2 => ?_
      have ht2 : (!decide (a[i] = b[i]'(by omega))) = t := by rw [← ht2, bne, Bool.not_inj_iff, Bool.eq_iff_iff]; simp
      cases t
      · refine Need.mk rfl ?_
        refine Num.mk _ (wrapS (by omega)) ?_
        refine ⟨a.length - (i + 1), _, by omega, Weak.nrm [true, true, false, false, true, true] [] rfl rfl rfl, i + 1, by omega, rfl, ?_, rfl⟩
        have : a[i] = b[i]'(by omega) := by simpa using ht2
        rw [List.take_succ_eq_append_getElem hia, List.take_succ_eq_append_getElem (by omega), hp, this]
      · refine Need.mk rfl ?_
        refine Need.mk ⟨[], _, .same, fin ?_, rfl⟩ trivial
        have : a[i] ≠ b[i]'(by omega) := by simpa using ht2
        refine (decide_eq_false fun e => this ?_).symm
        subst e; rfl
  · refine Need.mk ⟨[], _, .same, fin ?_, rfl⟩ trivial
    have : a.length ≠ b.length := by
      intro e; simp [e] at ht
    exact (decide_eq_false fun e => this (by rw [e])).symm
end Go.Proofs.Yteddoandjgjleaa

namespace Go.Proofs.Yteddoandjgjleaa
open Go Go.Proofs Ev
set_option maxRecDepth 100000
theorem slices_EqualE (a b : List Ent) : AFn Try.prog 79 [sl (a.map Ent.enc), sl (b.map Ent.enc)] [] (rb (decide (a = b))) [] := by
  refine AFn.introX (E := En 0 md0) (en_ok 0 md0) Try.func79 rfl rfl rfl fun hs _ => ?_
  have ha := Small.len (hs _ (List.mem_cons_self ..))
  rw [List.length_map] at ha
  have fin : ∀ {c : Bool}, c = decide (a = b) → rb c = rb (decide (a = b)) := fun h => by rw [h]
  refine Split.mk fun t ht => ?_
  cases t
  · have hl : a.length = b.length := Int.ofNat_inj.1 (by simpa using ht)
    refine ALoop.mk (fun n s => ∃ i : Nat, i ≤ a.length ∧ n = a.length - i ∧ a.take i = b.take i ∧
      s = ⟨some (sl (a.map Ent.enc)) :: some (sl (b.map Ent.enc)) :: none :: none :: some (av (.bool false)) :: none :: none :: none :: none :: none :: none :: none :: some (av (.int .i64 a.length)) :: some (av (.int .i64 i)) :: List.replicate 12 none, List.replicate 26 absent⟩)
      ⟨a.length, _, Weak.nrm [true, true, false, false, true, false, false, false, false, false, false, false, true, true] [] rfl rfl rfl, 0, Nat.zero_le _, rfl, rfl, by rw [show ((a.length : Nat) : Int) = ((a.map Ent.enc).length : Nat) by rw [List.length_map]]; rfl⟩ ?_
    rintro n s ⟨i, hi, rfl, hp, rfl⟩
    refine Split.mk fun t ht => ?_
    cases t
    · have hia : i = a.length := by simp at ht; omega
      refine Need.mk ⟨[], _, .same, fin ?_, rfl⟩ trivial
      subst hia
      rw [List.take_length, hl, List.take_length] at hp
      simp [hp]
    · have hia : i < a.length := by simpa using ht
      refine Need.mk (by omega) ?_
      refine Row.mk _ (map_get _ a i hia) ?_
      refine Need.mk (by omega) ?_
      refine Row.mk _ (map_get _ b i (by omega)) ?_
      refine Split.mk fun t ht2 => ?_
      have ht2 : (!decide (a[i] = b[i]'(by omega))) = t := by rw [← ent_beq]; exact ht2
      cases t
      · refine Need.mk rfl ?_
        refine Num.mk _ (wrapS (by omega)) ?_
        refine ⟨a.length - (i + 1), _, by omega, Weak.nrm [true, true, false, false, true, false, false, false, false, false, false, false, true, true] [] rfl rfl rfl, i + 1, by omega, rfl, ?_, rfl⟩
        have : a[i] = b[i]'(by omega) := by simpa using ht2
        rw [List.take_succ_eq_append_getElem hia, List.take_succ_eq_append_getElem (by omega), hp, this]
      · refine Need.mk rfl ?_
        refine Need.mk ⟨[], _, .same, fin ?_, rfl⟩ trivial
        have : a[i] ≠ b[i]'(by omega) := by simpa using ht2
        refine (decide_eq_false fun e => this ?_).symm
        subst e; rfl
  · refine Need.mk ⟨[], _, .same, fin ?_, rfl⟩ trivial
    have : a.length ≠ b.length := by
      intro e; simp [e] at ht
    exact (decide_eq_false fun e => this (by rw [e])).symm
theorem slices_EqualI (a b : List Int) : AFn Try.prog 81 [sl (a.map encI), sl (b.map encI)] [] (rb (decide (a = b))) [] := by
  refine AFn.introX (E := En 0 md0) (en_ok 0 md0) Try.func81 rfl rfl rfl fun hs _ => ?_
  have ha := Small.len (hs _ (List.mem_cons_self ..))
  rw [List.length_map] at ha
  have fin : ∀ {c : Bool}, c = decide (a = b) → rb c = rb (decide (a = b)) := fun h => by rw [h]
  refine Split.mk fun t ht => ?_
  cases t
  · have hl : a.length = b.length := Int.ofNat_inj.1 (by simpa using ht)
    refine ALoop.mk (fun n s => ∃ i : Nat, i ≤ a.length ∧ n = a.length - i ∧ a.take i = b.take i ∧
      s = ⟨some (sl (a.map encI)) :: some (sl (b.map encI)) :: none :: none :: some (av (.bool false)) :: none :: none :: none :: none :: none :: none :: none :: some (av (.int .i64 a.length)) :: some (av (.int .i64 i)) :: List.replicate 12 none, List.replicate 26 absent⟩)
      ⟨a.length, _, Weak.nrm [true, true, false, false, true, false, false, false, false, false, false, false, true, true] [] rfl rfl rfl, 0, Nat.zero_le _, rfl, rfl, by rw [show ((a.length : Nat) : Int) = ((a.map encI).length : Nat) by rw [List.length_map]]; rfl⟩ ?_
    rintro n s ⟨i, hi, rfl, hp, rfl⟩
    refine Split.mk fun t ht => ?_
    cases t
    · have hia : i = a.length := by simp at ht; omega
      refine Need.mk ⟨[], _, .same, fin ?_, rfl⟩ trivial
      subst hia
      rw [List.take_length, hl, List.take_length] at hp
      simp [hp]
    · have hia : i < a.length := by simpa using ht
      refine Need.mk (by omega) ?_
      refine Row.mk _ (map_get _ a i hia) ?_
      refine Need.mk (by omega) ?_
      refine Row.mk _ (map_get _ b i (by omega)) ?_
      refine Split.mk fun t ht2 => ?_
      have ht2 : (!decide (a[i] = b[i]'(by omega))) = t := by rw [← ht2, bne, Bool.not_inj_iff, Bool.eq_iff_iff]; simp
      cases t
      · refine Need.mk rfl ?_
        refine Num.mk _ (wrapS (by omega)) ?_
        refine ⟨a.length - (i + 1), _, by omega, Weak.nrm [true, true, false, false, true, false, false, false, false, false, false, false, true, true] [] rfl rfl rfl, i + 1, by omega, rfl, ?_, rfl⟩
        have : a[i] = b[i]'(by omega) := by simpa using ht2
        rw [List.take_succ_eq_append_getElem hia, List.take_succ_eq_append_getElem (by omega), hp, this]
      · refine Need.mk rfl ?_
        refine Need.mk ⟨[], _, .same, fin ?_, rfl⟩ trivial
        have : a[i] ≠ b[i]'(by omega) := by simpa using ht2
        refine (decide_eq_false fun e => this ?_).symm
        subst e; rfl
  · refine Need.mk ⟨[], _, .same, fin ?_, rfl⟩ trivial
    have : a.length ≠ b.length := by
      intro e; simp [e] at ht
    exact (decide_eq_false fun e => this (by rw [e])).symm
end Go.Proofs.Yteddoandjgjleaa

namespace Go.Proofs.Yteddoandjgjleaa
open Go Go.Proofs Ev
set_option maxRecDepth 100000
theorem spec_RunSame (a b : Rn) : AFn Try.prog 60 [.agg (a.enc.map .c), .agg (b.enc.map .c)] [] (rb (decide (a = b))) [] := by
  refine AFn.introX (E := En 0 md0) (en_ok 0 md0) Try.func60 rfl rfl rfl fun _ _ => ?_
  have fin : ∀ {c : Bool}, c = decide (a = b) → rb c = rb (decide (a = b)) := fun h => by rw [h]
  refine Split.mk fun t ht => ?_
  cases t
  · exact Need.mk ⟨[], _, .same, fin (by cases a; cases b; simp_all), rfl⟩ trivial
  · refine ACall.mk _ _ (spec_l4Same a.ents b.ents) ?_
    refine Split.mk fun t ht1 => ?_
    exact Need.mk ⟨[], _, .same, fin (by cases a; cases b; simp_all), rfl⟩ trivial
theorem impl_RunSame (a b : Rn) : AFn Try.prog 55 [.agg (a.enc.map .c), .agg (b.enc.map .c)] [] (rb (decide (a = b))) [] := by
  refine AFn.introX (E := En 0 md0) (en_ok 0 md0) Try.func55 rfl rfl rfl fun _ _ => ?_
  have fin : ∀ {c : Bool}, c = decide (a = b) → rb c = rb (decide (a = b)) := fun h => by rw [h]
  refine Split.mk fun t ht => ?_
  cases t
  · exact Need.mk ⟨[], _, .same, fin (by cases a; cases b; simp_all), rfl⟩ trivial
  · refine ACall.mk _ _ (slices_EqualE a.ents b.ents) ?_
    refine Split.mk fun t ht1 => ?_
    exact Need.mk ⟨[], _, .same, fin (by cases a; cases b; simp_all), rfl⟩ trivial
end Go.Proofs.Yteddoandjgjleaa

namespace Go.Proofs.Yteddoandjgjleaa
open Go Go.Proofs Ev
set_option maxRecDepth 100000
set_option maxHeartbeats 1000000
theorem impl_RunOk (r : Rn) (hr : OkE r.ents) : AFn Try.prog 57 [.agg (r.enc.map .c)] [] (rb (runOk r)) [] := by
  refine AFn.introX (E := En 0 md0) (en_ok 0 _) Try.func57 rfl rfl rfl fun _ _ => ?_
  have heq := runOk_eq r
  have fin : ∀ {c : Bool}, c = runOk r → rb c = rb (runOk r) := fun h => by rw [h]
  by_cases hg : good r.ents = true
  · rw [hg, Bool.true_and] at heq
    refine ACall.mk _ _ (impl_RunOf_ok r.ents hr hg) ?_
    refine Split.mk fun t ht => ?_
    cases t
    case false => cases ht
    refine Fz.mk _ (frzE (isort eLess r.ents)) ?_
    refine ACall.mk _ _ (impl_RunSame ⟨isort eLess r.ents, (rmask (isort eLess r.ents) : Nat)⟩ r) ?_
    refine Need.mk ⟨closed_v, no_objs⟩ ?_
    refine Split.mk fun t ht2 => ?_
    exact Need.mk ⟨[], _, .same, fin (ht2.symm.trans heq.symm), rfl⟩ trivial
  · have hg : good r.ents = false := by simpa using hg
    rw [hg, Bool.false_and] at heq
    refine ACall.mk _ _ (impl_RunOf_bad r.ents hr hg) ?_
    refine Split.mk fun t ht => ?_
    cases t
    · exact Need.mk ⟨[], _, .same, fin heq.symm, rfl⟩ trivial
    · cases ht
theorem spec_RunOk (r : Rn) (hr : OkE r.ents) (hx : r.ents.length ≤ 1099511627776) : AFn Try.prog 61 [.agg (r.enc.map .c)] [] (rb (runOk r)) [] := by
  refine AFn.introX (E := En 0 md0) (en_ok 0 _) Try.func61 rfl rfl rfl fun _ _ => ?_
  have fin : ∀ {c : Bool}, c = runOk r → rb c = rb (runOk r) := fun h => by rw [h]
  have hn : (r.ents.map Ent.enc).length = r.ents.length := List.length_map ..
  refine Split.mk fun t h1 => ?_
  rw [hn] at h1
  cases t
  · refine Need.mk rfl ?_
    exact Need.mk ⟨[], _, .same, fin (by have : decide (1 ≤ r.ents.length) = false := decide_eq_false (by have := of_decide_eq_false h1; omega)
                                         simp [runOk, this]), rfl⟩ trivial
  have e1 : decide (1 ≤ r.ents.length) = true := decide_eq_true (by have := of_decide_eq_true h1; omega)
  refine Split.mk fun t h2 => ?_
  rw [hn] at h2
  cases t
  · refine Need.mk rfl ?_
    exact Need.mk ⟨[], _, .same, fin (by have : decide (r.ents.length ≤ 150) = false := decide_eq_false (by have := of_decide_eq_false h2; omega)
                                         simp [runOk, this]), rfl⟩ trivial
  have e2 : decide (r.ents.length ≤ 150) = true := decide_eq_true (by have := of_decide_eq_true h2; omega)
  refine ACall.mk _ _ (spec_l4Right r.ents hr hx) ?_
  refine Split.mk fun t h3 => ?_
  cases t
  · refine Need.mk rfl ?_
    exact Need.mk ⟨[], _, .same, fin (by simp [runOk, h3]), rfl⟩ trivial
  refine ACall.mk _ _ (spec_l4Mask r.ents hr hx) ?_
  refine Split.mk fun t h4 => ?_
  refine Need.mk rfl ?_
  refine Need.mk ⟨[], _, .same, fin ?_, rfl⟩ trivial
  rw [← h4]
  simp only [runOk, e1, e2, h3, Bool.true_and]
  rw [Bool.eq_iff_iff]; simp
end Go.Proofs.Yteddoandjgjleaa

namespace Go.Proofs.Yteddoandjgjleaa
open Go Go.Proofs Ev
set_option maxRecDepth 100000
set_option maxHeartbeats 1000000
theorem impl_lowKey (r : Rn) (h : 0 < r.ents.length) : AFn Try.prog 86 [.agg (r.enc.map .c)] [] (.one (vs (r.ents.getD 0 ent0).key)) [] := by
  refine AFn.introX (E := En 0 md0) (en_ok 0 _) Try.func86 rfl rfl rfl fun _ _ => ?_
  have hd : r.ents.getD 0 ent0 = r.ents[0] := by simp [List.getD_eq_getElem?_getD, h]
  refine Need.mk (by decide) ?_
  refine Row.mk _ (map_get _ r.ents 0 h) ?_
  exact Need.mk ⟨[], _, .same, by rw [hd]; rfl, rfl⟩ trivial
theorem impl_highKey (r : Rn) (h : 0 < r.ents.length) (hx : r.ents.length ≤ 1099511627776) : AFn Try.prog 87 [.agg (r.enc.map .c)] [] (.one (vs (r.ents.getD (r.ents.length - 1) ent0).key)) [] := by
  refine AFn.introX (E := En 0 md0) (en_ok 0 _) Try.func87 rfl rfl rfl fun _ _ => ?_
  have hl : r.ents.length - 1 < r.ents.length := by omega
  have hd : r.ents.getD (r.ents.length - 1) ent0 = r.ents[r.ents.length - 1] := by simp [List.getD_eq_getElem?_getD, hl]
  have hn : (r.ents.map Ent.enc).length = r.ents.length := List.length_map ..
  refine Num.mk ((r.ents.length - 1 : Nat) : Int) (wrapI' (by rw [hn]; omega) (by omega)) ?_
  refine Need.mk (by omega) ?_
  refine Row.mk _ (map_get _ r.ents (r.ents.length - 1) hl) ?_
  exact Need.mk ⟨[], _, .same, by rw [hd]; rfl, rfl⟩ trivial
theorem impl_RunMay (r : Rn) (key : ByteArray) (hr : OkE r.ents) (hk : key.size ≤ maxLen) : AFn Try.prog 35 [.agg (r.enc.map .c), av (.string key)] [] (rb (runMay r key)) [] := by
  refine AFn.introX (E := En 0 md0) (en_ok 0 _) Try.func35 rfl rfl rfl fun _ _ => ?_
  have fin : ∀ {c : Bool}, c = runMay r key → rb c = rb (runMay r key) := fun h => by rw [h]
  refine ACall.mk _ _ (impl_RunOk r hr) ?_
  refine Split.mk fun t h1 => ?_
  cases t
  · exact Need.mk ⟨[], _, .same, fin (by simp only [runMay, h1]; rfl), rfl⟩ trivial
  obtain ⟨l1, l2, l3, l4⟩ := runOk_len h1
  refine ACall.mk _ _ (impl_lowKey r l1) ?_
  refine Split.mk fun t h2 => ?_
  have h2 : slt key (r.ents.getD 0 ent0).key = t := h2
  cases t
  case true => exact Need.mk ⟨[], _, .same, fin (by simp only [runMay, h1, h2]; rfl), rfl⟩ trivial
  refine ACall.mk _ _ (impl_highKey r l1 (by omega)) ?_
  refine Split.mk fun t h3 => ?_
  rw [str_gt] at h3
  cases t
  case true => exact Need.mk ⟨[], _, .same, fin (by simp only [runMay, h1, h2, h3]; rfl), rfl⟩ trivial
  refine ACall.mk _ _ (impl_KeyMask key hk) ?_
  refine Split.mk fun t h4 => ?_
  have h5 : (((rmask r.ents &&& kmask key : Nat) : Int) == ((kmask key : Nat) : Int)) = t := by rw [← andN (rmask_lt _) (kmask_lt _), ← l4]; exact h4
  refine Need.mk ⟨[], _, .same, fin ?_, rfl⟩ trivial
  rw [← h5]
  have : (((rmask r.ents &&& kmask key : Nat) : Int) == ((kmask key : Nat) : Int)) = decide (rmask r.ents ||| kmask key = rmask r.ents) := by
    rw [Bool.eq_iff_iff, beq_iff_eq, Int.ofNat_inj, and_or, decide_eq_true_eq]
  rw [this]
  simp only [runMay, h1, h2, h3]; rfl
theorem spec_RunMay (r : Rn) (key : ByteArray) (hr : OkE r.ents) (hk : key.size ≤ maxLen) (hx : r.ents.length ≤ 1099511627776) : AFn Try.prog 33 [.agg (r.enc.map .c), av (.string key)] [] (rb (runMay r key)) [] := by
  refine AFn.introX (E := En 0 md0) (en_ok 0 _) Try.func33 rfl rfl rfl fun _ _ => ?_
  have fin : ∀ {c : Bool}, c = runMay r key → rb c = rb (runMay r key) := fun h => by rw [h]
  refine ACall.mk _ _ (spec_RunOk r hr hx) ?_
  refine Split.mk fun t h1 => ?_
  cases t
  · exact Need.mk ⟨[], _, .same, fin (by simp only [runMay, h1]; rfl), rfl⟩ trivial
  obtain ⟨l1, l2, l3, l4⟩ := runOk_len h1
  have hn : (r.ents.map Ent.enc).length = r.ents.length := List.length_map ..
  have l0 : 0 < r.ents.length := l1
  have hd0 : r.ents.getD 0 ent0 = r.ents[0] := by simp [List.getD_eq_getElem?_getD, l0]
  have hl : r.ents.length - 1 < r.ents.length := by omega
  have hd1 : r.ents.getD (r.ents.length - 1) ent0 = r.ents[r.ents.length - 1] := by simp [List.getD_eq_getElem?_getD, hl]
  refine Need.mk (by decide) ?_
  refine Row.mk _ (map_get _ r.ents 0 l1) ?_
  refine Split.mk fun t h2 => ?_
  have h2 : (!slt key (r.ents.getD 0 ent0).key) = t := by rw [hd0]; exact h2
  cases t
  · refine Need.mk rfl ?_
    exact Need.mk ⟨[], _, .same, fin (by simp only [runMay, h1, h2]; rfl), rfl⟩ trivial
  refine Num.mk ((r.ents.length - 1 : Nat) : Int) (wrapI' (by rw [hn]; omega) (by omega)) ?_
  refine Need.mk (by omega) ?_
  refine Row.mk _ (map_get _ r.ents (r.ents.length - 1) hl) ?_
  refine Split.mk fun t h3 => ?_
  have h3 : (!slt (r.ents.getD (r.ents.length - 1) ent0).key key) = t := by rw [hd1, ← str_le]; exact h3
  cases t
  · refine Need.mk rfl ?_
    exact Need.mk ⟨[], _, .same, fin (by simp only [runMay, h1, h2, h3]; rfl), rfl⟩ trivial
  refine ACall.mk _ _ (spec_KeyMask key hk) ?_
  refine ACall.mk _ _ (by rw [l4]; exact spec_l4Or (rmask r.ents) (kmask key) (rmask_lt _) (kmask_lt _)) ?_
  refine Split.mk fun t h4 => ?_
  refine Need.mk rfl ?_
  refine Need.mk ⟨[], _, .same, fin ?_, rfl⟩ trivial
  rw [← h4, l4]
  have : (((rmask r.ents ||| kmask key : Nat) : Int) == ((rmask r.ents : Nat) : Int)) = decide (rmask r.ents ||| kmask key = rmask r.ents) := by
    rw [Bool.eq_iff_iff, beq_iff_eq, Int.ofNat_inj, decide_eq_true_eq]
  rw [this]
  simp only [runMay, h1, h2, h3, Bool.true_and]
end Go.Proofs.Yteddoandjgjleaa

namespace Go.Proofs.Yteddoandjgjleaa
open Go Go.Proofs Ev
set_option maxRecDepth 100000
def encO (r : Rn) : List C := [.us 82 (r.ents.map Ent.enc), vi r.mask]
def encLO (l : List Rn) : List C := [.us 57 (l.map encO)]
end Go.Proofs.Yteddoandjgjleaa

namespace Go.Proofs.Yteddoandjgjleaa
open Go Go.Proofs Ev
set_option maxRecDepth 100000
theorem frzR (xs : List Rn) : Frz (.us 57 (xs.map encO)) (.sl (xs.map Rn.enc)) := frz_map fun r _ => .cons (frzE r.ents) (.cons .v .nil)
theorem frzRR (xs : List (List Rn)) : Frz (.us 91 (xs.map encLO)) (.sl (xs.map encL)) := frz_map fun r _ => .cons (frzR r) .nil
end Go.Proofs.Yteddoandjgjleaa

namespace Go.Proofs.Yteddoandjgjleaa
open Go Go.Proofs Ev
set_option maxRecDepth 100000
set_option maxHeartbeats 1000000
theorem closedE (e : TypeId) (xs : List Ent) : Closed (.us e (xs.map Ent.enc)) := by
  refine .us fun r hr c hc => ?_
  obtain ⟨x, _, rfl⟩ := List.mem_map.1 hr
  simp only [Ent.enc, List.mem_cons, List.not_mem_nil, or_false] at hc
  rcases hc with h | h | h | h | h <;> subst h <;> exact .v
theorem rowsOk (R : List (List C)) (ys : List Ent) (h : R = ys.map Ent.enc) : Plain R ∧ ∀ r ∈ R, r.length = 5 := by
  subst h; exact ⟨plainE ys, lenE ys⟩
theorem sizeOk (a b : List (List C)) (ys zs : List Ent) (ha : a = ys.map Ent.enc) (hb : b = zs.map Ent.enc) (h : ys.length + zs.length ≤ 2000000) : (a.length + b.length) * 56 ≤ 140737488355328 ∧ a.length + b.length ≤ maxLen := by
  subst ha; subst hb
  rw [List.length_map, List.length_map]
  exact ⟨by omega, Nat.le_trans h (by decide)⟩
theorem spec_l4Put (xs : List Ent) (e : Ent) (hx : xs.length ≤ 1048576) : AFn Try.prog 89 [sl (xs.map Ent.enc), .agg (e.enc.map .c)] [] (.one (.us 82 ((ins eLess xs e).map Ent.enc))) [] := by
  refine AFn.introX (E := En 0 md0) (en_ok 0 _) Try.func89 rfl rfl rfl fun _ _ => ?_
  have hn : (xs.map Ent.enc).length = xs.length := List.length_map ..
  let S : Int → St := fun k => ⟨some (sl (xs.map Ent.enc)) :: none :: none :: some (.bx 3 0) :: none :: some (av (.int .i64 k)) :: List.replicate 31 none, absent :: absent :: absent :: ⟨0, 0, some e.enc⟩ :: List.replicate 33 absent⟩
  refine ALoop.mk (fun m s => ∃ k : Nat, k ≤ xs.length ∧ m = k ∧ ins eLess xs e = ins eLess (xs.take k) e ++ xs.drop k ∧ s = S (k : Int))
    ⟨xs.length, _, Weak.nrm [true, false, false, true, false, true] [(3, 3)] rfl rfl rfl, xs.length, Nat.le_refl _, rfl, by simp, congrArg S (show (((xs.map Ent.enc).length : Nat) : Int) = ((xs.length : Nat) : Int) by rw [hn])⟩ ?_
  rintro m s ⟨k, hk, rfl, hins, hs⟩
  have plain : ∀ ys : List Ent, Plain (ys.map Ent.enc) := plainE
  by_cases hstop : m = 0 ∨ ∃ h : 0 < m, eLess e (xs[m - 1]'(by omega)) = false
  · have hfin : ins eLess xs e = xs.take m ++ [e] ++ xs.drop m := by
      rw [hins]
      congr 1
      rcases hstop with h | ⟨h, hl⟩
      · subst h; rfl
      · have e1 : xs.take m = xs.take (m - 1) ++ [xs[m - 1]'(by omega)] := by
          conv => lhs; rw [show m = m - 1 + 1 by omega]
          exact List.take_succ_eq_append_getElem (by omega)
        rw [e1]; exact ins_stop eLess e _ _ hl
    have d1 : ((xs.map Ent.enc).drop (m : Int).toNat).take (((xs.map Ent.enc).length : Int) - (m : Int)).toNat = (xs.drop m).map Ent.enc := by
      rw [Int.toNat_natCast, ← List.map_drop]
      exact List.take_of_length_le (by rw [List.length_map, List.length_drop, hn]; omega)
    have d2 : ((xs.map Ent.enc).drop (0 : Int).toNat).take ((m : Int) - 0).toNat = (xs.take m).map Ent.enc := by
      rw [show (0 : Int).toNat = 0 from rfl, List.drop_zero, Int.sub_zero, Int.toNat_natCast, ← List.map_take]
    have d3 : ((xs.map Ent.enc).drop (0 : Int).toNat).take ((m : Int) - 0).toNat ++ [e.enc] = (xs.take m ++ [e]).map Ent.enc := by
      rw [d2, List.map_append]; rfl
    have d4 : ((xs.map Ent.enc).drop (0 : Int).toNat).take ((m : Int) - 0).toNat ++ [e.enc] ++ ((xs.map Ent.enc).drop (m : Int).toNat).take (((xs.map Ent.enc).length : Int) - (m : Int)).toNat = (xs.take m ++ [e] ++ xs.drop m).map Ent.enc := by
      rw [d3, d1, ← List.map_append]
    have l1 : ((xs.drop m).map Ent.enc).length = xs.length - m := by rw [List.length_map, List.length_drop]
    have l2 : ((xs.take m).map Ent.enc).length = m := by rw [List.length_map, List.length_take]; omega
    have fin : ∀ rows : List (List C), rows = (xs.take m ++ [e] ++ xs.drop m).map Ent.enc → RV.one (.us 82 rows) = .one (.us 82 ((ins eLess xs e).map Ent.enc)) := fun rows h => by rw [h, hfin]
    rcases Nat.eq_zero_or_pos m with h0 | h0
    · subst hs
      refine Split.mk fun t ht => ?_
      cases t
      case true => simp at ht; omega
      refine Need.mk rfl ?_
      refine Need.mk ⟨by omega, by omega, by omega, lenE xs⟩ ?_
      refine Need.mk (rowsOk _ _ d1) ?_
      refine Need.mk (sizeOk _ _ [] (xs.drop m) rfl d1 (by rw [List.length_drop]; simp; omega)) ?_
      refine Need.mk ⟨by omega, by omega, by omega, lenE xs⟩ ?_
      refine Need.mk (rowsOk _ _ d2) ?_
      refine Need.mk (sizeOk _ _ [] (xs.take m) rfl d2 (by rw [List.length_take]; simp; omega)) ?_
      refine Need.mk (sizeOk _ _ (xs.take m) [e] d2 rfl (by rw [List.length_take]; simp; omega)) ?_
      refine Need.mk (rowsOk _ _ d1).1 ?_
      refine Need.mk (sizeOk _ _ (xs.take m ++ [e]) (xs.drop m) d3 d1 (by rw [List.length_append, List.length_take, List.length_drop]; simp; omega)) ?_
      refine Need.mk rfl ?_
      exact Need.mk ⟨[], _, .same, fin _ d4, rfl⟩ trivial
    · have hl : eLess e (xs[m - 1]'(by omega)) = false := by
        refine hstop.elim (fun h => absurd h (by omega)) fun h => ?_
        exact h.2
      subst hs
      refine Split.mk fun t ht => ?_
      cases t
      · simp at ht; omega
      refine Num.mk ((m - 1 : Nat) : Int) (wrapI' (by omega) (by omega)) ?_
      refine Need.mk (by omega) ?_
      refine Row.mk _ (map_get _ xs (m - 1) (by omega)) ?_
      refine ACall.mk _ _ (spec_EntryLess e (xs[m - 1]'(by omega))) ?_
      refine Split.mk fun t ht2 => ?_
      cases t
      case true => rw [hl] at ht2; cases ht2
      refine Need.mk rfl ?_
      refine Need.mk ⟨by omega, by omega, by omega, lenE xs⟩ ?_
      refine Need.mk (rowsOk _ _ d1) ?_
      refine Need.mk (sizeOk _ _ [] (xs.drop m) rfl d1 (by rw [List.length_drop]; simp; omega)) ?_
      refine Need.mk ⟨by omega, by omega, by omega, lenE xs⟩ ?_
      refine Need.mk (rowsOk _ _ d2) ?_
      refine Need.mk (sizeOk _ _ [] (xs.take m) rfl d2 (by rw [List.length_take]; simp; omega)) ?_
      refine Need.mk (sizeOk _ _ (xs.take m) [e] d2 rfl (by rw [List.length_take]; simp; omega)) ?_
      refine Need.mk (rowsOk _ _ d1).1 ?_
      refine Need.mk (sizeOk _ _ (xs.take m ++ [e]) (xs.drop m) d3 d1 (by rw [List.length_append, List.length_take, List.length_drop]; simp; omega)) ?_
      refine Need.mk rfl ?_
      exact Need.mk ⟨[], _, .same, fin _ d4, rfl⟩ trivial
  · have h0 : 0 < m := Nat.pos_of_ne_zero fun h => hstop (.inl h)
    have hl : eLess e (xs[m - 1]'(by omega)) = true := by
      cases hx : eLess e (xs[m - 1]'(by omega)) with
      | true => rfl
      | false => exact absurd (.inr ⟨h0, hx⟩) hstop
    have e1 : xs.take m = xs.take (m - 1) ++ [xs[m - 1]'(by omega)] := by
      conv => lhs; rw [show m = m - 1 + 1 by omega]
      exact List.take_succ_eq_append_getElem (by omega)
    have hins' : ins eLess xs e = ins eLess (xs.take (m - 1)) e ++ xs.drop (m - 1) := by
      rw [hins, e1, ins_step eLess e _ _ hl, List.append_assoc]
      congr 1
      conv => rhs; rw [List.drop_eq_getElem_cons (show m - 1 < xs.length by omega)]
      rw [show m - 1 + 1 = m by omega]; rfl
    subst hs
    refine Split.mk fun t ht => ?_
    cases t
    · simp at ht; omega
    refine Num.mk ((m - 1 : Nat) : Int) (wrapI' (by omega) (by omega)) ?_
    refine Need.mk (by omega) ?_
    refine Row.mk _ (map_get _ xs (m - 1) (by omega)) ?_
    refine ACall.mk _ _ (spec_EntryLess e (xs[m - 1]'(by omega))) ?_
    refine Split.mk fun t ht2 => ?_
    cases t
    · rw [hl] at ht2; cases ht2
    refine Need.mk rfl ?_
    refine Num.mk ((m - 1 : Nat) : Int) (wrapI' (by omega) (by omega)) ?_
    exact ⟨m - 1, _, by omega, Weak.nrm [true, false, false, true, false, true] [(3, 3)] rfl rfl rfl, m - 1, by omega, rfl, hins', rfl⟩
end Go.Proofs.Yteddoandjgjleaa

namespace Go.Proofs.Yteddoandjgjleaa
open Go Go.Proofs Ev
set_option maxRecDepth 100000
set_option maxHeartbeats 1000000
theorem closed_us (e : TypeId) (xs : List Ent) : ∀ c : C, c ∈ [C.us e (xs.map Ent.enc)] → Closed c := fun c hc => by
  rw [List.mem_singleton] at hc; subst hc; exact closedE e xs
theorem spec_l4Sort (xs : List Ent) (hx : xs.length ≤ 1048576) : AFn Try.prog 98 [sl (xs.map Ent.enc)] [] (.one (.us 82 ((isort eLess xs).map Ent.enc))) [] := by
  refine AFn.introX (E := En 0 md0) (en_ok 0 _) Try.func98 rfl rfl rfl fun _ _ => ?_
  have hn : (xs.map Ent.enc).length = xs.length := List.length_map ..
  let S : Nat → List Ent → Nat → St := fun kd ys i => ⟨some (sl (xs.map Ent.enc)) :: none :: none :: some (.one (.ref 3 0 (.cell 0))) :: some (av (.int .i64 i)) :: List.replicate 14 none, absent :: absent :: absent :: ⟨0, kd, some [.us 82 (ys.map Ent.enc)]⟩ :: List.replicate 15 absent⟩
  refine ALoop.mk (fun m s => ∃ i kd : Nat, i ≤ xs.length ∧ m = xs.length - i ∧ (kd = 1 ∨ kd = 2) ∧ s = S kd (isort eLess (xs.take i)) i)
    ⟨xs.length, _, Weak.nrm [true, false, false, true, true] [(5, 3)] rfl rfl rfl, 0, 2, Nat.zero_le _, rfl, .inr rfl, rfl⟩ ?_
  rintro m s ⟨i, kd, hi, rfl, hkd, hs⟩
  by_cases hin : i = xs.length
  · subst hin
    rw [List.take_length] at hs
    subst hs
    refine Split.mk fun t ht => ?_
    rw [hn] at ht
    cases t
    · exact Need.mk ⟨[], _, .same, rfl, rfl⟩ trivial
    · simp at ht
  · have hia : i < xs.length := by omega
    have he : isort eLess (xs.take (i + 1)) = ins eLess (isort eLess (xs.take i)) xs[i] := by
      rw [List.take_succ_eq_append_getElem hia, isort_snoc]
    have hlen : (isort eLess (xs.take i)).length ≤ 1048576 := by rw [isort_len, List.length_take]; omega
    have hex : ∃ ys, isort eLess (xs.take i) = ys := ⟨_, rfl⟩
    obtain ⟨ys, hy⟩ := hex
    rw [hy] at he hlen hs
    rcases hkd with rfl | rfl
    all_goals
      subst hs
      refine Split.mk fun t ht => ?_
      rw [hn] at ht
      cases t
      · simp at ht; omega
      refine Need.mk (by omega) ?_
      refine Row.mk _ (map_get _ xs i hia) ?_
      refine Fz.mk _ (frzE ys) ?_
      refine ACall.mk _ _ (spec_l4Put ys xs[i] hlen) ?_
      refine Need.mk ⟨closed_us _ _, no_objs⟩ ?_
      refine Num.mk _ (wrapS (by omega)) ?_
      refine ⟨xs.length - (i + 1), _, by omega, Weak.nrm [true, false, false, true, true] [(17, 3)] rfl rfl rfl, i + 1, 1, by omega, rfl, .inl rfl, ?_⟩
      exact congrArg (fun l => S 1 l (i + 1)) he.symm
end Go.Proofs.Yteddoandjgjleaa

namespace Go.Proofs.Yteddoandjgjleaa
open Go Go.Proofs Ev
set_option maxRecDepth 100000
set_option maxHeartbeats 1000000
def mdv (l : List FuncId) (g : List FuncId) : FuncId → Nat := fun f => bif l.elem f then 1 else bif g.elem f then 2 else 0
theorem spec_l4Run (xs : List Ent) (hx : OkE xs) (hl : xs.length ≤ 1099511627776) : AFn Try.prog 100 [sl (xs.map Ent.enc)] [] (.agg [.sl (xs.map Ent.enc), vi (rmask xs : Nat)]) [] := by
  refine AFn.introX (E := En 0 md0) (en_ok 0 md0) Try.func100 rfl rfl rfl fun _ _ => ?_
  refine ACall.mk _ _ (spec_l4Mask xs hx hl) ?_
  exact Need.mk ⟨[], _, .same, rfl, rfl⟩ trivial
theorem spec_RunOf_bad (xs : List Ent) (hx : OkE xs) (hg : good xs = false) : AFn Try.prog 47 [sl (xs.map Ent.enc)] [] (.tup [.agg [.us 82 [], vi 0], .one (vb false)]) [] := by
  refine AFn.introX (E := En 0 (mdv [] [100])) (en_ok 0 _) Try.func47 rfl rfl rfl fun _ _ => ?_
  have hn : (xs.map Ent.enc).length = xs.length := List.length_map ..
  have hO : OkE (isort eLess xs) := fun e he => hx e ((isort_mem _ _ _).1 he)
  refine Split.mk fun t h1 => ?_
  rw [hn] at h1
  cases t
  case true => exact Need.mk ⟨[], _, .same, rfl, rfl⟩ trivial
  refine Split.mk fun t h2 => ?_
  rw [hn] at h2
  cases t
  case true => exact Need.mk ⟨[], _, .same, rfl, rfl⟩ trivial
  have hl : 1 ≤ xs.length ∧ xs.length ≤ 150 := by simp at h1 h2; omega
  have ho : ordOk (isort eLess xs) = false := by simpa [good, hl] using hg
  refine ACall.mk _ _ (spec_l4Sort xs (by omega)) ?_
  refine Fz.mk _ (frzE (isort eLess xs)) ?_
  refine ACall.mk _ _ (spec_l4Right (isort eLess xs) hO (by rw [isort_len]; omega)) ?_
  refine Need.mk ⟨closed_v, no_objs⟩ ?_
  refine Split.mk fun t h3 => ?_
  cases t
  · exact Need.mk ⟨[], _, .same, rfl, rfl⟩ trivial
  · rw [ho] at h3; cases h3
theorem spec_RunOf_ok (xs : List Ent) (hx : OkE xs) (hg : good xs = true) : AFn Try.prog 47 [sl (xs.map Ent.enc)] [] (.tup [.agg [.sl ((isort eLess xs).map Ent.enc), vi (rmask (isort eLess xs) : Nat)], .one (vb true)]) [] := by
  refine AFn.introX (E := En 0 (mdv [] [100])) (en_ok 0 _) Try.func47 rfl rfl rfl fun _ _ => ?_
  have hn : (xs.map Ent.enc).length = xs.length := List.length_map ..
  have hO : OkE (isort eLess xs) := fun e he => hx e ((isort_mem _ _ _).1 he)
  have hl : 1 ≤ xs.length ∧ xs.length ≤ 150 ∧ ordOk (isort eLess xs) = true := by simpa [good] using hg
  refine Split.mk fun t h1 => ?_
  rw [hn] at h1
  cases t
  case true => simp at h1; omega
  refine Split.mk fun t h2 => ?_
  rw [hn] at h2
  cases t
  case true => simp at h2; omega
  refine ACall.mk _ _ (spec_l4Sort xs (by omega)) ?_
  refine Fz.mk _ (frzE (isort eLess xs)) ?_
  refine ACall.mk _ _ (spec_l4Right (isort eLess xs) hO (by rw [isort_len]; omega)) ?_
  refine Need.mk ⟨closed_v, no_objs⟩ ?_
  refine Split.mk fun t h3 => ?_
  cases t
  case false => rw [hl.2.2] at h3; cases h3
  refine Fz.mk _ (frzE (isort eLess xs)) ?_
  refine ACall.mk _ _ (spec_l4Run (isort eLess xs) hO (by rw [isort_len]; omega)) ?_
  exact Need.mk ⟨[], _, .same, rfl, rfl⟩ trivial
end Go.Proofs.Yteddoandjgjleaa

namespace Go.Proofs.Yteddoandjgjleaa
open Go Go.Proofs Ev
set_option maxRecDepth 100000
set_option maxHeartbeats 1000000
theorem spec_l4Find (xs : List Ent) (key : ByteArray) (seq : Int) (hx : xs.length ≤ 1048576) : AFn Try.prog 103 [sl (xs.map Ent.enc), av (.string key), av (.int .i64 seq)] [] (.one (.us 82 ((findE xs key seq).map Ent.enc))) [] := by
  refine AFn.introX (E := En 0 md0) (en_ok 0 _) Try.func103 rfl rfl rfl fun _ _ => ?_
  have hn : (xs.map Ent.enc).length = xs.length := List.length_map ..
  let S : Nat → List Ent → Nat → St := fun kd ys i => ⟨some (sl (xs.map Ent.enc)) :: some (av (.string key)) :: some (av (.int .i64 seq)) :: none :: none :: none :: none :: some (.one (.ref 7 0 (.cell 0))) :: some (av (.int .i64 i)) :: List.replicate 31 none, absent :: absent :: absent :: absent :: absent :: absent :: absent :: ⟨0, kd, some [.us 82 (ys.map Ent.enc)]⟩ :: List.replicate 32 absent⟩
  refine ALoop.mk (fun m s => ∃ i kd : Nat, i ≤ xs.length ∧ m = xs.length - i ∧ (kd = 1 ∨ kd = 2) ∧ s = S kd (findE (xs.take i) key seq) i)
    ⟨xs.length, _, Weak.nrm [true, true, true, false, false, false, false, true, true] [(9, 7)] rfl rfl rfl, 0, 2, Nat.zero_le _, rfl, .inr rfl, rfl⟩ ?_
  rintro m s ⟨i, kd, hi, rfl, hkd, hs⟩
  by_cases hin : i = xs.length
  · subst hin
    rw [List.take_length] at hs
    subst hs
    refine Split.mk fun t ht => ?_
    rw [hn] at ht
    cases t
    · exact Need.mk ⟨[], _, .same, rfl, rfl⟩ trivial
    · simp at ht
  · have hia : i < xs.length := by omega
    have he := findE_snoc (xs.take i) xs[i] key seq
    rw [← List.take_succ_eq_append_getElem hia] at he
    have hlen : (findE (xs.take i) key seq).length ≤ 1048576 := Nat.le_trans (findE_len _ _ _) (by rw [List.length_take]; omega)
    have hex : ∃ ys, findE (xs.take i) key seq = ys := ⟨_, rfl⟩
    obtain ⟨ys, hy⟩ := hex
    rw [hy] at he hlen hs
    by_cases hk : xs[i].key = key
    · by_cases hq : xs[i].seq ≤ seq
      · simp only [hk, hq, decide_true, Bool.and_self, cond_true] at he
        subst hs
        refine Split.mk fun t ht => ?_
        rw [hn] at ht
        cases t
        · simp at ht; omega
        refine Need.mk (by omega) ?_
        refine Row.mk _ (map_get _ xs i hia) ?_
        refine Split.mk fun t ht2 => ?_
        cases t
        · simp [hk] at ht2
        refine Need.mk (by omega) ?_
        refine Row.mk _ (map_get _ xs i hia) ?_
        refine Split.mk fun t ht3 => ?_
        cases t
        · simp [hq] at ht3
        refine Need.mk (by omega) ?_
        refine Row.mk _ (map_get _ xs i hia) ?_
        refine Need.mk (sizeOk _ _ ys [xs[i]] rfl rfl (by simp; omega)) ?_
        refine Num.mk _ (wrapS (by omega)) ?_
        refine ⟨xs.length - (i + 1), _, by omega, Weak.nrm [true, true, true, false, false, false, false, true, true] [(38, 7)] rfl rfl rfl, i + 1, 1, by omega, rfl, .inl rfl, ?_⟩
        rw [he]
        refine Eq.trans (b := ⟨some (sl (xs.map Ent.enc)) :: some (av (.string key)) :: some (av (.int .i64 seq)) :: none :: none :: none :: none :: some (.one (.ref 7 0 (.cell 0))) :: some (av (.int .i64 (i + 1 : Nat))) :: List.replicate 31 none, absent :: absent :: absent :: absent :: absent :: absent :: absent :: ⟨0, 1, some [.us 82 (ys.map Ent.enc ++ [xs[i].enc])]⟩ :: List.replicate 32 absent⟩) rfl ?_
        rw [show ys.map Ent.enc ++ [xs[i].enc] = (ys ++ [xs[i]]).map Ent.enc by rw [List.map_append]; rfl]
      · simp only [hk, hq, decide_true, decide_false, Bool.and_false, cond_false, List.append_nil] at he
        subst hs
        refine Split.mk fun t ht => ?_
        rw [hn] at ht
        cases t
        · simp at ht; omega
        refine Need.mk (by omega) ?_
        refine Row.mk _ (map_get _ xs i hia) ?_
        refine Split.mk fun t ht2 => ?_
        cases t
        · simp [hk] at ht2
        refine Need.mk (by omega) ?_
        refine Row.mk _ (map_get _ xs i hia) ?_
        refine Split.mk fun t ht3 => ?_
        cases t
        case true => simp [hq] at ht3
        refine Num.mk _ (wrapS (by omega)) ?_
        exact ⟨xs.length - (i + 1), _, by omega, Weak.nrm [true, true, true, false, false, false, false, true, true] [(7, 7)] rfl rfl rfl, i + 1, kd, by omega, rfl, hkd, by rw [he]; rfl⟩
    · simp only [hk, decide_false, Bool.false_and, cond_false, List.append_nil] at he
      subst hs
      refine Split.mk fun t ht => ?_
      rw [hn] at ht
      cases t
      · simp at ht; omega
      refine Need.mk (by omega) ?_
      refine Row.mk _ (map_get _ xs i hia) ?_
      refine Split.mk fun t ht2 => ?_
      cases t
      case true => rw [bytes_beq] at ht2; exact absurd (of_decide_eq_true ht2) hk
      refine Num.mk _ (wrapS (by omega)) ?_
      exact ⟨xs.length - (i + 1), _, by omega, Weak.nrm [true, true, true, false, false, false, false, true, true] [(7, 7)] rfl rfl rfl, i + 1, kd, by omega, rfl, hkd, by rw [he]; rfl⟩
theorem spec_RunFind (r : Rn) (key : ByteArray) (seq : Int) (hr : OkE r.ents) (hx : r.ents.length ≤ 1048576) : AFn Try.prog 52 [.agg (r.enc.map .c), av (.string key), av (.int .i64 seq)] [] (.one (.us 82 ((runFind r key seq).map Ent.enc))) [] := by
  refine AFn.introX (E := En 0 md0) (en_ok 0 _) Try.func52 rfl rfl rfl fun _ _ => ?_
  refine ACall.mk _ _ (spec_RunOk r hr (by omega)) ?_
  refine Split.mk fun t h1 => ?_
  cases t
  · exact Need.mk ⟨[], _, .same, by rw [runFind, h1]; rfl, rfl⟩ trivial
  refine ACall.mk _ _ (spec_l4Find r.ents key seq hx) ?_
  exact Need.mk ⟨[], _, .same, by rw [runFind, h1]; rfl, rfl⟩ trivial
theorem impl_RunFind (r : Rn) (key : ByteArray) (seq : Int) (hr : OkE r.ents) (hk : key.size ≤ maxLen) : AFn Try.prog 53 [.agg (r.enc.map .c), av (.string key), av (.int .i64 seq)] [] (.one (.us 82 ((runFind r key seq).map Ent.enc))) [] := by
  refine AFn.introX (E := En 0 md0) (en_ok 0 _) Try.func53 rfl rfl rfl fun _ _ => ?_
  have hpos : 0 < Try.prog.cellsOf 82 := pos_of tab_ok (t := 82) rfl
  by_cases hm : runMay r key = true
  · have hok := runMay_ok hm
    obtain ⟨l1, l2, l3, l4⟩ := runOk_len hok
    have hp := pw_of_ord l3
    have hn : (r.ents.map Ent.enc).length = r.ents.length := List.length_map ..
    have hle := fromE_le r.ents key seq
    have hfind := findE_eq hp key seq
    have hres : runFind r key seq = findE r.ents key seq := by rw [runFind, hok]; rfl
    rw [hres]
    have hs1 : ∀ i, i < fromE r.ents key seq → (fun i => !eLess (r.ents.getD i ent0) (probe key seq)) i = false := fun i hi => by
      have h' : i < r.ents.length := by omega
      have := from_lt hi h'
      simp [List.getD_eq_getElem?_getD, h', this]
    have hs2 : ∀ i, fromE r.ents key seq ≤ i → i < r.ents.length → (fun i => !eLess (r.ents.getD i ent0) (probe key seq)) i = true := fun i hi h' => by
      have := from_ge hp hi h'
      simp [List.getD_eq_getElem?_getD, h', this]
    have hcl : ∀ i : Nat, i < r.ents.length → AFnK Try.prog 105 [av (.int .i64 i), .bx 0 0, .bx 1 0] [r.enc, (probe key seq).enc] [0, 0] (rb ((fun i => !eLess (r.ents.getD i ent0) (probe key seq)) i)) [r.enc, (probe key seq).enc] := fun i h' => by
      have := impl_RunFind1 r (probe key seq) i h'
      have e : r.ents.getD i ent0 = r.ents[i] := by simp [List.getD_eq_getElem?_getD, h']
      show AFnK _ _ _ _ _ (rb (!eLess (r.ents.getD i ent0) (probe key seq))) _
      rw [e]; exact this
    have hS := sort_Search 105 r (probe key seq) _ r.ents.length (fromE r.ents key seq) (by omega) hle hs1 hs2 hcl
    have hex : ∃ k, fromE r.ents key seq = k := ⟨_, rfl⟩
    obtain ⟨k, hk2⟩ := hex
    rw [hk2] at hS hle hfind
    have hex : ∃ ys, r.ents.drop k = ys := ⟨_, rfl⟩
    obtain ⟨ys, hy⟩ := hex
    have hR : ((r.ents.map Ent.enc).drop (k : Int).toNat).take (((r.ents.map Ent.enc).length : Int) - (k : Int)).toNat = ys.map Ent.enc := by
      rw [Int.toNat_natCast, ← List.map_drop, hy]
      exact List.take_of_length_le (by rw [List.length_map, ← hy, List.length_drop, hn]; omega)
    rw [hy] at hfind
    have hyl : ys.length ≤ 150 := by rw [← hy, List.length_drop]; omega
    have hyn : (ys.map Ent.enc).length = ys.length := List.length_map ..
    rw [← hn] at hS
    let S : List (List C) → List Ent → Nat → St := fun R zs i => ⟨none :: some (av (.string key)) :: none :: none :: none :: none :: none :: none :: none :: some (.one (.ref 9 0 (.cell 0))) :: none :: none :: none :: none :: none :: none :: none :: none :: none :: none :: none :: none :: none :: none :: none :: none :: none :: some (sl R) :: some (av (.int .i64 R.length)) :: some (av (.int .i64 i)) :: List.replicate 13 none, absent :: absent :: absent :: absent :: absent :: absent :: absent :: absent :: absent :: ⟨0, 1, some [.us 82 (zs.map Ent.enc)]⟩ :: List.replicate 33 absent⟩
    refine ACall.mk _ _ (impl_RunMay r key hr hk) ?_
    refine Split.mk fun t h1 => ?_
    cases t
    · rw [hm] at h1; cases h1
    refine ACall.mk _ _ hS ?_
    refine Need.mk ⟨by omega, by omega, by omega, lenE r.ents⟩ ?_
    refine ALoop.mk (fun m s => ∃ i : Nat, i ≤ ys.length ∧ m = ys.length - i ∧ (∀ x ∈ ys.take i, decide (x.key = key) = true) ∧ s = S (ys.map Ent.enc) (ys.take i) i)
      ⟨ys.length, _, Weak.trans (Weak.nrm [false, true, false, false, false, false, false, false, false, true, false, false, false, false, false, false, false, false, false, false, false, false, false, false, false, false, false, true, true, true] [] rfl rfl rfl) (Weak.nilOwn 9 9 82 rfl rfl hpos), 0, Nat.zero_le _, rfl, by simp, congrArg (fun R => S R [] 0) hR⟩ ?_
    rintro m s ⟨i, hi, rfl, hall, hs⟩
    by_cases hin : i = ys.length
    · have htw := tw_take (fun e => decide (e.key = key)) ys i (by omega) hall (fun h => absurd h (by omega))
      rw [← htw, hfind] at hs
      subst hs
      refine Split.mk fun t ht => ?_
      rw [hyn] at ht
      cases t
      · exact Need.mk ⟨[], _, .same, rfl, rfl⟩ trivial
      · simp at ht; omega
    · have hia : i < ys.length := by omega
      by_cases hkk : ys[i].key = key
      · have hall' : ∀ x ∈ ys.take (i + 1), decide (x.key = key) = true := by
          rw [List.take_succ_eq_append_getElem hia]
          intro x hx
          rcases List.mem_append.1 hx with hx | hx
          · exact hall x hx
          · rw [List.mem_singleton.1 hx]; exact decide_eq_true hkk
        have htl : (ys.take i).length ≤ 150 := by rw [List.length_take]; omega
        have hsucc := List.take_succ_eq_append_getElem hia
        have hex : ∃ zs, ys.take i = zs := ⟨_, rfl⟩
        obtain ⟨zs, hz⟩ := hex
        rw [hz] at htl hsucc hs
        subst hs
        refine Split.mk fun t ht => ?_
        rw [hyn] at ht
        cases t
        · simp at ht; omega
        refine Need.mk (by omega) ?_
        refine Row.mk _ (map_get _ ys i hia) ?_
        refine Split.mk fun t ht2 => ?_
        rw [bytes_beq] at ht2
        cases t
        case true => simp [hkk] at ht2
        refine Need.mk (sizeOk _ _ zs [ys[i]] rfl rfl (by simp; omega)) ?_
        refine Num.mk _ (wrapS (by omega)) ?_
        refine ⟨ys.length - (i + 1), _, by omega, Weak.nrm [false, true, false, false, false, false, false, false, false, true, false, false, false, false, false, false, false, false, false, false, false, false, false, false, false, false, false, true, true, true] [(40, 9)] rfl rfl rfl, i + 1, by omega, rfl, hall', ?_⟩
        rw [hsucc]
        refine Eq.trans (b := S (ys.map Ent.enc) (zs ++ [ys[i]]) (i + 1)) ?_ rfl
        show (⟨_, _⟩ : St) = ⟨_, _⟩
        rw [List.map_append]; rfl
      · have htw := tw_take (fun e => decide (e.key = key)) ys i hi hall (fun h => decide_eq_false hkk)
        rw [← htw, hfind] at hs
        subst hs
        refine Split.mk fun t ht => ?_
        rw [hyn] at ht
        cases t
        · simp at ht; omega
        refine Need.mk (by omega) ?_
        refine Row.mk _ (map_get _ ys i hia) ?_
        refine Split.mk fun t ht2 => ?_
        rw [bytes_beq] at ht2
        cases t
        · simp [hkk] at ht2
        exact Need.mk ⟨[], _, .same, rfl, rfl⟩ trivial
  · have hm' : runMay r key = false := by simpa using hm
    have hnil := runMay_not seq hm'
    rw [hnil]
    refine ACall.mk _ _ (impl_RunMay r key hr hk) ?_
    refine Split.mk fun t h1 => ?_
    cases t
    · exact Need.mk ⟨[false], _, .nil hpos .same, rfl, rfl⟩ trivial
    · rw [hm'] at h1; cases h1
end Go.Proofs.Yteddoandjgjleaa

namespace Go.Proofs.Yteddoandjgjleaa
open Go Go.Proofs Ev
set_option maxRecDepth 100000
theorem laws_szEntry (e : Ent) (left : Nat) (he : e.Ok) (hl : left ≤ 1048576) : AFn Try.prog 97 [.agg (e.enc.map .c), av (.int .i64 left)] [] (.one (vi (cut e.size left))) [] := by
  refine AFn.introX (E := En 0 md0) (en_ok 0 md0) Try.func97 rfl rfl rfl fun _ _ => ?_
  obtain ⟨h1, h2⟩ := he
  have he : e.size = e.key.size + e.text.size := rfl
  unfold maxLen at h1 h2
  have fin : ∀ {z : Int}, z = cut e.size left → RV.one (vi z) = RV.one (vi (cut e.size left)) := fun h => by rw [h]
  refine Num.mk ((left : Int) - e.key.size) (by rw [IntKind.wrap_i64]; omega) ?_
  refine Split.mk fun t ht => ?_
  cases t
  · have h3 : e.key.size ≤ left := by simp at ht; omega
    refine Num.mk ((left : Int) - e.key.size - e.text.size) (by rw [IntKind.wrap_i64]; omega) ?_
    refine Split.mk fun t ht => ?_
    cases t
    · have h4 : e.size ≤ left := by simp at ht; omega
      exact Need.mk ⟨[], _, .same, fin (by rw [cut_pos h4]; omega), rfl⟩ trivial
    · have h4 : ¬ e.size ≤ left := by simp at ht; omega
      exact Need.mk ⟨[], _, .same, fin (by rw [cut_neg h4]), rfl⟩ trivial
  · have h4 : ¬ e.size ≤ left := by simp at ht; omega
    exact Need.mk ⟨[], _, .same, fin (by rw [cut_neg h4]), rfl⟩ trivial
theorem laws_szEntryS (xs : List Ent) (left : Nat) (he : OkE xs) (hl : left ≤ 1048576) : AFn Try.prog 46 [sl (xs.map Ent.enc), av (.int .i64 left)] [] (.one (vi (cut (sizeE xs) left))) [] := by
  refine AFn.introX (E := En 0 md0) (en_ok 0 md0) Try.func46 rfl rfl rfl fun hs _ => ?_
  have hn : (xs.map Ent.enc).length = xs.length := List.length_map ..
  have hx := Small.len (hs _ (List.mem_cons_self ..))
  rw [hn] at hx
  have hz : sizeE xs = xs.length + (xs.map Ent.size).sum := rfl
  have fin : ∀ {z : Int}, z = cut (sizeE xs) left → RV.one (vi z) = RV.one (vi (cut (sizeE xs) left)) := fun h => by rw [h]
  refine Num.mk ((left : Int) - xs.length) (by rw [hn, IntKind.wrap_i64]; omega) ?_
  refine Split.mk fun t ht => ?_
  cases t
  · have h3 : xs.length ≤ left := by simp at ht; omega
    refine ALoop.mk (fun m s => ∃ (i r : Nat), i ≤ xs.length ∧ m = xs.length - i ∧ xs.length + ((xs.take i).map Ent.size).sum + r = left ∧
        s = ⟨some (sl (xs.map Ent.enc)) :: some (av (.int .i64 r)) :: none :: none :: none :: some (av (.int .i64 i)) :: List.replicate 21 none, List.replicate 27 absent⟩)
      ⟨xs.length, _, Weak.nrm [true, true, false, false, false, true] [] rfl rfl rfl, 0, left - xs.length, Nat.zero_le _, rfl, by simp; omega, ?_⟩ ?_
    · rw [show ((left - xs.length : Nat) : Int) = (left : Int) - xs.length by omega]; rfl
    rintro m s ⟨i, r, hi, rfl, hr, rfl⟩
    refine Split.mk fun t ht => ?_
    rw [hn] at ht
    cases t
    · have hin : i = xs.length := by simp at ht; omega
      subst hin
      rw [List.take_length] at hr
      exact Need.mk ⟨[], _, .same, fin (by rw [cut_pos (by omega)]; omega), rfl⟩ trivial
    · have hia : i < xs.length := by simpa using ht
      have hsum := sum_take Ent.size xs hia
      have hle := sum_take_le Ent.size xs (i + 1)
      refine Need.mk (by omega) ?_
      refine Row.mk _ (map_get _ xs i hia) ?_
      refine ACall.mk _ _ (laws_szEntry xs[i] r (he _ (List.getElem_mem _)) (by omega)) ?_
      refine Split.mk fun t ht => ?_
      rw [cut_lt] at ht
      cases t
      · have h4 : xs[i].size ≤ r := by simpa using ht
        refine Num.mk _ (wrapS (by omega)) ?_
        refine ⟨xs.length - (i + 1), _, by omega, Weak.nrm [true, true, false, false, false, true] [] rfl rfl rfl, i + 1, r - xs[i].size, by omega, rfl, by omega, ?_⟩
        rw [← cut_pos h4]; rfl
      · have h4 : ¬ xs[i].size ≤ r := by simpa using ht
        exact Need.mk ⟨[], _, .same, fin (by rw [cut_neg (by omega)]), rfl⟩ trivial
  · have h4 : ¬ sizeE xs ≤ left := by simp at ht; omega
    exact Need.mk ⟨[], _, .same, fin (by rw [cut_neg h4]), rfl⟩ trivial
end Go.Proofs.Yteddoandjgjleaa

namespace Go.Proofs.Yteddoandjgjleaa
open Go Go.Proofs Ev
set_option maxRecDepth 100000
theorem laws_szRun (r : Rn) (left : Nat) (he : OkE r.ents) (hl : left ≤ 1048576) : AFn Try.prog 32 [.agg (r.enc.map .c), av (.int .i64 left)] [] (.one (vi (cut (sizeE r.ents) left))) [] := by
  refine AFn.introX (E := En 0 md0) (en_ok 0 md0) Try.func32 rfl rfl rfl fun _ _ => ?_
  refine ACall.mk _ _ (laws_szEntryS r.ents left he hl) ?_
  refine Split.mk fun t ht => ?_
  rw [cut_lt] at ht
  cases t
  · exact Need.mk ⟨[], _, .same, rfl, rfl⟩ trivial
  · exact Need.mk ⟨[], _, .same, by rw [cut_neg (by simpa using ht)]; rfl, rfl⟩ trivial
theorem laws_szRunS (xs : List Rn) (left : Nat) (he : OkR xs) (hl : left ≤ 1048576) : AFn Try.prog 118 [sl (xs.map Rn.enc), av (.int .i64 left)] [] (.one (vi (cut (sizeR xs) left))) [] := by
  refine AFn.introX (E := En 0 md0) (en_ok 0 md0) Try.func118 rfl rfl rfl fun hs _ => ?_
  have hn : (xs.map Rn.enc).length = xs.length := List.length_map ..
  have hx := Small.len (hs _ (List.mem_cons_self ..))
  rw [hn] at hx
  have hz : sizeR xs = xs.length + (xs.map (fun r : Rn => sizeE r.ents)).sum := rfl
  have fin : ∀ {z : Int}, z = cut (sizeR xs) left → RV.one (vi z) = RV.one (vi (cut (sizeR xs) left)) := fun h => by rw [h]
  refine Num.mk ((left : Int) - xs.length) (by rw [hn, IntKind.wrap_i64]; omega) ?_
  refine Split.mk fun t ht => ?_
  cases t
  · have h3 : xs.length ≤ left := by simp at ht; omega
    refine ALoop.mk (fun m s => ∃ (i r : Nat), i ≤ xs.length ∧ m = xs.length - i ∧ xs.length + ((xs.take i).map (fun r : Rn => sizeE r.ents)).sum + r = left ∧
        s = ⟨some (sl (xs.map Rn.enc)) :: some (av (.int .i64 r)) :: none :: none :: none :: some (av (.int .i64 i)) :: List.replicate 21 none, List.replicate 27 absent⟩)
      ⟨xs.length, _, Weak.nrm [true, true, false, false, false, true] [] rfl rfl rfl, 0, left - xs.length, Nat.zero_le _, rfl, by simp; omega, ?_⟩ ?_
    · rw [show ((left - xs.length : Nat) : Int) = (left : Int) - xs.length by omega]; rfl
    rintro m s ⟨i, r, hi, rfl, hr, rfl⟩
    refine Split.mk fun t ht => ?_
    rw [hn] at ht
    cases t
    · have hin : i = xs.length := by simp at ht; omega
      subst hin
      rw [List.take_length] at hr
      exact Need.mk ⟨[], _, .same, fin (by rw [cut_pos (by omega)]; omega), rfl⟩ trivial
    · have hia : i < xs.length := by simpa using ht
      have hsum := sum_take (fun r : Rn => sizeE r.ents) xs hia
      have hle := sum_take_le (fun r : Rn => sizeE r.ents) xs (i + 1)
      refine Need.mk (by omega) ?_
      refine Row.mk _ (map_get _ xs i hia) ?_
      refine ACall.mk _ _ (laws_szRun xs[i] r (he _ (List.getElem_mem _)) (by omega)) ?_
      refine Split.mk fun t ht => ?_
      rw [cut_lt] at ht
      cases t
      · have h4 : (sizeE xs[i].ents) ≤ r := by simpa using ht
        refine Num.mk _ (wrapS (by omega)) ?_
        refine ⟨xs.length - (i + 1), _, by omega, Weak.nrm [true, true, false, false, false, true] [] rfl rfl rfl, i + 1, r - (sizeE xs[i].ents), by omega, rfl, by omega, ?_⟩
        rw [← cut_pos h4]; rfl
      · have h4 : ¬ (sizeE xs[i].ents) ≤ r := by simpa using ht
        exact Need.mk ⟨[], _, .same, fin (by rw [cut_neg (by omega)]), rfl⟩ trivial
  · have h4 : ¬ sizeR xs ≤ left := by simp at ht; omega
    exact Need.mk ⟨[], _, .same, fin (by rw [cut_neg h4]), rfl⟩ trivial
theorem laws_szRunSS (xs : List (List Rn)) (left : Nat) (he : OkRR xs) (hl : left ≤ 1048576) : AFn Try.prog 72 [sl (xs.map encL), av (.int .i64 left)] [] (.one (vi (cut (sizeRR xs) left))) [] := by
  refine AFn.introX (E := En 0 md0) (en_ok 0 md0) Try.func72 rfl rfl rfl fun hs _ => ?_
  have hn : (xs.map encL).length = xs.length := List.length_map ..
  have hx := Small.len (hs _ (List.mem_cons_self ..))
  rw [hn] at hx
  have hz : sizeRR xs = xs.length + (xs.map sizeR).sum := rfl
  have fin : ∀ {z : Int}, z = cut (sizeRR xs) left → RV.one (vi z) = RV.one (vi (cut (sizeRR xs) left)) := fun h => by rw [h]
  refine Num.mk ((left : Int) - xs.length) (by rw [hn, IntKind.wrap_i64]; omega) ?_
  refine Split.mk fun t ht => ?_
  cases t
  · have h3 : xs.length ≤ left := by simp at ht; omega
    refine ALoop.mk (fun m s => ∃ (i r : Nat), i ≤ xs.length ∧ m = xs.length - i ∧ xs.length + ((xs.take i).map sizeR).sum + r = left ∧
        s = ⟨some (sl (xs.map encL)) :: some (av (.int .i64 r)) :: none :: none :: none :: some (av (.int .i64 i)) :: List.replicate 21 none, List.replicate 27 absent⟩)
      ⟨xs.length, _, Weak.nrm [true, true, false, false, false, true] [] rfl rfl rfl, 0, left - xs.length, Nat.zero_le _, rfl, by simp; omega, ?_⟩ ?_
    · rw [show ((left - xs.length : Nat) : Int) = (left : Int) - xs.length by omega]; rfl
    rintro m s ⟨i, r, hi, rfl, hr, rfl⟩
    refine Split.mk fun t ht => ?_
    rw [hn] at ht
    cases t
    · have hin : i = xs.length := by simp at ht; omega
      subst hin
      rw [List.take_length] at hr
      exact Need.mk ⟨[], _, .same, fin (by rw [cut_pos (by omega)]; omega), rfl⟩ trivial
    · have hia : i < xs.length := by simpa using ht
      have hsum := sum_take sizeR xs hia
      have hle := sum_take_le sizeR xs (i + 1)
      refine Need.mk (by omega) ?_
      refine Row.mk _ (map_get _ xs i hia) ?_
      refine ACall.mk _ _ (laws_szRunS xs[i] r (he _ (List.getElem_mem _)) (by omega)) ?_
      refine Split.mk fun t ht => ?_
      rw [cut_lt] at ht
      cases t
      · have h4 : (sizeR xs[i]) ≤ r := by simpa using ht
        refine Num.mk _ (wrapS (by omega)) ?_
        refine ⟨xs.length - (i + 1), _, by omega, Weak.nrm [true, true, false, false, false, true] [] rfl rfl rfl, i + 1, r - (sizeR xs[i]), by omega, rfl, by omega, ?_⟩
        rw [← cut_pos h4]; rfl
      · have h4 : ¬ (sizeR xs[i]) ≤ r := by simpa using ht
        exact Need.mk ⟨[], _, .same, fin (by rw [cut_neg (by omega)]), rfl⟩ trivial
  · have h4 : ¬ sizeRR xs ≤ left := by simp at ht; omega
    exact Need.mk ⟨[], _, .same, fin (by rw [cut_neg h4]), rfl⟩ trivial
end Go.Proofs.Yteddoandjgjleaa

namespace Go.Proofs.Yteddoandjgjleaa
open Go Go.Proofs Ev
set_option maxRecDepth 100000
theorem laws_toEntry (e : Ent) : AFn Try.prog 101 [.agg (e.enc.map .c)] [] (.agg e.enc) [] := by
  refine AFn.introX (E := En 0 md0) (en_ok 0 md0) Try.func101 rfl rfl rfl fun _ _ => ?_
  exact Need.mk ⟨[], _, .same, rfl, rfl⟩ trivial
theorem laws_toEntryS (xs : List Ent) (hx : xs.length ≤ 1048576) : AFn Try.prog 48 [sl (xs.map Ent.enc)] [] (.one (.us 82 (xs.map Ent.enc))) [] := by
  refine AFn.introX (E := En 0 md0) (en_ok 0 md0) Try.func48 rfl rfl rfl fun _ _ => ?_
  have hn : (xs.map Ent.enc).length = xs.length := List.length_map ..
  refine Need.mk ⟨by omega, by omega, by simp only [hn]; omega, by omega⟩ ?_
  let S : List (List C) → Nat → St := fun rows i => ⟨some (sl (xs.map Ent.enc)) :: none :: none :: some (.one (.ref 3 0 (.cell 0))) :: some (av (.int .i64 i)) :: List.replicate 18 none, absent :: absent :: absent :: ⟨0, 1, some [.us 82 rows]⟩ :: List.replicate 19 absent⟩
  refine ALoop.mk (fun m s => ∃ i : Nat, i ≤ xs.length ∧ m = xs.length - i ∧ s = S ((xs.take i ++ List.replicate (xs.length - i) ent0).map Ent.enc) i)
    ⟨xs.length, _, Weak.nrm [true, false, false, true, true] [(7, 3)] rfl rfl rfl, 0, Nat.zero_le _, rfl, ?_⟩ ?_
  · refine Eq.trans (b := S (List.replicate (xs.map Ent.enc).length (Ent.enc ent0)) 0) rfl ?_
    rw [hn, List.take_zero, List.nil_append, List.map_replicate, Nat.sub_zero]
  rintro m s ⟨i, hi, rfl, rfl⟩
  refine Split.mk fun t ht => ?_
  rw [hn] at ht
  cases t
  · have hin : i = xs.length := by simp at ht; omega
    subst hin
    refine Need.mk ⟨[], _, .same, ?_, rfl⟩ trivial
    rw [List.take_length, Nat.sub_self, List.replicate_zero, List.append_nil]; rfl
  · have hia : i < xs.length := by simpa using ht
    refine Need.mk (by omega) ?_
    refine Row.mk _ (map_get _ xs i hia) ?_
    refine ACall.mk _ _ (laws_toEntry xs[i]) ?_
    refine Need.mk ⟨by omega, by rw [List.length_map, to_len _ _ hi]; omega⟩ ?_
    refine Row.mk _ (to_get _ xs ent0 hia) ?_
    refine Num.mk _ (wrapS (by omega)) ?_
    refine ⟨xs.length - (i + 1), _, by omega, Weak.nrm [true, false, false, true, true] [(3, 3)] rfl rfl rfl, i + 1, by omega, rfl, ?_⟩
    refine Eq.trans (b := S (((xs.take i ++ List.replicate (xs.length - i) ent0).map Ent.enc).set i (Ent.enc xs[i])) (i + 1)) rfl ?_
    rw [← List.map_set, to_step xs ent0 hia]
end Go.Proofs.Yteddoandjgjleaa

namespace Go.Proofs.Yteddoandjgjleaa
open Go Go.Proofs Ev
set_option maxRecDepth 100000
theorem laws_toRun (r : Rn) (hr : r.ents.length ≤ 1048576) : AFn Try.prog 34 [.agg (r.enc.map .c)] [] (.agg (encO r)) [] := by
  refine AFn.introX (E := En 0 md0) (en_ok 0 md0) Try.func34 rfl rfl rfl fun _ _ => ?_
  refine ACall.mk _ _ (laws_toEntryS r.ents hr) ?_
  exact Need.mk ⟨[], _, .same, rfl, rfl⟩ trivial
theorem laws_toRunS (xs : List Rn) (hx : xs.length ≤ 1048576) (hr : ∀ r ∈ xs, r.ents.length ≤ 1048576) : AFn Try.prog 119 [sl (xs.map Rn.enc)] [] (.one (.us 57 (xs.map encO))) [] := by
  refine AFn.introX (E := En 0 md0) (en_ok 0 md0) Try.func119 rfl rfl rfl fun _ _ => ?_
  have hn : (xs.map Rn.enc).length = xs.length := List.length_map ..
  refine Need.mk ⟨by omega, by omega, by simp only [hn]; omega, by omega⟩ ?_
  let S : List (List C) → Nat → St := fun rows i => ⟨some (sl (xs.map Rn.enc)) :: none :: none :: some (.one (.ref 3 0 (.cell 0))) :: some (av (.int .i64 i)) :: List.replicate 18 none, absent :: absent :: absent :: ⟨0, 1, some [.us 57 rows]⟩ :: List.replicate 19 absent⟩
  refine ALoop.mk (fun m s => ∃ i : Nat, i ≤ xs.length ∧ m = xs.length - i ∧ s = S ((xs.take i ++ List.replicate (xs.length - i) (⟨[], 0⟩ : Rn)).map encO) i)
    ⟨xs.length, _, Weak.nrm [true, false, false, true, true] [(7, 3)] rfl rfl rfl, 0, Nat.zero_le _, rfl, ?_⟩ ?_
  · refine Eq.trans (b := S (List.replicate (xs.map Rn.enc).length (encO (⟨[], 0⟩ : Rn))) 0) rfl ?_
    rw [hn, List.take_zero, List.nil_append, List.map_replicate, Nat.sub_zero]
  rintro m s ⟨i, hi, rfl, rfl⟩
  refine Split.mk fun t ht => ?_
  rw [hn] at ht
  cases t
  · have hin : i = xs.length := by simp at ht; omega
    subst hin
    refine Need.mk ⟨[], _, .same, ?_, rfl⟩ trivial
    rw [List.take_length, Nat.sub_self, List.replicate_zero, List.append_nil]; rfl
  · have hia : i < xs.length := by simpa using ht
    refine Need.mk (by omega) ?_
    refine Row.mk _ (map_get _ xs i hia) ?_
    refine ACall.mk _ _ (laws_toRun xs[i] (hr _ (List.getElem_mem _))) ?_
    refine Need.mk ⟨by omega, by rw [List.length_map, to_len _ _ hi]; omega⟩ ?_
    refine Row.mk _ (to_get _ xs (⟨[], 0⟩ : Rn) hia) ?_
    refine Num.mk _ (wrapS (by omega)) ?_
    refine ⟨xs.length - (i + 1), _, by omega, Weak.nrm [true, false, false, true, true] [(3, 3)] rfl rfl rfl, i + 1, by omega, rfl, ?_⟩
    refine Eq.trans (b := S (((xs.take i ++ List.replicate (xs.length - i) (⟨[], 0⟩ : Rn)).map encO).set i (encO xs[i])) (i + 1)) rfl ?_
    rw [← List.map_set, to_step xs (⟨[], 0⟩ : Rn) hia]
end Go.Proofs.Yteddoandjgjleaa

namespace Go.Proofs.Yteddoandjgjleaa
open Go Go.Proofs Ev
set_option maxRecDepth 100000
theorem laws_eqEntry (a b : Ent) : AFn Try.prog 95 [.agg (a.enc.map .c), .agg (b.enc.map .c)] [] (rb (decide (a = b))) [] := by
  refine AFn.introX (E := En 0 md0) (en_ok 0 md0) Try.func95 rfl rfl rfl fun _ _ => ?_
  have fin : ∀ {c : Bool}, c = decide (a = b) → rb c = rb (decide (a = b)) := fun h => by rw [h]
  refine Split.mk fun t ht => ?_
  rw [bytes_beq] at ht
  cases t
  · refine Split.mk fun t ht1 => ?_
    cases t
    · refine Split.mk fun t ht2 => ?_
      cases t
      · refine Split.mk fun t ht3 => ?_
        rw [bytes_beq] at ht3
        cases t
        · refine Split.mk fun t ht4 => ?_
          cases t
          · exact Need.mk ⟨[], _, .same, fin (by cases a; cases b; simp_all), rfl⟩ trivial
          · exact Need.mk ⟨[], _, .same, fin (by cases a; cases b; simp_all), rfl⟩ trivial
        · exact Need.mk ⟨[], _, .same, fin (by cases a; cases b; simp_all), rfl⟩ trivial
      · exact Need.mk ⟨[], _, .same, fin (by cases a; cases b; simp_all), rfl⟩ trivial
    · exact Need.mk ⟨[], _, .same, fin (by cases a; cases b; simp_all), rfl⟩ trivial
  · exact Need.mk ⟨[], _, .same, fin (by cases a; cases b; simp_all), rfl⟩ trivial
end Go.Proofs.Yteddoandjgjleaa

namespace Go.Proofs.Yteddoandjgjleaa
open Go Go.Proofs Ev
set_option maxRecDepth 100000
theorem laws_eqEntryS (a b : List Ent) : AFn Try.prog 41 [sl (a.map Ent.enc), sl (b.map Ent.enc)] [] (rb (decide (a = b))) [] := by
  refine AFn.introX (E := En 0 md0) (en_ok 0 md0) Try.func41 rfl rfl rfl fun hs _ => ?_
  have ha := Small.len (hs _ (List.mem_cons_self ..))
  rw [List.length_map] at ha
  have fin : ∀ {c : Bool}, c = decide (a = b) → rb c = rb (decide (a = b)) := fun h => by rw [h]
  refine Split.mk fun t ht => ?_
  cases t
  · have hl : a.length = b.length := Int.ofNat_inj.1 (by simpa using ht)
    refine ALoop.mk (fun n s => ∃ i : Nat, i ≤ a.length ∧ n = a.length - i ∧ a.take i = b.take i ∧
      s = ⟨some (sl (a.map Ent.enc)) :: some (sl (b.map Ent.enc)) :: none :: none :: some (av (.bool false)) :: some (av (.int .i64 i)) :: List.replicate 21 none, List.replicate 27 absent⟩)
      ⟨a.length, _, Weak.nrm [true, true, false, false, true, true] [] rfl rfl rfl, 0, Nat.zero_le _, rfl, rfl, rfl⟩ ?_
    rintro n s ⟨i, hi, rfl, hp, rfl⟩
    refine Split.mk fun t ht => ?_
    cases t
    · have hia : i = a.length := by simp at ht; omega
      refine Need.mk ⟨[], _, .same, fin ?_, rfl⟩ trivial
      subst hia
      rw [List.take_length, hl, List.take_length] at hp
      simp [hp]
    · have hia : i < a.length := by simpa using ht
      refine Need.mk (by omega) ?_
      refine Row.mk _ (map_get _ a i hia) ?_
      refine Need.mk (by omega) ?_
      refine Row.mk _ (map_get _ b i (by omega)) ?_
      refine ACall.mk _ _ (laws_eqEntry a[i] (b[i]'(by omega))) ?_
      refine Split.mk fun t ht2 => ?_
      cases t
      · refine Need.mk rfl ?_
        refine Need.mk ⟨[], _, .same, fin ?_, rfl⟩ trivial
        have : a[i] ≠ b[i]'(by omega) := by simpa using ht2
        refine (decide_eq_false fun e => this ?_).symm
        subst e; rfl
      · refine Need.mk rfl ?_
        refine Num.mk _ (wrapS (by omega)) ?_
        refine ⟨a.length - (i + 1), _, by omega, Weak.nrm [true, true, false, false, true, true] [] rfl rfl rfl, i + 1, by omega, rfl, ?_, rfl⟩
        have : a[i] = b[i]'(by omega) := by simpa using ht2
        rw [List.take_succ_eq_append_getElem hia, List.take_succ_eq_append_getElem (by omega), hp, this]
  · refine Need.mk ⟨[], _, .same, fin ?_, rfl⟩ trivial
    have : a.length ≠ b.length := by
      intro e; simp [e] at ht
    exact (decide_eq_false fun e => this (by rw [e])).symm
end Go.Proofs.Yteddoandjgjleaa

namespace Go.Proofs.Yteddoandjgjleaa
open Go Go.Proofs Ev
set_option maxRecDepth 100000
theorem laws_eqRun (a b : Rn) : AFn Try.prog 36 [.agg (a.enc.map .c), .agg (b.enc.map .c)] [] (rb (decide (a = b))) [] := by
  refine AFn.introX (E := En 0 md0) (en_ok 0 md0) Try.func36 rfl rfl rfl fun _ _ => ?_
  have fin : ∀ {c : Bool}, c = decide (a = b) → rb c = rb (decide (a = b)) := fun h => by rw [h]
  refine ACall.mk _ _ (laws_eqEntryS a.ents b.ents) ?_
  refine Split.mk fun t ht => ?_
  cases t
  · exact Need.mk ⟨[], _, .same, fin (by cases a; cases b; simp_all), rfl⟩ trivial
  · refine Split.mk fun t ht1 => ?_
    cases t
    · exact Need.mk ⟨[], _, .same, fin (by cases a; cases b; simp_all), rfl⟩ trivial
    · exact Need.mk ⟨[], _, .same, fin (by cases a; cases b; simp_all), rfl⟩ trivial
end Go.Proofs.Yteddoandjgjleaa

namespace Go.Proofs.Yteddoandjgjleaa
open Go Go.Proofs Ev
set_option maxRecDepth 100000
set_option maxHeartbeats 1000000
theorem laws_FnExactRunMay (r : Rn) (key : ByteArray) (hr : OkE r.ents) (hk : key.size ≤ maxLen) : AFn Try.prog 7 [.agg (r.enc.map .c), av (.string key)] [] (rb true) [] := by
  refine AFn.introX (E := En 0 md0) (en_ok 0 md0) Try.func7 rfl rfl rfl fun _ _ => ?_
  refine Split.mk fun t ht => ?_
  cases t
  case true => exact Need.mk ⟨[], _, .same, rfl, rfl⟩ trivial
  by_cases h1 : sizeE r.ents ≤ 1048576
  · have hl : r.ents.length ≤ 1048576 := small_run h1
    refine ACall.mk (.one (vi ((1048576 - sizeE r.ents : Nat) : Int))) [] (by rw [← cut_pos h1]; exact laws_szRun r 1048576 hr (Nat.le_refl _)) ?_
    refine Split.mk fun t ht => ?_
    cases t
    case true => first | (simp at ht; done) | (simp at ht; omega)
    refine ACall.mk _ _ (laws_toRun r hl) ?_
    refine Fz.mk _ (frzE r.ents) ?_
    refine ACall.mk _ _ (spec_RunMay r key hr hk (by omega)) ?_
    refine Need.mk ⟨closed_v, no_objs⟩ ?_
    refine Split.mk fun t h2 => ?_
    refine ACall.mk _ _ (laws_toRun r hl) ?_
    refine Fz.mk _ (frzE r.ents) ?_
    refine ACall.mk _ _ (impl_RunMay r key hr hk) ?_
    refine Need.mk ⟨closed_v, no_objs⟩ ?_
    refine Split.mk fun t h3 => ?_
    refine Split.mk fun t h4 => ?_
    cases t
    · refine ACall.mk _ _ (laws_toRun r hl) ?_
      refine Fz.mk _ (frzE r.ents) ?_
      refine Fz.mk _ (frzE r.ents) ?_
      refine ACall.mk _ _ (laws_eqRun r r) ?_
      refine Need.mk ⟨closed_v, no_objs⟩ ?_
      refine Split.mk fun t h5 => ?_
      refine Need.mk rfl ?_
      cases t
      · simp at h5
      · exact Need.mk ⟨[], _, .same, rfl, rfl⟩ trivial
    · subst h2; subst h3; simp at h4
  · refine ACall.mk (.one (vi (-1))) [] (by rw [← cut_neg h1]; exact laws_szRun r 1048576 hr (Nat.le_refl _)) ?_
    refine Split.mk fun t ht => ?_
    cases t
    · simp at ht
    · exact Need.mk ⟨[], _, .same, rfl, rfl⟩ trivial
theorem laws_FnExactRunMay_any (r0 : List C) (h0 : ShL tyRn r0) (c1 : C) (h1 : Sh .str c1) : AFn Try.prog 7 [.agg (r0.map .c), .one (.c c1)] [] (rb true) [] := by
  obtain ⟨r, rfl, wr⟩ := dec_rn h0
  obtain ⟨k, rfl, wk⟩ := h1.str'
  exact laws_FnExactRunMay r k (fun e he => (wr.1 e he).1) wk
end Go.Proofs.Yteddoandjgjleaa

namespace Go.Proofs.Yteddoandjgjleaa
open Go Go.Proofs Ev
set_option maxRecDepth 100000
theorem laws_markText (k : Nat) (hk : k ≤ 4611686018427387904) : AFn Try.prog 96 [av (.int .i64 k)] [] (.one (vs (markT k))) [] := by
  refine AFn.introX (E := En 0 md0) (en_ok 0 md0) Try.func96 rfl rfl rfl fun _ _ => ?_
  refine Split.mk fun t ht => ?_
  cases t
  · have h0 : 0 < k := by simp at ht; omega
    refine ALoop.mk (fun n s => ∃ (j : Nat) (out : ByteArray), n = j ∧ j + out.size ≤ 4611686018427387904 ∧ digs j out = digs k ⟨#[]⟩ ∧
      s = ⟨some (av (.int .i64 j)) :: none :: some (av (.string ⟨#[]⟩)) :: some (av (.string out)) :: List.replicate 16 none, List.replicate 20 absent⟩)
      ⟨k, _, Weak.nrm [true, false, true, true] [] rfl rfl rfl, k, ⟨#[]⟩, rfl, hk, rfl, rfl⟩ ?_
    rintro j s ⟨_, out, rfl, hb, hd, rfl⟩
    refine Split.mk fun t ht => ?_
    cases t
    · have hj : j = 0 := by simp at ht; omega
      subst hj
      refine Need.mk (strFits1 (by omega)) ?_
      refine Need.mk ⟨[], _, .same, ?_, rfl⟩ trivial
      have : markT k = ⟨#[109]⟩ ++ digs k ⟨#[]⟩ := by simp [markT]; omega
      rw [this, ← hd, digs_zero]; rfl
    · have hj : 0 < j := by simpa using ht
      refine Need.mk (by decide) ?_
      refine Num.mk ((48 + j % 10 : Nat) : Int) (by rw [show ((j : Int).tmod 10) = ((j % 10 : Nat) : Int) from rfl, wrapI] <;> omega) ?_
      refine Num.mk ((48 + j % 10 : Nat) : Int) (by rw [wrapU8] <;> omega) ?_
      refine Need.mk (strFits1 (by omega)) ?_
      refine Need.mk (by decide) ?_
      refine Num.mk ((j / 10 : Nat) : Int) (by rw [show ((j : Int).tdiv 10) = ((j / 10 : Nat) : Int) from rfl, wrapI] <;> omega) ?_
      refine ⟨j / 10, _, by omega, Weak.nrm [true, false, true, true] [] rfl rfl rfl, j / 10, dig j ++ out, rfl, ?_, ?_, rfl⟩
      · rw [ByteArray.size_append, show (dig j).size = 1 from rfl]; omega
      · rw [← digs_succ hj]; exact hd
  · have h0 : k = 0 := by simp at ht; omega
    subst h0
    exact Need.mk ⟨[], _, .same, rfl, rfl⟩ trivial
end Go.Proofs.Yteddoandjgjleaa

namespace Go.Proofs.Yteddoandjgjleaa
open Go Go.Proofs Ev
set_option maxRecDepth 100000
theorem laws_markEntryS (xs : List Ent) (k : Nat) (hk : k + 5 * xs.length ≤ 4611686018427387904) : AFn Try.prog 44 [.one (.ref 0 0 (.cell 0)), av (.int .i64 k)] [[.us 82 (xs.map Ent.enc)]] (.one (vi ((k + 5 * xs.length : Nat) : Int))) [[.us 82 ((markL k xs.length).map Ent.enc)]] := by
  refine AFn.introX (E := En 1 md0) (en_ok 1 md0) Try.func44 rfl rfl rfl fun _ _ => ?_
  let S : List (List C) → Nat → Nat → St := fun rows i m => ⟨some (.one (.ref 0 0 (.cell 0))) :: some (av (.int .i64 m)) :: none :: none :: none :: some (av (.int .i64 i)) :: List.replicate 44 none, ⟨0, 1, some [.us 82 rows]⟩ :: List.replicate 50 absent⟩
  refine ALoop.mk (fun n s => ∃ (i : Nat) (ys : List Ent), i ≤ xs.length ∧ n = xs.length - i ∧ ys.length = xs.length ∧ (∀ j : Nat, j < i → ys[j]? = some (markE (k + 5 * j))) ∧ s = S (ys.map Ent.enc) i (k + 5 * i))
    ⟨xs.length, _, Weak.nrm [true, true, false, false, false, true] [(0, 0)] rfl rfl rfl, 0, xs, Nat.zero_le _, rfl, rfl, by intro j hj; omega, rfl⟩ ?_
  rintro n s ⟨i, ys, hi, rfl, hl, hm, rfl⟩
  refine Split.mk fun t ht => ?_
  rw [List.length_map] at ht
  cases t
  · have hia : i = xs.length := by simp at ht; omega
    subst hia
    refine Need.mk ⟨[], _, .same, rfl, ?_⟩ trivial
    rw [← markL_of hl hm]; rfl
  · have hia : i < ys.length := by simpa using ht
    have hlen : i < (ys.map Ent.enc).length := by rw [List.length_map]; exact hia
    refine ACall.mk _ _ (laws_markText (k + 5 * i) (by omega)) ?_
    refine Need.mk ⟨by omega, by simpa using hia⟩ ?_
    refine Row.mk _ (map_get _ ys i hia) ?_
    refine Num.mk _ (wrapS (by omega)) ?_
    refine Need.mk ⟨by omega, by simpa using hia⟩ ?_
    refine Row.mk _ (set_get _ _ _ hlen) ?_
    refine Num.mk _ (wrapS (by omega)) ?_
    refine Need.mk ⟨by omega, by simpa using hia⟩ ?_
    refine Row.mk _ (set_get _ _ _ (by simpa using hia)) ?_
    refine Num.mk _ (wrapS (by omega)) ?_
    refine ACall.mk _ _ (laws_markText (k + 5 * i + 1 + 1 + 1) (by omega)) ?_
    refine Need.mk ⟨by omega, by simpa using hia⟩ ?_
    refine Row.mk _ (set_get _ _ _ (by simpa using hia)) ?_
    refine Num.mk _ (wrapS (by omega)) ?_
    refine Need.mk ⟨by omega, by simpa using hia⟩ ?_
    refine Row.mk _ (set_get _ _ _ (by simpa using hia)) ?_
    refine Num.mk _ (wrapS (by omega)) ?_
    refine Num.mk _ (wrapS (by omega)) ?_
    refine ⟨xs.length - (i + 1), _, by omega, Weak.nrm [true, true, false, false, false, true] [(0, 0)] rfl rfl rfl, i + 1, ys.set i (markE (k + 5 * i)), by omega, rfl, by simpa using hl, fun j hj => ?_, ?_⟩
    · by_cases hji : j = i
      · subst hji; exact List.getElem?_set_self hia
      · rw [List.getElem?_set_ne (Ne.symm hji)]; exact hm j (by omega)
    · refine Eq.trans (b := S ((((((ys.map Ent.enc).set i _).set i _).set i _).set i _).set i (markE (k + 5 * i)).enc) (i + 1) (k + 5 * i + 1 + 1 + 1 + 1 + 1)) rfl ?_
      simp only [List.set_set, List.map_set]
      rfl
end Go.Proofs.Yteddoandjgjleaa

namespace Go.Proofs.Yteddoandjgjleaa
open Go Go.Proofs Ev
set_option maxRecDepth 100000
theorem laws_heldEntryS (k n : Nat) (hk : k + 5 * n ≤ 4611686018427387904) : AFn Try.prog 45 [sl ((markL k n).map Ent.enc), av (.int .i64 k)] [] (.one (vi ((k + 5 * n : Nat) : Int))) [] := by
  refine AFn.introX (E := En 0 md0) (en_ok 0 md0) Try.func45 rfl rfl rfl fun _ _ => ?_
  have hn : ((markL k n).map Ent.enc).length = n := by rw [List.length_map, markL_len]
  refine ALoop.mk (fun m s => ∃ i : Nat, i ≤ n ∧ m = n - i ∧
      s = ⟨some (sl ((markL k n).map Ent.enc)) :: some (av (.int .i64 ((k + 5 * i : Nat) : Int))) :: none :: none :: none :: some (av (.int .i64 i)) :: List.replicate 54 none, List.replicate 60 absent⟩)
    ⟨n, _, Weak.nrm [true, true, false, false, false, true] [] rfl rfl rfl, 0, Nat.zero_le _, rfl, rfl⟩ ?_
  rintro m s ⟨i, hi, rfl, rfl⟩
  refine Split.mk fun t ht => ?_
  rw [hn] at ht
  cases t
  · have hin : i = n := by simp at ht; omega
    subst hin
    exact Need.mk ⟨[], _, .same, rfl, rfl⟩ trivial
  · have hin : i < n := by simpa using ht
    have hget : ((markL k n).map Ent.enc)[i]? = some (markE (k + 5 * i)).enc := by rw [List.getElem?_map, markL_get hin]; rfl
    refine Need.mk (by omega) ?_
    refine Row.mk _ hget ?_
    refine ACall.mk _ _ (laws_markText (k + 5 * i) (by omega)) ?_
    refine Split.mk fun t ht => ?_
    rw [bytes_beq] at ht
    cases t
    · refine Need.mk rfl ?_
      refine Num.mk _ (wrapS (by omega)) ?_
      refine Need.mk (by omega) ?_
      refine Row.mk _ hget ?_
      refine Split.mk fun t ht => ?_
      cases t
      · refine Num.mk _ (wrapS (by omega)) ?_
        refine Need.mk (by omega) ?_
        refine Row.mk _ hget ?_
        refine Split.mk fun t ht => ?_
        cases t
        · refine Num.mk _ (wrapS (by omega)) ?_
          refine Need.mk (by omega) ?_
          refine Row.mk _ hget ?_
          refine ACall.mk _ _ (laws_markText (k + 5 * i + 1 + 1 + 1) (by omega)) ?_
          refine Split.mk fun t ht => ?_
          rw [bytes_beq] at ht
          cases t
          · refine Need.mk rfl ?_
            refine Num.mk _ (wrapS (by omega)) ?_
            refine Need.mk (by omega) ?_
            refine Row.mk _ hget ?_
            refine Split.mk fun t ht => ?_
            cases t
            · refine Num.mk _ (wrapS (by omega)) ?_
              refine Num.mk _ (wrapS (by omega)) ?_
              exact ⟨n - (i + 1), _, by omega, Weak.nrm [true, true, false, false, false, true] [] rfl rfl rfl, i + 1, by omega, rfl, rfl⟩
            · simp [markE] at ht <;> omega
          · simp [markE] at ht <;> omega
        · simp [markE] at ht <;> omega
      · simp [markE] at ht <;> omega
    · simp [markE] at ht <;> omega
end Go.Proofs.Yteddoandjgjleaa

namespace Go.Proofs.Yteddoandjgjleaa
open Go Go.Proofs Ev
set_option maxRecDepth 100000
theorem laws_markRun (r : Rn) (k : Nat) (hk : k + 5 * r.ents.length ≤ 4611686018427387904) : AFn Try.prog 50 [.agg [.ref 0 0 (.cell 0), .c (vi r.mask)], av (.int .i64 k)] [[.us 82 (r.ents.map Ent.enc)]] (.one (vi ((k + 5 * r.ents.length : Nat) : Int))) [[.us 82 ((markL k r.ents.length).map Ent.enc)]] := by
  refine AFn.introX (E := En 1 (md1 [44]) [2]) (en_ok 1 _ _) Try.func50 rfl rfl rfl fun _ hs => ?_
  refine ACall.mk _ _ (laws_markEntryS r.ents k hk) ?_
  exact Need.mk ⟨[], _, .same, rfl, rfl⟩ trivial
theorem laws_heldRun (m : Int) (k n : Nat) (hk : k + 5 * n ≤ 4611686018427387904) : AFn Try.prog 51 [.agg [.c (.sl ((markL k n).map Ent.enc)), .c (vi m)], av (.int .i64 k)] [] (.one (vi ((k + 5 * n : Nat) : Int))) [] := by
  refine AFn.introX (E := En 0 md0) (en_ok 0 md0) Try.func51 rfl rfl rfl fun _ hs => ?_
  refine ACall.mk _ _ (laws_heldEntryS k n hk) ?_
  refine Split.mk fun b hb => ?_
  cases b
  · exact Need.mk ⟨[], _, .same, rfl, rfl⟩ trivial
  · first | (simp at hb; done) | (simp at hb; omega)
end Go.Proofs.Yteddoandjgjleaa

namespace Go.Proofs.Yteddoandjgjleaa
open Go Go.Proofs Ev
set_option maxRecDepth 100000
set_option maxHeartbeats 2000000
theorem closed_rof (e : TypeId) (xs : List Ent) (v w : Value) : ∀ c ∈ ([C.us e (xs.map Ent.enc), .v v, .v w] : List C), Closed c := fun c hc => by
  simp only [List.mem_cons, List.not_mem_nil, or_false] at hc
  rcases hc with h | h | h <;> subst h
  · exact closedE e xs
  · exact .v
  · exact .v
theorem laws_FnExactRunOf (xs : List Ent) (hx : OkE xs) : AFn Try.prog 9 [sl (xs.map Ent.enc)] [] (rb true) [] := by
  refine AFn.introX (E := En 0 (mdv [44, 50] [47])) (en_ok 0 _) Try.func9 rfl rfl rfl fun _ _ => ?_
  by_cases h1 : sizeE xs ≤ 1048576
  · have hl : xs.length ≤ 1048576 := by unfold sizeE at h1; omega
    have hex : ∃ ys, isort eLess xs = ys := ⟨_, rfl⟩
    obtain ⟨ys, hy⟩ := hex
    have hyl : ys.length ≤ 1048576 := by rw [← hy, isort_len]; exact hl
    by_cases hg : good xs = true
    · have hS := spec_RunOf_ok xs hx hg
      have hI := impl_RunOf_ok xs hx hg
      rw [hy] at hS hI
      refine ACall.mk (.one (vi ((1048576 - sizeE xs : Nat) : Int))) [] (by rw [← cut_pos h1]; exact laws_szEntryS xs 1048576 hx (Nat.le_refl _)) ?_
      refine Split.mk fun t ht => ?_
      cases t
      case true => first | (simp at ht; done) | (simp at ht; omega)
      refine ACall.mk _ _ (laws_toEntryS xs hl) ?_
      refine Fz.mk _ (frzE xs) ?_
      refine ACall.mk _ _ hS ?_
      refine Split.mk fun t h2 => ?_
      cases t
      case false => cases h2
      refine ACall.mk _ _ (laws_toEntryS xs hl) ?_
      refine Fz.mk _ (frzE xs) ?_
      refine ACall.mk _ _ hI ?_
      refine Need.mk ⟨closed_rof _ ys _ _, no_objs⟩ ?_
      refine Split.mk fun t h3 => ?_
      cases t
      case false => cases h3
      refine Fz.mk _ (frzE ys) ?_
      refine ACall.mk _ _ (laws_eqRun ⟨ys, (rmask ys : Nat)⟩ ⟨ys, (rmask ys : Nat)⟩) ?_
      refine Need.mk ⟨closed_v, no_objs⟩ ?_
      refine Split.mk fun t h4 => ?_
      cases t
      case false => simp at h4
      refine Split.mk fun t h5 => ?_
      cases t
      case true => simp at h5
      refine ACall.mk _ _ (laws_toEntryS xs hl) ?_
      refine Fz.mk _ (frzE xs) ?_
      refine Fz.mk _ (frzE xs) ?_
      refine ACall.mk _ _ (laws_eqEntryS xs xs) ?_
      refine Need.mk ⟨closed_v, no_objs⟩ ?_
      refine Split.mk fun t h6 => ?_
      cases t
      case false => simp at h6
      refine ACall.mk _ _ (laws_markEntryS xs 1 (by omega)) ?_
      refine Split.mk fun t h7 => ?_
      cases t
      case true => first | (simp at h7; done) | (simp at h7; omega)
      refine Fz.mk _ (frzE ys) ?_
      refine ACall.mk _ _ (laws_eqRun ⟨ys, (rmask ys : Nat)⟩ ⟨ys, (rmask ys : Nat)⟩) ?_
      refine Need.mk ⟨closed_v, no_objs⟩ ?_
      refine Split.mk fun t h8 => ?_
      cases t
      case false => simp at h8
      refine Split.mk fun t h9 => ?_
      cases t
      case true => simp at h9
      refine ACall.mk _ _ (laws_markRun ⟨ys, (rmask ys : Nat)⟩ 1 (by show 1 + 5 * ys.length ≤ _; omega)) ?_
      refine Fz.mk _ (frzE (markL 1 ys.length)) ?_
      refine ACall.mk _ _ (laws_heldRun (rmask ys : Nat) 1 ys.length (by omega)) ?_
      refine Need.mk ⟨closed_v, no_objs⟩ ?_
      refine Split.mk fun t h10 => ?_
      cases t
      case true => first | (simp at h10; done) | (simp at h10; omega)
      refine Split.mk fun t h11 => ?_
      cases t
      case true => simp at h11
      refine ACall.mk _ _ (laws_toEntryS xs hl) ?_
      refine Fz.mk _ (frzE xs) ?_
      refine ACall.mk _ _ hI ?_
      refine Need.mk ⟨closed_rof _ ys _ _, no_objs⟩ ?_
      refine Split.mk fun t h12 => ?_
      cases t
      case false => cases h12
      refine Fz.mk _ (frzE ys) ?_
      refine ACall.mk _ _ (laws_eqRun ⟨ys, (rmask ys : Nat)⟩ ⟨ys, (rmask ys : Nat)⟩) ?_
      refine Need.mk ⟨closed_v, no_objs⟩ ?_
      refine Split.mk fun t h13 => ?_
      cases t
      case false => simp at h13
      refine Split.mk fun t h14 => ?_
      cases t
      case true => simp at h14
      refine Fz.mk _ (frzE (markL 1 ys.length)) ?_
      refine ACall.mk _ _ (laws_heldRun (rmask ys : Nat) 1 ys.length (by omega)) ?_
      refine Need.mk ⟨closed_v, no_objs⟩ ?_
      refine Split.mk fun t h15 => ?_
      cases t
      case true => first | (simp at h15; done) | (simp at h15; omega)
      refine Split.mk fun t h16 => ?_
      cases t
      case true => simp at h16
      exact Need.mk ⟨[], _, .same, rfl, rfl⟩ trivial
    · have hg : good xs = false := by simpa using hg
      have hS := spec_RunOf_bad xs hx hg
      have hI := impl_RunOf_bad xs hx hg
      refine ACall.mk (.one (vi ((1048576 - sizeE xs : Nat) : Int))) [] (by rw [← cut_pos h1]; exact laws_szEntryS xs 1048576 hx (Nat.le_refl _)) ?_
      refine Split.mk fun t ht => ?_
      cases t
      case true => first | (simp at ht; done) | (simp at ht; omega)
      refine ACall.mk _ _ (laws_toEntryS xs hl) ?_
      refine Fz.mk _ (frzE xs) ?_
      refine ACall.mk _ _ hS ?_
      refine Split.mk fun t h2 => ?_
      cases t
      case true => cases h2
      refine ACall.mk _ _ (laws_toEntryS xs hl) ?_
      refine Fz.mk _ (frzE xs) ?_
      refine ACall.mk _ _ hI ?_
      refine Need.mk ⟨closed_rof _ [] _ _, no_objs⟩ ?_
      refine Split.mk fun t h3 => ?_
      cases t
      case true => cases h3
      refine Fz.mk _ (frzE []) ?_
      refine Fz.mk _ (frzE []) ?_
      refine ACall.mk _ _ (laws_eqRun ⟨[], 0⟩ ⟨[], 0⟩) ?_
      refine Need.mk ⟨closed_v, no_objs⟩ ?_
      refine Split.mk fun t h4 => ?_
      cases t
      case false => simp at h4
      refine Split.mk fun t h5 => ?_
      cases t
      case true => simp at h5
      refine ACall.mk _ _ (laws_toEntryS xs hl) ?_
      refine Fz.mk _ (frzE xs) ?_
      refine Fz.mk _ (frzE xs) ?_
      refine ACall.mk _ _ (laws_eqEntryS xs xs) ?_
      refine Need.mk ⟨closed_v, no_objs⟩ ?_
      refine Split.mk fun t h6 => ?_
      cases t
      case false => simp at h6
      refine ACall.mk _ _ (laws_markEntryS xs 1 (by omega)) ?_
      refine Split.mk fun t h7 => ?_
      cases t
      case true => first | (simp at h7; done) | (simp at h7; omega)
      refine Fz.mk _ (frzE []) ?_
      refine Fz.mk _ (frzE []) ?_
      refine ACall.mk _ _ (laws_eqRun ⟨[], 0⟩ ⟨[], 0⟩) ?_
      refine Need.mk ⟨closed_v, no_objs⟩ ?_
      refine Split.mk fun t h8 => ?_
      cases t
      case false => simp at h8
      refine Split.mk fun t h9 => ?_
      cases t
      case true => simp at h9
      refine ACall.mk _ _ (laws_markRun ⟨[], 0⟩ 1 (by decide)) ?_
      refine Fz.mk _ (frzE (markL 1 0)) ?_
      refine ACall.mk _ _ (laws_heldRun 0 1 0 (by omega)) ?_
      refine Need.mk ⟨closed_v, no_objs⟩ ?_
      refine Split.mk fun t h10 => ?_
      cases t
      case true => first | (simp at h10; done) | (simp at h10; omega)
      refine Split.mk fun t h11 => ?_
      cases t
      case true => simp at h11
      refine ACall.mk _ _ (laws_toEntryS xs hl) ?_
      refine Fz.mk _ (frzE xs) ?_
      refine ACall.mk _ _ hI ?_
      refine Need.mk ⟨closed_rof _ [] _ _, no_objs⟩ ?_
      refine Split.mk fun t h12 => ?_
      cases t
      case true => cases h12
      refine Fz.mk _ (frzE []) ?_
      refine Fz.mk _ (frzE []) ?_
      refine ACall.mk _ _ (laws_eqRun ⟨[], 0⟩ ⟨[], 0⟩) ?_
      refine Need.mk ⟨closed_v, no_objs⟩ ?_
      refine Split.mk fun t h13 => ?_
      cases t
      case false => simp at h13
      refine Split.mk fun t h14 => ?_
      cases t
      case true => simp at h14
      refine Fz.mk _ (frzE (markL 1 0)) ?_
      refine ACall.mk _ _ (laws_heldRun 0 1 0 (by omega)) ?_
      refine Need.mk ⟨closed_v, no_objs⟩ ?_
      refine Split.mk fun t h15 => ?_
      cases t
      case true => first | (simp at h15; done) | (simp at h15; omega)
      refine Split.mk fun t h16 => ?_
      cases t
      case true => simp at h16
      exact Need.mk ⟨[], _, .same, rfl, rfl⟩ trivial
  · refine ACall.mk (.one (vi (-1))) [] (by rw [← cut_neg h1]; exact laws_szEntryS xs 1048576 hx (Nat.le_refl _)) ?_
    refine Split.mk fun t ht => ?_
    cases t
    · simp at ht
    · exact Need.mk ⟨[], _, .same, rfl, rfl⟩ trivial
theorem laws_FnExactRunOf_any (c0 : C) (h0 : Sh (.slice tyEnt) c0) : AFn Try.prog 9 [.one (.c c0)] [] (rb true) [] := by
  obtain ⟨xs, rfl, w⟩ := dec_ents h0
  exact laws_FnExactRunOf xs fun e he => (w e he).1
end Go.Proofs.Yteddoandjgjleaa

namespace Go.Proofs.Yteddoandjgjleaa
open Go Go.Proofs Ev
set_option maxRecDepth 100000
set_option maxHeartbeats 2000000
theorem laws_FnExactRunFind (r : Rn) (key : ByteArray) (seq : Int) (hr : OkE r.ents) (hk : key.size ≤ maxLen) : AFn Try.prog 10 [.agg (r.enc.map .c), av (.string key), av (.int .i64 seq)] [] (rb true) [] := by
  refine AFn.introX (E := En 0 (mdv [44, 50] [])) (en_ok 0 _) Try.func10 rfl rfl rfl fun _ _ => ?_
  have hzl : (runFind r key seq).length ≤ r.ents.length := by
    unfold runFind
    cases runOk r
    · exact Nat.zero_le _
    · exact findE_len _ _ _
  by_cases h1 : sizeE r.ents ≤ 1048576
  · have hl : r.ents.length ≤ 1048576 := small_run h1
    have hS := spec_RunFind r key seq hr hl
    have hI := impl_RunFind r key seq hr hk
    have hex : ∃ zs, runFind r key seq = zs := ⟨_, rfl⟩
    obtain ⟨zs, hz⟩ := hex
    rw [hz] at hS hI hzl
    refine Split.mk fun t ht => ?_
    cases t
    case true => exact Need.mk ⟨[], _, .same, rfl, rfl⟩ trivial
    refine ACall.mk (.one (vi ((1048576 - sizeE r.ents : Nat) : Int))) [] (by rw [← cut_pos h1]; exact laws_szRun r 1048576 hr (Nat.le_refl _)) ?_
    refine Split.mk fun t ht => ?_
    cases t
    case true => first | (simp at ht; done) | (simp at ht; omega)
    refine ACall.mk _ _ (laws_toRun r hl) ?_
    refine Fz.mk _ (frzE r.ents) ?_
    refine ACall.mk _ _ hS ?_
    refine Need.mk ⟨closed_us _ zs, no_objs⟩ ?_
    refine ACall.mk _ _ (laws_toRun r hl) ?_
    refine Fz.mk _ (frzE r.ents) ?_
    refine ACall.mk _ _ hI ?_
    refine Need.mk ⟨closed_us _ zs, no_objs⟩ ?_
    refine Fz.mk _ (frzE zs) ?_
    refine Fz.mk _ (frzE zs) ?_
    refine ACall.mk _ _ (laws_eqEntryS zs zs) ?_
    refine Need.mk ⟨closed_v, no_objs⟩ ?_
    refine Split.mk fun t h2 => ?_
    cases t
    case false => simp at h2
    refine ACall.mk _ _ (laws_toRun r hl) ?_
    refine Fz.mk _ (frzE r.ents) ?_
    refine Fz.mk _ (frzE r.ents) ?_
    refine ACall.mk _ _ (laws_eqRun r r) ?_
    refine Need.mk ⟨closed_v, no_objs⟩ ?_
    refine Split.mk fun t h3 => ?_
    refine Need.mk rfl ?_
    cases t
    case false => simp at h3
    refine ACall.mk _ _ (laws_markRun r 1 (by omega)) ?_
    refine Split.mk fun t h4 => ?_
    cases t
    case true => first | (simp at h4; done) | (simp at h4; omega)
    refine Fz.mk _ (frzE zs) ?_
    refine Fz.mk _ (frzE zs) ?_
    refine ACall.mk _ _ (laws_eqEntryS zs zs) ?_
    refine Need.mk ⟨closed_v, no_objs⟩ ?_
    refine Split.mk fun t h5 => ?_
    cases t
    case false => simp at h5
    refine ACall.mk _ _ (laws_markEntryS zs 1 (by omega)) ?_
    refine Fz.mk _ (frzE (markL 1 zs.length)) ?_
    refine ACall.mk _ _ (laws_heldEntryS 1 zs.length (by omega)) ?_
    refine Need.mk ⟨closed_v, no_objs⟩ ?_
    refine Split.mk fun t h6 => ?_
    cases t
    case true => first | (simp at h6; done) | (simp at h6; omega)
    refine Split.mk fun t h7 => ?_
    cases t
    case true => simp at h7
    refine ACall.mk _ _ (laws_toRun r hl) ?_
    refine Fz.mk _ (frzE r.ents) ?_
    refine ACall.mk _ _ hI ?_
    refine Need.mk ⟨closed_us _ zs, no_objs⟩ ?_
    refine Fz.mk _ (frzE zs) ?_
    refine Fz.mk _ (frzE zs) ?_
    refine ACall.mk _ _ (laws_eqEntryS zs zs) ?_
    refine Need.mk ⟨closed_v, no_objs⟩ ?_
    refine Split.mk fun t h8 => ?_
    cases t
    case false => simp at h8
    refine Fz.mk _ (frzE (markL 1 zs.length)) ?_
    refine ACall.mk _ _ (laws_heldEntryS 1 zs.length (by omega)) ?_
    refine Need.mk ⟨closed_v, no_objs⟩ ?_
    refine Split.mk fun t h9 => ?_
    cases t
    case true => first | (simp at h9; done) | (simp at h9; omega)
    refine Split.mk fun t h10 => ?_
    cases t
    case true => simp at h10
    exact Need.mk ⟨[], _, .same, rfl, rfl⟩ trivial
  · refine Split.mk fun t ht => ?_
    cases t
    case true => exact Need.mk ⟨[], _, .same, rfl, rfl⟩ trivial
    refine ACall.mk (.one (vi (-1))) [] (by rw [← cut_neg h1]; exact laws_szRun r 1048576 hr (Nat.le_refl _)) ?_
    refine Split.mk fun t ht => ?_
    cases t
    · simp at ht
    · exact Need.mk ⟨[], _, .same, rfl, rfl⟩ trivial
theorem laws_FnExactRunFind_any (r0 : List C) (h0 : ShL tyRn r0) (c1 : C) (h1 : Sh .str c1) (c2 : C) (h2 : Sh (.int .i64) c2) : AFn Try.prog 10 [.agg (r0.map .c), .one (.c c1), .one (.c c2)] [] (rb true) [] := by
  obtain ⟨r, rfl, wr⟩ := dec_rn h0
  obtain ⟨k, rfl, wk⟩ := h1.str'
  obtain ⟨n, rfl, wn⟩ := h2.int'
  exact laws_FnExactRunFind r k n (fun e he => (wr.1 e he).1) wk
end Go.Proofs.Yteddoandjgjleaa
