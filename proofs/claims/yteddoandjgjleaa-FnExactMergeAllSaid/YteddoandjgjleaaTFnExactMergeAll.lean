/-
  Contracts of functions, part 1.
-/
import Derived.Test.YteddoandjgjleaaEvC
import Derived.Test.YteddoandjgjleaaProg
import Derived.KernelRfl
namespace Go.Proofs.Yteddoandjgjleaa
open Go Go.Proofs Ev
def tab : List (TypeId × TI) := [
  (2, ⟨1, 8, false, .int .i64, [.int .i64 0], [none], none⟩),
  (3, ⟨1, 8, false, .int .i64, [.int .i64 0], [none], none⟩),
  (4, ⟨1, 1, false, .bool, [.bool false], [none], none⟩),
  (5, ⟨1, 1, false, .int .u8, [.int .u8 0], [none], none⟩),
  (9, ⟨1, 16, false, .str, [.string ⟨#[]⟩], [none], none⟩),
  (12, ⟨1, 8, false, .int .u64, [.int .u64 0], [none], none⟩),
  (20, ⟨1, 16, false, .other, [.nilIface], [none], none⟩),
  (21, ⟨1, 4, false, .int .i32, [.int .i32 0], [none], none⟩),
  (22, ⟨1, 24, false, .slice 82, [nilV], [some 82], none⟩),
  (23, ⟨1, 24, false, .slice 91, [nilV], [some 91], none⟩),
  (24, ⟨1, 24, false, .slice 3, [nilV], [some 3], none⟩),
  (25, ⟨4, 80, true, .struct [(0, 3), (1, 22), (2, 23), (3, 24)], [.int .i64 0, nilV, nilV, nilV], [none, some 82, some 91, some 3], none⟩),
  (26, ⟨4, 80, true, .struct [(0, 3), (1, 22), (2, 23), (3, 24)], [.int .i64 0, nilV, nilV, nilV], [none, some 82, some 91, some 3], none⟩),
  (27, ⟨1, 8, false, .other, [.nilFunc], [none], none⟩),
  (28, ⟨1, 8, false, .other, [.nilFunc], [none], none⟩),
  (29, ⟨1, 8, false, .other, [.nilFunc], [none], none⟩),
  (30, ⟨1, 8, false, .other, [.nilFunc], [none], none⟩),
  (31, ⟨4, 56, true, .struct [(0, 9), (1, 3), (2, 23), (3, 3)], [.string ⟨#[]⟩, .int .i64 0, nilV, .int .i64 0], [none, none, some 91, none], none⟩),
  (32, ⟨4, 56, true, .struct [(0, 9), (1, 3), (2, 23), (3, 3)], [.string ⟨#[]⟩, .int .i64 0, nilV, .int .i64 0], [none, none, some 91, none], none⟩),
  (33, ⟨9, 144, true, .struct [(0, 4), (1, 26), (5, 32)], [.bool false, .int .i64 0, nilV, nilV, nilV, .string ⟨#[]⟩, .int .i64 0, nilV, .int .i64 0], [none, none, some 82, some 91, some 3, none, none, some 91, none], none⟩),
  (34, ⟨9, 144, true, .struct [(0, 4), (1, 26), (5, 32)], [.bool false, .int .i64 0, nilV, nilV, nilV, .string ⟨#[]⟩, .int .i64 0, nilV, .int .i64 0], [none, none, some 82, some 91, some 3, none, none, some 91, none], none⟩),
  (35, ⟨1, 8, false, .other, [.nilFunc], [none], none⟩),
  (36, ⟨1, 8, false, .other, [.nilFunc], [none], none⟩),
  (37, ⟨1, 8, false, .other, [.nilFunc], [none], none⟩),
  (38, ⟨1, 24, false, .slice 119, [nilV], [some 119], none⟩),
  (39, ⟨1, 24, false, .slice 140, [nilV], [some 140], none⟩),
  (40, ⟨4, 80, true, .struct [(0, 3), (1, 38), (2, 39), (3, 24)], [.int .i64 0, nilV, nilV, nilV], [none, some 119, some 140, some 3], none⟩),
  (41, ⟨4, 80, true, .struct [(0, 3), (1, 38), (2, 39), (3, 24)], [.int .i64 0, nilV, nilV, nilV], [none, some 119, some 140, some 3], none⟩),
  (42, ⟨1, 8, false, .other, [.nilFunc], [none], none⟩),
  (43, ⟨1, 8, false, .other, [.nilFunc], [none], none⟩),
  (44, ⟨1, 8, false, .other, [.nilFunc], [none], none⟩),
  (45, ⟨4, 56, true, .struct [(0, 9), (1, 3), (2, 39), (3, 3)], [.string ⟨#[]⟩, .int .i64 0, nilV, .int .i64 0], [none, none, some 140, none], none⟩),
  (46, ⟨4, 56, true, .struct [(0, 9), (1, 3), (2, 39), (3, 3)], [.string ⟨#[]⟩, .int .i64 0, nilV, .int .i64 0], [none, none, some 140, none], none⟩),
  (47, ⟨9, 144, true, .struct [(0, 4), (1, 41), (5, 46)], [.bool false, .int .i64 0, nilV, nilV, nilV, .string ⟨#[]⟩, .int .i64 0, nilV, .int .i64 0], [none, none, some 119, some 140, some 3, none, none, some 140, none], none⟩),
  (48, ⟨9, 144, true, .struct [(0, 4), (1, 41), (5, 46)], [.bool false, .int .i64 0, nilV, nilV, nilV, .string ⟨#[]⟩, .int .i64 0, nilV, .int .i64 0], [none, none, some 119, some 140, some 3, none, none, some 140, none], none⟩),
  (49, ⟨1, 8, false, .other, [.nilFunc], [none], none⟩),
  (50, ⟨1, 8, false, .other, [.nilFunc], [none], none⟩),
  (51, ⟨1, 8, false, .other, [.nilFunc], [none], none⟩),
  (52, ⟨2, 32, true, .struct [(0, 38), (1, 3)], [nilV, .int .i64 0], [some 119, none], none⟩),
  (53, ⟨2, 32, true, .struct [(0, 38), (1, 3)], [nilV, .int .i64 0], [some 119, none], none⟩),
  (54, ⟨1, 8, false, .other, [.nilFunc], [none], none⟩),
  (55, ⟨1, 8, false, .other, [.nilFunc], [none], none⟩),
  (56, ⟨2, 32, true, .struct [(0, 22), (1, 3)], [nilV, .int .i64 0], [some 82, none], none⟩),
  (57, ⟨2, 32, true, .struct [(0, 22), (1, 3)], [nilV, .int .i64 0], [some 82, none], none⟩),
  (58, ⟨1, 8, false, .other, [.nilFunc], [none], none⟩),
  (59, ⟨1, 8, false, .other, [.nilFunc], [none], none⟩),
  (60, ⟨1, 8, false, .other, [.nilFunc], [none], none⟩),
  (61, ⟨1, 24, false, .slice 38, [nilV], [some 38], none⟩),
  (62, ⟨1, 8, false, .other, [.nilFunc], [none], none⟩),
  (63, ⟨1, 8, false, .other, [.nilFunc], [none], none⟩),
  (64, ⟨1, 24, false, .slice 22, [nilV], [some 22], none⟩),
  (65, ⟨1, 8, false, .other, [.nilFunc], [none], none⟩),
  (66, ⟨1, 8, false, .other, [.nilFunc], [none], none⟩),
  (67, ⟨1, 8, false, .other, [.nilFunc], [none], none⟩),
  (68, ⟨1, 8, false, .other, [.nilFunc], [none], none⟩),
  (69, ⟨1, 8, false, .other, [.nilFunc], [none], none⟩),
  (70, ⟨1, 8, false, .other, [.nilFunc], [none], none⟩),
  (71, ⟨1, 8, false, .other, [.nilFunc], [none], none⟩),
  (73, ⟨1, 8, false, .other, [.nilFunc], [none], none⟩),
  (74, ⟨1, 8, false, .other, [.nilFunc], [none], none⟩),
  (75, ⟨1, 8, false, .other, [.nilFunc], [none], none⟩),
  (76, ⟨1, 8, false, .other, [.nilFunc], [none], none⟩),
  (77, ⟨1, 8, false, .other, [.nilFunc], [none], none⟩),
  (78, ⟨1, 8, false, .other, [.nilFunc], [none], none⟩),
  (79, ⟨1, 24, false, .slice 5, [nilV], [some 5], none⟩),
  (80, ⟨1, 8, false, .other, [.nilFunc], [none], none⟩),
  (81, ⟨5, 56, true, .struct [(0, 9), (1, 3), (2, 3), (3, 9), (4, 3)], [.string ⟨#[]⟩, .int .i64 0, .int .i64 0, .string ⟨#[]⟩, .int .i64 0], [none, none, none, none, none], some [.str, .int .i64, .int .i64, .str, .int .i64]⟩),
  (82, ⟨5, 56, true, .struct [(0, 9), (1, 3), (2, 3), (3, 9), (4, 3)], [.string ⟨#[]⟩, .int .i64 0, .int .i64 0, .string ⟨#[]⟩, .int .i64 0], [none, none, none, none, none], some [.str, .int .i64, .int .i64, .str, .int .i64]⟩),
  (83, ⟨1, 8, false, .other, [.nilFunc], [none], none⟩),
  (84, ⟨1, 8, false, .other, [.nilFunc], [none], none⟩),
  (85, ⟨1, 8, false, .other, [.nilFunc], [none], none⟩),
  (87, ⟨1, 8, false, .other, [.nilFunc], [none], none⟩),
  (88, ⟨1, 8, false, .other, [.nilFunc], [none], none⟩),
  (90, ⟨1, 8, false, .other, [.nilFunc], [none], none⟩),
  (91, ⟨1, 24, false, .slice 57, [nilV], [some 57], none⟩),
  (92, ⟨1, 8, false, .other, [.nilFunc], [none], none⟩),
  (93, ⟨1, 8, false, .other, [.nilFunc], [none], none⟩),
  (94, ⟨1, 8, false, .other, [.nilFunc], [none], none⟩),
  (95, ⟨1, 8, false, .other, [.nilFunc], [none], none⟩),
  (96, ⟨1, 8, false, .other, [.nilFunc], [none], none⟩),
  (97, ⟨1, 8, false, .other, [.nilFunc], [none], none⟩),
  (98, ⟨1, 8, false, .other, [.nilFunc], [none], none⟩),
  (99, ⟨1, 8, false, .other, [.nilFunc], [none], none⟩),
  (100, ⟨1, 8, false, .other, [.nilFunc], [none], none⟩),
  (101, ⟨1, 8, false, .other, [.nilFunc], [none], none⟩),
  (102, ⟨1, 8, false, .other, [.nilFunc], [none], none⟩),
  (103, ⟨1, 8, false, .other, [.nilFunc], [none], none⟩),
  (104, ⟨1, 8, false, .other, [.nilFunc], [none], none⟩),
  (105, ⟨1, 8, false, .other, [.nilFunc], [none], none⟩),
  (106, ⟨1, 8, false, .other, [.nilFunc], [none], none⟩),
  (107, ⟨1, 24, false, .slice 112, [nilV], [some 112], none⟩),
  (108, ⟨1, 24, false, .slice 112, [nilV], [some 112], none⟩),
  (109, ⟨1, 8, false, .other, [.nilFunc], [none], none⟩),
  (110, ⟨1, 8, false, .other, [.nilFunc], [none], none⟩),
  (111, ⟨2, 32, true, .struct [(0, 22), (1, 3)], [nilV, .int .i64 0], [some 82, none], none⟩),
  (112, ⟨2, 32, true, .struct [(0, 22), (1, 3)], [nilV, .int .i64 0], [some 82, none], none⟩),
  (113, ⟨1, 8, false, .other, [.nilFunc], [none], none⟩),
  (114, ⟨1, 8, false, .ptr, [.pointer none], [none], none⟩),
  (115, ⟨1, 8, false, .other, [.nilFunc], [none], none⟩),
  (116, ⟨1, 8, false, .other, [.nilFunc], [none], none⟩),
  (117, ⟨1, 8, false, .other, [.nilFunc], [none], none⟩),
  (118, ⟨1, 8, false, .other, [.nilFunc], [none], none⟩),
  (119, ⟨5, 56, true, .struct [(0, 9), (1, 3), (2, 3), (3, 9), (4, 3)], [.string ⟨#[]⟩, .int .i64 0, .int .i64 0, .string ⟨#[]⟩, .int .i64 0], [none, none, none, none, none], some [.str, .int .i64, .int .i64, .str, .int .i64]⟩),
  (120, ⟨1, 8, false, .other, [.nilFunc], [none], none⟩),
  (121, ⟨1, 8, false, .other, [.nilFunc], [none], none⟩),
  (122, ⟨1, 8, false, .other, [.nilFunc], [none], none⟩),
  (123, ⟨1, 8, false, .other, [.nilFunc], [none], none⟩),
  (124, ⟨1, 8, false, .other, [.nilFunc], [none], none⟩),
  (125, ⟨1, 8, false, .other, [.nilFunc], [none], none⟩),
  (126, ⟨1, 8, false, .other, [.nilFunc], [none], none⟩),
  (127, ⟨1, 8, false, .ptr, [.pointer none], [none], none⟩),
  (128, ⟨1, 8, false, .other, [.nilFunc], [none], none⟩),
  (129, ⟨1, 8, false, .other, [.nilFunc], [none], none⟩),
  (130, ⟨1, 8, false, .other, [.nilFunc], [none], none⟩),
  (131, ⟨1, 8, false, .other, [.nilFunc], [none], none⟩),
  (132, ⟨1, 8, false, .other, [.nilFunc], [none], none⟩),
  (133, ⟨1, 8, false, .other, [.nilFunc], [none], none⟩),
  (134, ⟨1, 8, false, .other, [.nilFunc], [none], none⟩),
  (135, ⟨1, 8, false, .other, [.nilFunc], [none], none⟩),
  (136, ⟨1, 24, false, .slice 9, [nilV], [some 9], none⟩),
  (137, ⟨1, 8, false, .other, [.nilFunc], [none], none⟩),
  (138, ⟨1, 8, false, .other, [.nilFunc], [none], none⟩),
  (139, ⟨1, 8, false, .other, [.nilFunc], [none], none⟩),
  (140, ⟨1, 24, false, .slice 53, [nilV], [some 53], none⟩),
  (141, ⟨1, 8, false, .other, [.nilFunc], [none], none⟩),
  (142, ⟨1, 8, false, .other, [.nilFunc], [none], none⟩),
  (143, ⟨1, 8, false, .other, [.nilFunc], [none], none⟩),
  (144, ⟨1, 8, false, .other, [.nilFunc], [none], none⟩),
  (145, ⟨1, 8, false, .other, [.nilFunc], [none], none⟩),
  (146, ⟨1, 8, false, .other, [.nilFunc], [none], none⟩),
  (147, ⟨1, 16, false, .other, [.nilIface], [none], none⟩),
  (148, ⟨1, 16, false, .other, [.nilIface], [none], none⟩),
  (149, ⟨1, 8, false, .other, [.nilFunc], [none], none⟩),
  (150, ⟨1, 8, false, .other, [.nilFunc], [none], none⟩),
  (151, ⟨1, 8, false, .other, [.nilFunc], [none], none⟩),
  (152, ⟨1, 8, false, .other, [.nilFunc], [none], none⟩),
  (153, ⟨1, 8, false, .other, [.nilFunc], [none], none⟩),
  (154, ⟨1, 8, false, .int .u64, [.int .u64 0], [none], none⟩),
  (155, ⟨2, 32, true, .struct [(0, 79), (1, 3)], [nilV, .int .i64 0], [some 5, none], none⟩),
  (156, ⟨2, 32, true, .struct [(0, 79), (1, 3)], [nilV, .int .i64 0], [some 5, none], none⟩),
  (157, ⟨1, 8, false, .other, [.nilFunc], [none], none⟩),
  (158, ⟨1, 8, false, .other, [.nilFunc], [none], none⟩),
  (159, ⟨1, 8, false, .other, [.nilFunc], [none], none⟩),
  (160, ⟨1, 8, false, .other, [.nilFunc], [none], none⟩),
  (161, ⟨1, 8, false, .other, [.nilFunc], [none], none⟩),
  (162, ⟨1, 8, false, .other, [.nilFunc], [none], none⟩),
  (163, ⟨1, 8, false, .other, [.nilFunc], [none], none⟩),
  (164, ⟨1, 8, false, .other, [.nilFunc], [none], none⟩),
  (165, ⟨4, 40, true, .struct [(0, 17), (1, 17), (2, 17), (3, 9)], [.pointer none, .pointer none, .pointer none, .string ⟨#[]⟩], [none, none, none, none], none⟩),
  (166, ⟨4, 40, true, .struct [(0, 17), (1, 17), (2, 17), (3, 9)], [.pointer none, .pointer none, .pointer none, .string ⟨#[]⟩], [none, none, none, none], none⟩),
  (170, ⟨1, 4, false, .int .u32, [.int .u32 0], [none], none⟩),
  (171, ⟨1, 1, false, .int .u8, [.int .u8 0], [none], none⟩),
  (172, ⟨1, 1, false, .int .u8, [.int .u8 0], [none], none⟩),
  (173, ⟨1, 8, false, .other, [.nilFunc], [none], none⟩),
  (174, ⟨1, 8, false, .ptr, [.pointer none], [none], none⟩),
  (175, ⟨1, 4, false, .int .i32, [.int .i32 0], [none], none⟩),
  (176, ⟨1, 4, false, .int .i32, [.int .i32 0], [none], none⟩),
  (177, ⟨11, 48, true, .struct [(0, 12), (1, 12), (2, 170), (3, 171), (4, 5), (5, 5), (6, 172), (7, 173), (8, 174), (9, 175), (10, 176)], [.int .u64 0, .int .u64 0, .int .u32 0, .int .u8 0, .int .u8 0, .int .u8 0, .int .u8 0, .nilFunc, .pointer none, .int .i32 0, .int .i32 0], [none, none, none, none, none, none, none, none, none, none, none], none⟩),
  (178, ⟨11, 48, true, .struct [(0, 12), (1, 12), (2, 170), (3, 171), (4, 5), (5, 5), (6, 172), (7, 173), (8, 174), (9, 175), (10, 176)], [.int .u64 0, .int .u64 0, .int .u32 0, .int .u8 0, .int .u8 0, .int .u8 0, .int .u8 0, .nilFunc, .pointer none, .int .i32 0, .int .i32 0], [none, none, none, none, none, none, none, none, none, none, none], none⟩),
  (179, ⟨1, 8, false, .other, [.nilFunc], [none], none⟩),
  (180, ⟨1, 8, false, .other, [.nilFunc], [none], none⟩),
  (181, ⟨1, 8, false, .other, [.pointer none], [none], none⟩),
  (182, ⟨1, 8, false, .int .u64, [.int .u64 0], [none], none⟩)]
set_option maxRecDepth 100000
theorem tab_ok : tabB Try.prog tab = true := by kernel_rfl
theorem mixed : Try.prog.follows .mixedOrders = true := by kernel_rfl
def mtab : List (TypeId × String × MI) := [(114, "Len", .load 161 108), (114, "Less", .load 162 108), (114, "Pop", .val 164), (114, "Push", .val 167), (114, "Swap", .load 163 108)]
theorem mtab_ok : mtB Try.prog mtab = true := by kernel_rfl
noncomputable def En (m : Nat) (md : FuncId → Nat) (cb : List Nat := []) (vw : List Nat := []) (fz : List Nat := []) (fb : List Nat := []) : Env := ⟨Try.prog, findT tab, md, m, cb, mtab, vw, fz, fb⟩
theorem en_ok (m : Nat) (md : FuncId → Nat) (cb : List Nat := []) (vw : List Nat := []) (fz : List Nat := []) (fb : List Nat := []) : EOk (En m md cb vw fz fb) := eok_of tab_ok mtab_ok mixed
def md0 : FuncId → Nat := fun _ => 0
def md1 (l : List FuncId) : FuncId → Nat := fun f => bif l.elem f then 1 else 0
end Go.Proofs.Yteddoandjgjleaa

namespace Go.Proofs.Yteddoandjgjleaa
open Go Go.Proofs Ev
set_option maxRecDepth 100000
def CmpOk (f : FuncId) (lt : Ent → Ent → Bool) : Prop := ∃ ord : Ent → Ent → Int, (∀ x y, decide (ord x y < 0) = lt x y) ∧ ∀ x y, AFn Try.prog f [.agg (x.enc.map .c), .agg (y.enc.map .c)] [] (.one (vi (ord x y))) []
theorem slices_insertionSort (f : FuncId) (lt : Ent → Ent → Bool) (hf : CmpOk f lt) (xs : List Ent) (a b : Nat) (hab : a ≤ b) (hb : b ≤ xs.length) (hx : xs.length ≤ 1099511627776) :
    AFn Try.prog 136 [.one (.ref 0 0 (.cell 0)), av (.int .i64 a), av (.int .i64 b), av (.func (.func f) #[] #[])] [[.us 82 (xs.map Ent.enc)]] (.tup []) [[.us 82 ((sortRange lt xs a b).map Ent.enc)]] := by
  obtain ⟨ord, hord, hfn⟩ := hf
  refine AFn.introX (E := En 1 md0) (en_ok 1 _) Try.func136 rfl rfl rfl fun _ hs => ?_
  let S : List Ent → Nat → Option AV → St := fun ys i j => ⟨some (.one (.ref 0 0 (.cell 0))) :: some (av (.int .i64 a)) :: some (av (.int .i64 b)) :: some (av (.func (.func f) #[] #[])) :: none :: none :: none :: none :: some (av (.int .i64 i)) :: j :: List.replicate 43 none, ⟨0, 1, some [.us 82 (ys.map Ent.enc)]⟩ :: List.replicate 53 absent⟩
  refine Num.mk _ (wrapS (by omega)) ?_
  refine ALoop.mk (fun n s => ∃ i : Nat, n = b - i ∧ a < i ∧ (i ≤ b ∨ i = a + 1) ∧ s = S (sortRange lt xs a (min i b)) i none)
    ⟨b - (a + 1), _, Weak.nrm [true, true, true, true, false, false, false, false, true] [(0, 0)] rfl rfl rfl, a + 1, rfl, by omega, .inr rfl, ?_⟩ ?_
  · have : sortRange lt xs a (min (a + 1) b) = xs := by
      by_cases h : a < b
      · rw [Nat.min_eq_left (by omega), sortRange_one lt (by omega)]
      · rw [Nat.min_eq_right (by omega), show b = a by omega, sortRange_self]
    rw [this]; rfl
  rintro n s ⟨i, rfl, hai, hib, hs⟩
  by_cases hi : b ≤ i
  · rw [Nat.min_eq_right hi] at hs
    subst hs
    refine Split.mk fun t ht => ?_
    cases t
    · exact Need.mk ⟨[], _, .same, rfl, rfl⟩ trivial
    · simp at ht; omega
  · have hix : i < xs.length := by omega
    rw [Nat.min_eq_left (by omega), sortRange_split lt hix] at hs
    have hex : ∃ acc, isort lt ((xs.drop a).take (i - a)) = acc := ⟨_, rfl⟩
    obtain ⟨acc, hacc⟩ := hex
    rw [hacc] at hs
    subst hs
    have hal : acc.length = i - a := by rw [← hacc, isort_len, List.length_take, List.length_drop]; omega
    have hpl : (xs.take a).length = a := by rw [List.length_take]; omega
    refine Split.mk fun t ht => ?_
    cases t
    · simp at ht; omega
    refine ALoop.mk (fun n s => ∃ (u v : List Ent), n = u.length ∧ u.length + v.length = i - a ∧ ins lt u xs[i] ++ v = ins lt acc xs[i] ∧ s = S (xs.take a ++ u ++ xs[i] :: (v ++ xs.drop (i + 1))) i (some (av (.int .i64 ((a + u.length : Nat) : Int)))))
      ⟨acc.length, _, Weak.nrm [true, true, true, true, false, false, false, false, true, true] [(0, 0)] rfl rfl rfl, acc, [], rfl, by simp [hal], by simp, ?_⟩ ?_
    · rw [show a + acc.length = i by omega]; rfl
    rintro n s ⟨u, v, rfl, hl, hins, hs⟩
    have stop : ins lt u xs[i] = u ++ [xs[i]] → xs.take a ++ u ++ xs[i] :: (v ++ xs.drop (i + 1)) = sortRange lt xs a (min (i + 1) b) := fun h => by
      rw [Nat.min_eq_left (by omega), sortRange_succ lt (by omega) hix, hacc, ← hins, h]; simp
    by_cases hu : u = []
    · rw [stop (by rw [hu]; rfl), hu] at hs
      clear stop hins hl hacc hal hpl
      subst hs
      refine Split.mk fun t ht2 => ?_
      cases t
      · refine Need.mk rfl ?_
        refine Num.mk _ (wrapS (by omega)) ?_
        exact ⟨b - (i + 1), _, by omega, Weak.nrm [true, true, true, true, false, false, false, false, true] [(0, 0)] rfl rfl rfl, i + 1, rfl, by omega, .inl (by omega), rfl⟩
      · simp at ht2
    · have hsn := snoc_of (List.length_pos_iff.2 hu)
      obtain ⟨u', x, hu⟩ := hsn
      subst hu
      have hul : (u' ++ [x]).length = u'.length + 1 := by simp
      by_cases hlt : lt xs[i] x = false
      · skip
        have g1 : ((sortRange lt xs a (min (i + 1) b)).map Ent.enc)[a + (u' ++ [x]).length]? = some xs[i].enc := by
          rw [← stop (ins_stop lt _ _ _ hlt), List.getElem?_map, get_mid (by rw [hpl])]; rfl
        have g2 : ((sortRange lt xs a (min (i + 1) b)).map Ent.enc)[a + u'.length]? = some x.enc := by
          rw [← stop (ins_stop lt _ _ _ hlt), show xs.take a ++ (u' ++ [x]) ++ xs[i] :: (v ++ xs.drop (i + 1)) = xs.take a ++ u' ++ x :: (xs[i] :: (v ++ xs.drop (i + 1))) by simp, List.getElem?_map, get_mid (by rw [hpl])]; rfl
        rw [stop (ins_stop lt _ _ _ hlt)] at hs
        have hlen : ((sortRange lt xs a (min (i + 1) b)).map Ent.enc).length = xs.length := by rw [List.length_map, sortRange_len lt (by omega) (by omega)]
        clear stop hins hacc
        subst hs
        refine Split.mk fun t ht2 => ?_
        cases t
        · simp at ht2; omega
        refine Need.mk ⟨by omega, by rw [hlen]; omega⟩ ?_
        refine Row.mk _ g1 ?_
        refine Num.mk ((a + u'.length : Nat) : Int) (by rw [IntKind.wrap_i64]; omega) ?_
        refine Need.mk ⟨by omega, by rw [hlen]; omega⟩ ?_
        refine Row.mk _ g2 ?_
        refine ACall.mk _ _ (hfn xs[i] x) ?_
        refine Split.mk fun t ht3 => ?_
        rw [hord, hlt] at ht3
        subst ht3
        refine Need.mk rfl ?_
        refine Num.mk _ (wrapS (by omega)) ?_
        exact ⟨b - (i + 1), _, by omega, Weak.nrm [true, true, true, true, false, false, false, false, true] [(0, 0)] rfl rfl rfl, i + 1, rfl, by omega, .inl (by omega), rfl⟩
      · have hlt : lt xs[i] x = true := by simpa using hlt
        clear stop
        have hins' : ins lt u' xs[i] ++ (x :: v) = ins lt acc xs[i] := by rw [← hins, ins_step lt _ _ _ hlt]; simp
        clear hins hacc
        have hex : ∃ ys, xs.take a ++ (u' ++ [x]) ++ xs[i] :: (v ++ xs.drop (i + 1)) = ys := ⟨_, rfl⟩
        obtain ⟨ys, hys⟩ := hex
        rw [hys] at hs
        have e1 : xs.take a ++ u' ++ x :: (xs[i] :: (v ++ xs.drop (i + 1))) = ys := by rw [← hys]; simp
        have g1 : (ys.map Ent.enc)[a + (u' ++ [x]).length]? = some xs[i].enc := by
          rw [← hys, List.getElem?_map, get_mid (by rw [hpl])]; rfl
        have g2 : (ys.map Ent.enc)[a + u'.length]? = some x.enc := by
          rw [← e1, List.getElem?_map, get_mid (by rw [hpl])]; rfl
        have hlen : (ys.map Ent.enc).length = xs.length := by rw [← hys]; simp at hl ⊢; omega
        have e2 : ((ys.map Ent.enc).set (a + (u' ++ [x]).length) x.enc).set (a + u'.length) xs[i].enc = (xs.take a ++ u' ++ xs[i] :: (x :: v ++ xs.drop (i + 1))).map Ent.enc := by
          rw [← List.map_set, ← List.map_set, ← hys, set_mid (by rw [hpl]), show xs.take a ++ (u' ++ [x]) ++ x :: (v ++ xs.drop (i + 1)) = xs.take a ++ u' ++ x :: (x :: (v ++ xs.drop (i + 1))) by simp, set_mid (by rw [hpl])]; rfl
        have g3 : ((ys.map Ent.enc).set (a + (u' ++ [x]).length) x.enc)[a + u'.length]? = some x.enc := by
          rw [List.getElem?_set_ne (by omega)]; exact g2
        have hlen2 : ((ys.map Ent.enc).set (a + (u' ++ [x]).length) x.enc).length = xs.length := by rw [List.length_set, hlen]
        clear hys e1
        subst hs
        refine Split.mk fun t ht2 => ?_
        cases t
        · simp at ht2; omega
        refine Need.mk ⟨by omega, by rw [hlen]; omega⟩ ?_
        refine Row.mk _ g1 ?_
        refine Num.mk ((a + u'.length : Nat) : Int) (by rw [IntKind.wrap_i64]; omega) ?_
        refine Need.mk ⟨by omega, by rw [hlen]; omega⟩ ?_
        refine Row.mk _ g2 ?_
        refine ACall.mk _ _ (hfn xs[i] x) ?_
        refine Split.mk fun t ht3 => ?_
        rw [hord, hlt] at ht3
        subst ht3
        refine Need.mk rfl ?_
        have hnum : IntKind.i64.wrap (((a + (u' ++ [x]).length : Nat) : Int) - 1) = ((a + u'.length : Nat) : Int) := by rw [IntKind.wrap_i64]; omega
        refine Num.mk _ hnum ?_
        refine Num.mk _ hnum ?_
        refine Need.mk ⟨by omega, by rw [hlen]; omega⟩ ?_
        refine Row.mk _ g2 ?_
        refine Need.mk ⟨by omega, by rw [hlen]; omega⟩ ?_
        refine Row.mk _ g1 ?_
        refine Need.mk ⟨by omega, by rw [hlen]; omega⟩ ?_
        refine Row.mk _ g1 ?_
        refine Need.mk ⟨by omega, show ((a + u'.length : Nat) : Int) < ((((ys.map Ent.enc).set (a + (u' ++ [x]).length) x.enc).length : Nat) : Int) from by rw [hlen2]; omega⟩ ?_
        refine Row.mk _ g3 ?_
        refine Need.mk rfl ?_
        refine Num.mk _ hnum ?_
        refine ⟨u'.length, _, by omega, Weak.nrm [true, true, true, true, false, false, false, false, true, true] [(0, 0)] rfl rfl rfl, u', x :: v, rfl, by simp at hl ⊢; omega, hins', ?_⟩
        refine Eq.trans (b := ⟨some (.one (.ref 0 0 (.cell 0))) :: some (av (.int .i64 a)) :: some (av (.int .i64 b)) :: some (av (.func (.func f) #[] #[])) :: none :: none :: none :: none :: some (av (.int .i64 i)) :: some (av (.int .i64 ((a + u'.length : Nat) : Int))) :: List.replicate 43 none, ⟨0, 1, some [.us 82 (((ys.map Ent.enc).set (a + (u' ++ [x]).length) x.enc).set (a + u'.length) xs[i].enc)]⟩ :: List.replicate 53 absent⟩) rfl ?_
        rw [e2]
end Go.Proofs.Yteddoandjgjleaa

namespace Go.Proofs.Yteddoandjgjleaa
open Go Go.Proofs Ev
set_option maxRecDepth 100000
theorem cmp_isNaN_S (a : ByteArray) : AFn Try.prog 138 [av (.string a)] [] (rb false) [] := by
  refine AFn.introX (E := En 0 md0) (en_ok 0 md0) Try.func138 rfl rfl rfl fun _ _ => ?_
  refine Split.mk fun t ht => ?_
  cases t
  · exact Need.mk ⟨[], _, .same, rfl, rfl⟩ trivial
  · simp at ht
theorem cmp_Compare_S (a b : ByteArray) : AFn Try.prog 127 [av (.string a), av (.string b)] [] (.one (vi (scmp a b))) [] := by
  refine AFn.introX (E := En 0 md0) (en_ok 0 md0) Try.func127 rfl rfl rfl fun _ _ => ?_
  have fin : ∀ {z : Int}, z = scmp a b → RV.one (vi z) = RV.one (vi (scmp a b)) := fun h => by rw [h]
  refine ACall.mk _ _ (cmp_isNaN_S a) ?_
  refine Split.mk fun t ht => ?_
  cases t
  case true => cases ht
  refine ACall.mk _ _ (cmp_isNaN_S b) ?_
  refine Split.mk fun t ht => ?_
  cases t
  case true => cases ht
  refine Split.mk fun t ht1 => ?_
  have ht1 : slt a b = t := ht1
  cases t
  · refine Split.mk fun t ht2 => ?_
    rw [str_gt] at ht2
    cases t
    · exact Need.mk ⟨[], _, .same, fin (by unfold scmp; simp [ht1, ht2]), rfl⟩ trivial
    · exact Need.mk ⟨[], _, .same, fin (by unfold scmp; simp [ht1, ht2]), rfl⟩ trivial
  · exact Need.mk ⟨[], _, .same, fin (by unfold scmp; simp [ht1]), rfl⟩ trivial
theorem cmp_isNaN_I (a : Int) : AFn Try.prog 139 [av (.int .i64 a)] [] (rb false) [] := by
  refine AFn.introX (E := En 0 md0) (en_ok 0 md0) Try.func139 rfl rfl rfl fun _ _ => ?_
  refine Split.mk fun t ht => ?_
  cases t
  · exact Need.mk ⟨[], _, .same, rfl, rfl⟩ trivial
  · simp at ht
theorem cmp_Compare_I (a b : Int) : AFn Try.prog 128 [av (.int .i64 a), av (.int .i64 b)] [] (.one (vi (icmp a b))) [] := by
  refine AFn.introX (E := En 0 md0) (en_ok 0 md0) Try.func128 rfl rfl rfl fun _ _ => ?_
  have fin : ∀ {z : Int}, z = icmp a b → RV.one (vi z) = RV.one (vi (icmp a b)) := fun h => by rw [h]
  refine ACall.mk _ _ (cmp_isNaN_I a) ?_
  refine Split.mk fun t ht => ?_
  cases t
  case true => cases ht
  refine ACall.mk _ _ (cmp_isNaN_I b) ?_
  refine Split.mk fun t ht => ?_
  cases t
  case true => cases ht
  refine Split.mk fun t ht1 => ?_
  have ht1 : decide (a < b) = t := ht1
  cases t
  · refine Split.mk fun t ht2 => ?_
    have ht2 : decide (b < a) = t := ht2
    cases t
    · exact Need.mk ⟨[], _, .same, fin (by simp at ht1 ht2; simp [icmp]; omega), rfl⟩ trivial
    · exact Need.mk ⟨[], _, .same, fin (by simp at ht1 ht2; simp [icmp]; omega), rfl⟩ trivial
  · exact Need.mk ⟨[], _, .same, fin (by unfold icmp; simp only [decide_eq_true_eq] at ht1; simp [ht1]), rfl⟩ trivial
theorem cmp_Or (xs : List Int) (hx : xs.length ≤ 1048576) : AFn Try.prog 126 [sl (xs.map encI)] [] (.one (vi (firstNZ xs))) [] := by
  refine AFn.introX (E := En 0 md0) (en_ok 0 md0) Try.func126 rfl rfl rfl fun _ _ => ?_
  have hn : (xs.map encI).length = xs.length := List.length_map ..
  have fin : ∀ {z : Int}, z = firstNZ xs → RV.one (vi z) = RV.one (vi (firstNZ xs)) := fun h => by rw [h]
  refine ALoop.mk (fun m s => ∃ i : Nat, i ≤ xs.length ∧ m = xs.length - i ∧ (∀ x ∈ xs.take i, x = 0) ∧
      s = ⟨some (sl (xs.map encI)) :: none :: some (av (.int .i64 0)) :: some (av (.int .i64 0)) :: none :: none :: some (sl (xs.map encI)) :: some (av (.int .i64 xs.length)) :: some (av (.int .i64 i)) :: List.replicate 9 none, List.replicate 18 absent⟩)
    ⟨xs.length, _, Weak.nrm [true, false, true, true, false, false, true, true, true] [] rfl rfl rfl, 0, Nat.zero_le _, rfl, by simp, by rw [show ((xs.length : Nat) : Int) = ((xs.map encI).length : Nat) by rw [List.length_map]]; rfl⟩ ?_
  rintro m s ⟨i, hi, rfl, hz, rfl⟩
  refine Split.mk fun t ht => ?_
  cases t
  · have hin : i = xs.length := by simp at ht; omega
    subst hin
    rw [List.take_length] at hz
    exact Need.mk ⟨[], _, .same, fin (by have := firstNZ_app (m := []) hz; simpa [firstNZ] using this.symm), rfl⟩ trivial
  · have hia : i < xs.length := by simpa using ht
    refine Need.mk (by omega) ?_
    refine Row.mk _ (map_get _ xs i hia) ?_
    refine Split.mk fun t ht2 => ?_
    have hsp : firstNZ xs = firstNZ (xs[i] :: xs.drop (i + 1)) := by
      conv => lhs; rw [← List.take_append_drop i xs, List.drop_eq_getElem_cons hia]
      exact firstNZ_app hz
    cases t
    · have h0 : xs[i] = 0 := by simpa using ht2
      refine Num.mk _ (wrapS (by omega)) ?_
      refine ⟨xs.length - (i + 1), _, by omega, Weak.nrm [true, false, true, true, false, false, true, true, true] [] rfl rfl rfl, i + 1, by omega, rfl, fun x hx => ?_, rfl⟩
      rw [List.take_succ_eq_append_getElem hia] at hx
      rcases List.mem_append.1 hx with hx | hx
      · exact hz x hx
      · rw [List.mem_singleton.1 hx]; exact h0
    · have h0 : xs[i] ≠ 0 := by simpa using ht2
      exact Need.mk ⟨[], _, .same, fin (by rw [hsp]; simp only [firstNZ]; rw [if_neg h0]), rfl⟩ trivial
theorem impl_entryOrder (a b : Ent) : AFn Try.prog 91 [.agg (a.enc.map .c), .agg (b.enc.map .c)] [] (.one (vi (eord a b))) [] := by
  refine AFn.introX (E := En 0 md0) (en_ok 0 md0) Try.func91 rfl rfl rfl fun _ _ => ?_
  refine ACall.mk _ _ (cmp_Compare_S a.key b.key) ?_
  refine ACall.mk _ _ (cmp_Compare_I b.seq a.seq) ?_
  refine Fz.mk _ (frzI [scmp a.key b.key, icmp b.seq a.seq]) ?_
  refine ACall.mk _ _ (cmp_Or [scmp a.key b.key, icmp b.seq a.seq] (by simp)) ?_
  refine Need.mk ⟨closed_v, no_objs⟩ ?_
  refine Need.mk rfl ?_
  exact Need.mk ⟨[], _, .same, rfl, rfl⟩ trivial
theorem entryOrder_ok : CmpOk 91 eLess := ⟨eord, eord_lt, impl_entryOrder⟩
end Go.Proofs.Yteddoandjgjleaa

namespace Go.Proofs.Yteddoandjgjleaa
open Go Go.Proofs Ev
set_option maxRecDepth 100000
set_option maxHeartbeats 4000000
theorem heads_Len (hs : List Hd1) : AFn Try.prog 161 [sl (hs.map encH)] [] (.one (vi (hs.length : Nat))) [] := by
  refine AFn.introX (E := En 0 md0) (en_ok 0 md0) Try.func161 rfl rfl rfl fun _ _ => ?_
  refine Need.mk ⟨[], _, .same, ?_, rfl⟩ trivial
  exact congrArg (fun n : Nat => RV.one (vi (n : Int))) (List.length_map encH : (hs.map encH).length = hs.length)
theorem heads_Less (hs : List Hd1) (i j : Nat) (a b : Hd1) (hA : hs[i]? = some a) (hB : hs[j]? = some b) (ha : a.1 ≠ []) (hb : b.1 ≠ []) :
    AFn Try.prog 162 [sl (hs.map encH), av (.int .i64 i), av (.int .i64 j)] [] (rb (hl a b)) [] := by
  refine AFn.introX (E := En 0 md0) (en_ok 0 md0) Try.func162 rfl rfl rfl fun _ _ => ?_
  have r1 : (hs.map encH)[i]? = some (encH a) := by rw [List.getElem?_map, hA]; rfl
  have r2 : (hs.map encH)[j]? = some (encH b) := by rw [List.getElem?_map, hB]; rfl
  have r3 := hdE_get ha
  have r4 := hdE_get hb
  have hq := hl_eq a b
  have hO := impl_entryOrder (hdE a) (hdE b)
  have fin : ∀ {c : Bool}, c = hl a b → rb c = rb (hl a b) := fun h => by rw [h]
  refine Need.mk (by omega) ?_
  refine Row.mk _ r1 ?_
  refine Need.mk (by omega) ?_
  refine Row.mk _ r2 ?_
  refine Need.mk rfl ?_
  refine Need.mk (by decide) ?_
  refine Row.mk _ r3 ?_
  refine Need.mk (by decide) ?_
  refine Row.mk _ r4 ?_
  refine ACall.mk _ _ hO ?_
  refine Need.mk rfl ?_
  refine Split.mk fun t ht => ?_
  cases t
  · refine Split.mk fun t ht2 => ?_
    refine Need.mk ⟨[], _, .same, fin ?_, rfl⟩ trivial
    have h0 : eord (hdE a) (hdE b) = 0 := by simpa using ht
    rw [hq, if_pos h0, ← ht2]
    exact decide_eq_decide.2 Int.ofNat_lt
  · refine Split.mk fun t ht2 => ?_
    refine Need.mk ⟨[], _, .same, fin ?_, rfl⟩ trivial
    have h0 : ¬ eord (hdE a) (hdE b) = 0 := by simpa using ht
    rw [hq, if_neg h0, ← ht2]
theorem heads_Swap (hs : List Hd1) (i j : Nat) (hi : i < hs.length) (hj : j < hs.length) :
    AFn Try.prog 163 [.one (.ref 0 0 (.cell 0)), av (.int .i64 i), av (.int .i64 j)] [[.us 112 (hs.map encH)]] (.tup []) [[.us 112 ((swapL hd0 hs i j).map encH)]] := by
  refine AFn.introX (E := En 1 md0) (en_ok 1 md0) Try.func163 rfl rfl rfl fun _ _ => ?_
  have hl : (hs.map encH).length = hs.length := List.length_map ..
  have r1 : (hs.map encH)[i]? = some (encH (hs.getD i hd0)) := by rw [List.getElem?_map, getH hi]; rfl
  have r2 : (hs.map encH)[j]? = some (encH (hs.getD j hd0)) := by rw [List.getElem?_map, getH hj]; rfl
  have hsl : (hs.set i (hs.getD j hd0)).length = hs.length := List.length_set ..
  have r3 : ((hs.map encH).set i (encH (hs.getD j hd0)))[j]? = some (encH ((hs.set i (hs.getD j hd0)).getD j hd0)) := by
    rw [← List.map_set, List.getElem?_map, getH (by rw [hsl]; exact hj)]; rfl
  have hl3 : ((hs.map encH).set i (encH (hs.getD j hd0))).length = hs.length := by rw [List.length_set, hl]
  have e2 : ((hs.map encH).set i (encH (hs.getD j hd0))).set j (encH (hs.getD i hd0)) = (swapL hd0 hs i j).map encH := by rw [← List.map_set, ← List.map_set]; rfl
  refine Need.mk ⟨by omega, by rw [hl]; omega⟩ ?_
  refine Row.mk _ r2 ?_
  refine Need.mk ⟨by omega, by rw [hl]; omega⟩ ?_
  refine Row.mk _ r1 ?_
  refine Need.mk ⟨by omega, by rw [hl]; omega⟩ ?_
  refine Row.mk _ r1 ?_
  refine Need.mk ⟨by omega, show ((j : Nat) : Int) < ((((hs.map encH).set i (encH (hs.getD j hd0))).length : Nat) : Int) from by rw [hl3]; omega⟩ ?_
  refine Row.mk _ r3 ?_
  refine Need.mk rfl ?_
  refine Need.mk ⟨[], _, .same, rfl, ?_⟩ trivial
  exact congrArg (fun R => [[C.us 112 R]]) e2
theorem heads_Pop (hs : List Hd1) (h0 : 0 < hs.length) (hx : hs.length ≤ 1099511627776) :
    AFnK Try.prog 164 [.bx 0 0] [[.us 112 (hs.map encH)]] [0] (.one .x) [[.us 112 ((hs.take (hs.length - 1)).map encH)]] := by
  refine AFnK.introX (E := En 1 md0) (en_ok 1 md0) Try.func164 rfl rfl rfl fun _ _ => ?_
  have hl : (hs.map encH).length = hs.length := List.length_map ..
  have r1 : (hs.map encH)[hs.length - 1]? = some (encH (hs.getD (hs.length - 1) hd0)) := by rw [List.getElem?_map, getH (by omega)]; rfl
  have e1 : (hs.map encH).take (((hs.length - 1 : Nat) : Int) - 0).toNat = (hs.take (hs.length - 1)).map encH := by
    rw [Int.sub_zero, Int.toNat_natCast, List.map_take]
  refine Num.mk ((hs.length - 1 : Nat) : Int) (wrapI' (by rw [hl]; omega) (by omega)) ?_
  refine Need.mk ⟨by omega, by rw [hl]; omega⟩ ?_
  refine Row.mk _ r1 ?_
  refine Num.mk ((hs.length - 1 : Nat) : Int) (wrapI' (by rw [hl]; omega) (by omega)) ?_
  refine Need.mk ⟨by omega, by omega, by rw [hl]; omega⟩ ?_
  refine Need.mk ?_ trivial
  exact congrArg (fun R => [[C.us 112 R]]) e1
theorem heap_down (hs0 : List Hd1) (i0 n : Nat) (hnl : n ≤ hs0.length) (hll : hs0.length ≤ 1099511627776) (hi0 : i0 ≤ n) (hne : ∀ k, k < n → (hs0.getD k hd0).1 ≠ []) :
    AFnK Try.prog 129 [.ifc 114 (.bx 0 0), av (.int .i64 i0), av (.int .i64 n)] [[.us 112 (hs0.map encH)]] [0] (rb (decide (i0 < downJ hl hd0 (n - i0) hs0 i0 n))) [[.us 112 ((downF hl hd0 (n - i0) hs0 i0 n).map encH)]] := by
  refine AFnK.introX (E := En 1 (md1 [163])) (en_ok 1 _) Try.func129 rfl rfl rfl fun _ _ => ?_
  have hex : ∃ R, downF hl hd0 (n - i0) hs0 i0 n = R := ⟨_, rfl⟩
  obtain ⟨R, hR0⟩ := hex
  rw [hR0]
  have hex : ∃ J, downJ hl hd0 (n - i0) hs0 i0 n = J := ⟨_, rfl⟩
  obtain ⟨J, hJ00⟩ := hex
  rw [hJ00]
  have fin : ∀ {c : Bool}, c = decide (i0 < J) → rb c = rb (decide (i0 < J)) := fun h => by rw [h]
  let S : List Hd1 → Nat → St := fun hs i => ⟨some (.ifc 114 (.bx 0 0)) :: some (av (.int .i64 i0)) :: some (av (.int .i64 n)) :: none :: none :: none :: none :: some (av (.int .i64 i)) :: List.replicate 40 none, ⟨0, 0, some [.us 112 (hs.map encH)]⟩ :: List.replicate 48 absent⟩
  refine ALoop.mk (fun m s => ∃ (f i : Nat) (hs : List Hd1), m = f ∧ n ≤ i + f ∧ i ≤ n ∧ n ≤ hs.length ∧ hs.length ≤ 1099511627776 ∧ (∀ k, k < n → (hs.getD k hd0).1 ≠ []) ∧ downF hl hd0 f hs i n = R ∧ downJ hl hd0 f hs i n = J ∧ s = S hs i)
    ⟨n - i0, _, Weak.nrm [true, true, true, false, false, false, false, true] [(0, 0)] rfl rfl rfl, n - i0, i0, hs0, rfl, by omega, hi0, hnl, hll, hne, hR0, hJ00, rfl⟩ ?_
  clear hR0 hJ00 hne hll hnl hi0
  rintro m s ⟨f, i, hs, rfl, hf, hin, hnl, hll, hne, hR, hJ0, hs0⟩
  by_cases hn1 : n ≤ 2 * i + 1
  · have hF : hs = R := by rw [← hR]; cases m with
      | zero => rfl
      | succ f => rw [downF, if_pos hn1]
    have hJ : i = J := by rw [← hJ0]; cases m with
      | zero => rfl
      | succ f => rw [downJ, if_pos hn1]
    subst hs0
    refine Num.mk ((2 * i : Nat) : Int) (wrapI' (by omega) (by omega)) ?_
    refine Num.mk ((2 * i + 1 : Nat) : Int) (wrapI' (by omega) (by omega)) ?_
    refine Split.mk fun t ht => ?_
    cases t
    case false => rw [decide_eq_false_iff_not] at ht; omega
    refine Split.mk fun t ht => ?_
    refine Need.mk ⟨[], _, .same, fin ?_, congrArg (fun x : List Hd1 => [[C.us 112 (x.map encH)]]) hF⟩ trivial
    rw [← hJ, ← ht]
    exact decide_eq_decide.2 Int.ofNat_lt
  · have hex : ∃ g, m = g + 1 := ⟨m - 1, by omega⟩
    obtain ⟨g, hg⟩ := hex
    subst hg
    rw [downF, if_neg hn1] at hR
    rw [downJ, if_neg hn1] at hJ0
    have hi : i < hs.length := by omega
    have h1 : 2 * i + 1 < hs.length := by omega
    have m1 := hne (2 * i + 1) (by omega)
    have m0 := hne i (by omega)
    by_cases hc : 2 * i + 2 < n ∧ hl (hs.getD (2 * i + 2) hd0) (hs.getD (2 * i + 1) hd0) = true
    · skip
      have hb : best hl hd0 hs i n = 2 * i + 2 := by rw [best, if_pos hc]
      rw [hb] at hR hJ0
      have h2 : 2 * i + 2 < hs.length := by omega
      have m2 := hne (2 * i + 2) (by omega)
      have hL := heads_Less hs (2 * i + 2) (2 * i + 1) _ _ (getH h2) (getH h1) m2 m1
      rw [hc.2] at hL
      have hL2 := heads_Less hs (2 * i + 2) i _ _ (getH h2) (getH hi) m2 m0
      by_cases hq : hl (hs.getD (2 * i + 2) hd0) (hs.getD i hd0) = true
      · rw [hq] at hL2
        rw [if_pos hq] at hR hJ0
        have hS := heads_Swap hs i (2 * i + 2) hi (by omega)
        have hmem : ∀ k, k < n → ((swapL hd0 hs i (2 * i + 2)).getD k hd0).1 ≠ [] := fun k hk => by
          rw [swapL_get hi (by omega)]
          split
          · exact hne i (by omega)
          · split
            · exact hne _ (by omega)
            · exact hne k hk
        subst hs0
        refine Num.mk ((2 * i : Nat) : Int) (wrapI' (by omega) (by omega)) ?_
        refine Num.mk ((2 * i + 1 : Nat) : Int) (wrapI' (by omega) (by omega)) ?_
        refine Split.mk fun t ht => ?_
        cases t
        case true => rw [decide_eq_true_iff] at ht; omega
        refine Split.mk fun t ht => ?_
        cases t
        case true => rw [decide_eq_true_iff] at ht; omega
        refine Num.mk ((2 * i + 2 : Nat) : Int) (wrapI' (by omega) (by omega)) ?_
        refine Split.mk fun t ht => ?_
        cases t
        case false => rw [decide_eq_false_iff_not] at ht; omega
        refine Fz.mk _ (frzH hs) ?_
        refine ACall.mk _ _ hL ?_
        refine Need.mk ⟨closed_v, no_objs⟩ ?_
        refine Split.mk fun t h => ?_
        cases t
        case false => cases h
        refine Fz.mk _ (frzH hs) ?_
        refine ACall.mk _ _ hL2 ?_
        refine Need.mk ⟨closed_v, no_objs⟩ ?_
        refine Split.mk fun t h => ?_
        cases t
        case false => cases h
        refine ACall.mk _ _ hS ?_
        exact ⟨g, _, by omega, Weak.nrm [true, true, true, false, false, false, false, true] [(0, 0)] rfl rfl rfl, g, 2 * i + 2, swapL hd0 hs i (2 * i + 2), rfl, by omega, by omega, by rw [swapL_len]; exact hnl, by rw [swapL_len]; exact hll, hmem, hR, hJ0, rfl⟩
      · have hq : hl (hs.getD (2 * i + 2) hd0) (hs.getD i hd0) = false := by simpa using hq
        have hF : hs = R := by rw [← hR, if_neg (by rw [hq]; simp)]
        have hJ : i = J := by rw [← hJ0, if_neg (by rw [hq]; simp)]
        rw [hq] at hL2
        subst hs0
        refine Num.mk ((2 * i : Nat) : Int) (wrapI' (by omega) (by omega)) ?_
        refine Num.mk ((2 * i + 1 : Nat) : Int) (wrapI' (by omega) (by omega)) ?_
        refine Split.mk fun t ht => ?_
        cases t
        case true => rw [decide_eq_true_iff] at ht; omega
        refine Split.mk fun t ht => ?_
        cases t
        case true => rw [decide_eq_true_iff] at ht; omega
        refine Num.mk ((2 * i + 2 : Nat) : Int) (wrapI' (by omega) (by omega)) ?_
        refine Split.mk fun t ht => ?_
        cases t
        case false => rw [decide_eq_false_iff_not] at ht; omega
        refine Fz.mk _ (frzH hs) ?_
        refine ACall.mk _ _ hL ?_
        refine Need.mk ⟨closed_v, no_objs⟩ ?_
        refine Split.mk fun t h => ?_
        cases t
        case false => cases h
        refine Fz.mk _ (frzH hs) ?_
        refine ACall.mk _ _ hL2 ?_
        refine Need.mk ⟨closed_v, no_objs⟩ ?_
        refine Split.mk fun t h => ?_
        cases t
        case true => cases h
        refine Split.mk fun t ht => ?_
        refine Need.mk ⟨[], _, .same, fin ?_, congrArg (fun x : List Hd1 => [[C.us 112 (x.map encH)]]) hF⟩ trivial
        rw [← hJ, ← ht]
        exact decide_eq_decide.2 Int.ofNat_lt
    · by_cases hc2 : 2 * i + 2 < n
      · skip
        have hb : best hl hd0 hs i n = 2 * i + 1 := by rw [best, if_neg hc]
        rw [hb] at hR hJ0
        have h2 : 2 * i + 2 < hs.length := by omega
        have m2 := hne (2 * i + 2) (by omega)
        have hL := heads_Less hs (2 * i + 2) (2 * i + 1) _ _ (getH h2) (getH h1) m2 m1
        have hlf : hl (hs.getD (2 * i + 2) hd0) (hs.getD (2 * i + 1) hd0) = false := by
          cases hx : hl (hs.getD (2 * i + 2) hd0) (hs.getD (2 * i + 1) hd0) with
          | false => rfl
          | true => exact absurd ⟨hc2, hx⟩ hc
        rw [hlf] at hL
        have hL2 := heads_Less hs (2 * i + 1) i _ _ (getH h1) (getH hi) m1 m0
        by_cases hq : hl (hs.getD (2 * i + 1) hd0) (hs.getD i hd0) = true
        · rw [hq] at hL2
          rw [if_pos hq] at hR hJ0
          have hS := heads_Swap hs i (2 * i + 1) hi (by omega)
          have hmem : ∀ k, k < n → ((swapL hd0 hs i (2 * i + 1)).getD k hd0).1 ≠ [] := fun k hk => by
            rw [swapL_get hi (by omega)]
            split
            · exact hne i (by omega)
            · split
              · exact hne _ (by omega)
              · exact hne k hk
          subst hs0
          refine Num.mk ((2 * i : Nat) : Int) (wrapI' (by omega) (by omega)) ?_
          refine Num.mk ((2 * i + 1 : Nat) : Int) (wrapI' (by omega) (by omega)) ?_
          refine Split.mk fun t ht => ?_
          cases t
          case true => rw [decide_eq_true_iff] at ht; omega
          refine Split.mk fun t ht => ?_
          cases t
          case true => rw [decide_eq_true_iff] at ht; omega
          refine Num.mk ((2 * i + 2 : Nat) : Int) (wrapI' (by omega) (by omega)) ?_
          refine Split.mk fun t ht => ?_
          cases t
          case false => rw [decide_eq_false_iff_not] at ht; omega
          refine Fz.mk _ (frzH hs) ?_
          refine ACall.mk _ _ hL ?_
          refine Need.mk ⟨closed_v, no_objs⟩ ?_
          refine Split.mk fun t h => ?_
          cases t
          case true => cases h
          refine Fz.mk _ (frzH hs) ?_
          refine ACall.mk _ _ hL2 ?_
          refine Need.mk ⟨closed_v, no_objs⟩ ?_
          refine Split.mk fun t h => ?_
          cases t
          case false => cases h
          refine ACall.mk _ _ hS ?_
          exact ⟨g, _, by omega, Weak.nrm [true, true, true, false, false, false, false, true] [(0, 0)] rfl rfl rfl, g, 2 * i + 1, swapL hd0 hs i (2 * i + 1), rfl, by omega, by omega, by rw [swapL_len]; exact hnl, by rw [swapL_len]; exact hll, hmem, hR, hJ0, rfl⟩
        · have hq : hl (hs.getD (2 * i + 1) hd0) (hs.getD i hd0) = false := by simpa using hq
          have hF : hs = R := by rw [← hR, if_neg (by rw [hq]; simp)]
          have hJ : i = J := by rw [← hJ0, if_neg (by rw [hq]; simp)]
          rw [hq] at hL2
          subst hs0
          refine Num.mk ((2 * i : Nat) : Int) (wrapI' (by omega) (by omega)) ?_
          refine Num.mk ((2 * i + 1 : Nat) : Int) (wrapI' (by omega) (by omega)) ?_
          refine Split.mk fun t ht => ?_
          cases t
          case true => rw [decide_eq_true_iff] at ht; omega
          refine Split.mk fun t ht => ?_
          cases t
          case true => rw [decide_eq_true_iff] at ht; omega
          refine Num.mk ((2 * i + 2 : Nat) : Int) (wrapI' (by omega) (by omega)) ?_
          refine Split.mk fun t ht => ?_
          cases t
          case false => rw [decide_eq_false_iff_not] at ht; omega
          refine Fz.mk _ (frzH hs) ?_
          refine ACall.mk _ _ hL ?_
          refine Need.mk ⟨closed_v, no_objs⟩ ?_
          refine Split.mk fun t h => ?_
          cases t
          case true => cases h
          refine Fz.mk _ (frzH hs) ?_
          refine ACall.mk _ _ hL2 ?_
          refine Need.mk ⟨closed_v, no_objs⟩ ?_
          refine Split.mk fun t h => ?_
          cases t
          case true => cases h
          refine Split.mk fun t ht => ?_
          refine Need.mk ⟨[], _, .same, fin ?_, congrArg (fun x : List Hd1 => [[C.us 112 (x.map encH)]]) hF⟩ trivial
          rw [← hJ, ← ht]
          exact decide_eq_decide.2 Int.ofNat_lt
      · skip
        have hb : best hl hd0 hs i n = 2 * i + 1 := by rw [best, if_neg hc]
        rw [hb] at hR hJ0
        have hL2 := heads_Less hs (2 * i + 1) i _ _ (getH h1) (getH hi) m1 m0
        by_cases hq : hl (hs.getD (2 * i + 1) hd0) (hs.getD i hd0) = true
        · rw [hq] at hL2
          rw [if_pos hq] at hR hJ0
          have hS := heads_Swap hs i (2 * i + 1) hi (by omega)
          have hmem : ∀ k, k < n → ((swapL hd0 hs i (2 * i + 1)).getD k hd0).1 ≠ [] := fun k hk => by
            rw [swapL_get hi (by omega)]
            split
            · exact hne i (by omega)
            · split
              · exact hne _ (by omega)
              · exact hne k hk
          subst hs0
          refine Num.mk ((2 * i : Nat) : Int) (wrapI' (by omega) (by omega)) ?_
          refine Num.mk ((2 * i + 1 : Nat) : Int) (wrapI' (by omega) (by omega)) ?_
          refine Split.mk fun t ht => ?_
          cases t
          case true => rw [decide_eq_true_iff] at ht; omega
          refine Split.mk fun t ht => ?_
          cases t
          case true => rw [decide_eq_true_iff] at ht; omega
          refine Num.mk ((2 * i + 2 : Nat) : Int) (wrapI' (by omega) (by omega)) ?_
          refine Split.mk fun t ht => ?_
          cases t
          case true => rw [decide_eq_true_iff] at ht; omega
          refine Fz.mk _ (frzH hs) ?_
          refine ACall.mk _ _ hL2 ?_
          refine Need.mk ⟨closed_v, no_objs⟩ ?_
          refine Split.mk fun t h => ?_
          cases t
          case false => cases h
          refine ACall.mk _ _ hS ?_
          exact ⟨g, _, by omega, Weak.nrm [true, true, true, false, false, false, false, true] [(0, 0)] rfl rfl rfl, g, 2 * i + 1, swapL hd0 hs i (2 * i + 1), rfl, by omega, by omega, by rw [swapL_len]; exact hnl, by rw [swapL_len]; exact hll, hmem, hR, hJ0, rfl⟩
        · have hq : hl (hs.getD (2 * i + 1) hd0) (hs.getD i hd0) = false := by simpa using hq
          have hF : hs = R := by rw [← hR, if_neg (by rw [hq]; simp)]
          have hJ : i = J := by rw [← hJ0, if_neg (by rw [hq]; simp)]
          rw [hq] at hL2
          subst hs0
          refine Num.mk ((2 * i : Nat) : Int) (wrapI' (by omega) (by omega)) ?_
          refine Num.mk ((2 * i + 1 : Nat) : Int) (wrapI' (by omega) (by omega)) ?_
          refine Split.mk fun t ht => ?_
          cases t
          case true => rw [decide_eq_true_iff] at ht; omega
          refine Split.mk fun t ht => ?_
          cases t
          case true => rw [decide_eq_true_iff] at ht; omega
          refine Num.mk ((2 * i + 2 : Nat) : Int) (wrapI' (by omega) (by omega)) ?_
          refine Split.mk fun t ht => ?_
          cases t
          case true => rw [decide_eq_true_iff] at ht; omega
          refine Fz.mk _ (frzH hs) ?_
          refine ACall.mk _ _ hL2 ?_
          refine Need.mk ⟨closed_v, no_objs⟩ ?_
          refine Split.mk fun t h => ?_
          cases t
          case true => cases h
          refine Split.mk fun t ht => ?_
          refine Need.mk ⟨[], _, .same, fin ?_, congrArg (fun x : List Hd1 => [[C.us 112 (x.map encH)]]) hF⟩ trivial
          rw [← hJ, ← ht]
          exact decide_eq_decide.2 Int.ofNat_lt
def initF (n : Nat) : Nat → List Hd1 → List Hd1
  | 0, hs => hs
  | k + 1, hs => initF n k (downF hl hd0 (n - k) hs k n)
theorem initF_ok : ∀ (k n : Nat) (hs : List Hd1), n ≤ hs.length → k ≤ n → HP hl hd0 hs n k → HP hl hd0 (initF n k hs) n 0 ∧ (initF n k hs).Perm hs := by
  intro k
  induction k with
  | zero => intro n hs _ _ h; exact ⟨h, List.Perm.refl _⟩
  | succ k ih =>
    intro n hs hn hk h
    have h1 : HP hl hd0 (downF hl hd0 (n - k) hs k n) n k := down_ok hl_wk (n - k) hs k n k hn (by omega) (Nat.le_refl _)
      (fun c h0 hc hlo hp => h c h0 hc (by omega)) (fun h0 hlo => by unfold par at hlo; omega)
    obtain ⟨q1, q2⟩ := ih n (downF hl hd0 (n - k) hs k n) (by rw [down_len]; exact hn) (by omega) h1
    exact ⟨q1, q2.trans (down_perm _ _ _ _ hn)⟩
theorem heap_Init (hs0 : List Hd1) (hll : hs0.length ≤ 1099511627776) (hne : ∀ a ∈ hs0, a.1 ≠ []) :
    AFnK Try.prog 92 [.ifc 114 (.bx 0 0)] [[.us 112 (hs0.map encH)]] [0] (.tup []) [[.us 112 ((initF hs0.length (hs0.length / 2) hs0).map encH)]] := by
  refine AFnK.introX (E := En 1 md0) (en_ok 1 _) Try.func92 rfl rfl rfl fun _ _ => ?_
  have hLen := heads_Len hs0
  have hex : ∃ R, initF hs0.length (hs0.length / 2) hs0 = R := ⟨_, rfl⟩
  obtain ⟨R, hR0⟩ := hex
  rw [hR0]
  have hex : ∃ n, hs0.length = n := ⟨_, rfl⟩
  obtain ⟨n, hn⟩ := hex
  rw [hn] at hLen hR0 hll
  let S : List Hd1 → Int → St := fun hs i => ⟨some (.ifc 114 (.bx 0 0)) :: none :: some (av (.int .i64 n)) :: some (av (.int .i64 i)) :: List.replicate 13 none, ⟨0, 0, some [.us 112 (hs.map encH)]⟩ :: List.replicate 17 absent⟩
  refine Fz.mk _ (frzH hs0) ?_
  refine ACall.mk _ _ hLen ?_
  refine Need.mk ⟨closed_v, no_objs⟩ ?_
  refine Need.mk (by decide) ?_
  refine Num.mk ((n / 2 : Nat) : Int) (wrapI' (tdivN' n 2) (by omega)) ?_
  refine Num.mk (((n / 2 : Nat) : Int) - 1) (wrapI (by omega) (by omega)) ?_
  refine ALoop.mk (fun m s => ∃ (k : Nat) (hs : List Hd1), m = k ∧ k ≤ n ∧ hs.length = n ∧ (∀ a ∈ hs, a.1 ≠ []) ∧ initF n k hs = R ∧ s = S hs ((k : Int) - 1))
    ⟨n / 2, _, Weak.nrm [true, false, true, true] [(0, 0)] rfl rfl rfl, n / 2, hs0, rfl, by omega, hn, hne, hR0, rfl⟩ ?_
  clear hR0
  rintro m s ⟨k, hs, rfl, hk, hln, hne, hR, hs0⟩
  by_cases h0 : m = 0
  · subst h0
    have hF : hs = R := hR
    rw [hF] at hs0
    subst hs0
    refine Split.mk fun t ht => ?_
    cases t
    · exact Need.mk ⟨[], _, .same, rfl, rfl⟩ trivial
    · cases ht
  · have hex : ∃ g, m = g + 1 := ⟨m - 1, by omega⟩
    obtain ⟨g, hg⟩ := hex
    subst hg
    have hii : (((g + 1 : Nat) : Int) - 1) = (g : Int) := by omega
    rw [hii] at hs0
    have hD := heap_down hs g n (by omega) (by omega) (by omega) (fun k hk => hne _ (getH_mem (by omega)))
    have hne2 : ∀ a ∈ downF hl hd0 (n - g) hs g n, a.1 ≠ [] := fun a ha => hne a ((down_perm _ _ _ _ (by omega)).mem_iff.1 ha)
    have hR2 : initF n g (downF hl hd0 (n - g) hs g n) = R := hR
    subst hs0
    refine Split.mk fun t ht => ?_
    cases t
    case false => rw [decide_eq_false_iff_not] at ht; omega
    refine ACall.mk _ _ hD ?_
    refine Split.mk fun t _ => ?_
    refine Num.mk ((g : Int) - 1) (wrapI (by omega) (by omega)) ?_
    exact ⟨g, _, by omega, Weak.nrm [true, false, true, true] [(0, 0)] rfl rfl rfl, g, downF hl hd0 (n - g) hs g n, rfl, by omega, by rw [down_len]; exact hln, hne2, hR2, rfl⟩
theorem heap_up0 (hs : List Hd1) : AFnK Try.prog 130 [.ifc 114 (.bx 0 0), av (.int .i64 0)] [[.us 112 (hs.map encH)]] [0] (.tup []) [[.us 112 (hs.map encH)]] := by
  refine AFnK.introX (E := En 1 md0) (en_ok 1 _) Try.func130 rfl rfl rfl fun _ _ => ?_
  let S : St := ⟨some (.ifc 114 (.bx 0 0)) :: some (av (.int .i64 0)) :: List.replicate 21 none, ⟨0, 0, some [.us 112 (hs.map encH)]⟩ :: List.replicate 23 absent⟩
  refine ALoop.mk (fun m s => s = S) ⟨0, _, Weak.nrm [true, true] [(0, 0)] rfl rfl rfl, rfl⟩ ?_
  rintro m s hs0
  subst hs0
  refine Num.mk (-1) (wrapI (by decide) (by decide)) ?_
  refine Need.mk (by decide) ?_
  refine Num.mk 0 (wrapI (by decide) (by decide)) ?_
  refine Split.mk fun t ht => ?_
  cases t
  · cases ht
  · exact Need.mk ⟨[], _, .same, rfl, rfl⟩ trivial
theorem heap_Fix (hs : List Hd1) (n : Nat) (hn : n = hs.length) (hll : hs.length ≤ 1099511627776) (hne : ∀ a ∈ hs, a.1 ≠ []) :
    AFnK Try.prog 94 [.ifc 114 (.bx 0 0), av (.int .i64 0)] [[.us 112 (hs.map encH)]] [0] (.tup []) [[.us 112 ((downF hl hd0 n hs 0 n).map encH)]] := by
  refine AFnK.introX (E := En 1 md0) (en_ok 1 _) Try.func94 rfl rfl rfl fun _ _ => ?_
  have hLen := heads_Len hs
  rw [← hn] at hLen
  have hD := heap_down hs 0 n (by omega) hll (by omega) (fun k hk => hne _ (getH_mem (by omega)))
  rw [Nat.sub_zero] at hD
  have hU := heap_up0 (downF hl hd0 n hs 0 n)
  refine Fz.mk _ (frzH hs) ?_
  refine ACall.mk _ _ hLen ?_
  refine Need.mk ⟨closed_v, no_objs⟩ ?_
  refine ACall.mk _ _ hD ?_
  refine Split.mk fun t _ => ?_
  cases t
  · refine ACall.mk _ _ hU ?_
    exact Need.mk ⟨[], _, .same, rfl, rfl⟩ trivial
  · exact Need.mk ⟨[], _, .same, rfl, rfl⟩ trivial
theorem heap_Pop (hs : List Hd1) (h0 : 0 < hs.length) (hll : hs.length ≤ 1099511627776) (hne : ∀ k, 0 < k → k < hs.length → (hs.getD k hd0).1 ≠ []) :
    AFnK Try.prog 93 [.ifc 114 (.bx 0 0)] [[.us 112 (hs.map encH)]] [0] (.one .x) [[.us 112 ((popF hs).map encH)]] := by
  refine AFnK.introX (E := En 1 (md1 [163])) (en_ok 1 _) Try.func93 rfl rfl rfl fun _ _ => ?_
  have hLen := heads_Len hs
  have hex : ∃ n, hs.length - 1 = n := ⟨_, rfl⟩
  obtain ⟨n, hn⟩ := hex
  have hS := heads_Swap hs 0 n h0 (by omega)
  have hD := heap_down (swapL hd0 hs 0 n) 0 n (by rw [swapL_len]; omega) (by rw [swapL_len]; exact hll) (by omega) (fun k hk => by
    rw [swapL_get (by omega) (by omega), if_neg (by omega)]
    split
    · exact hne _ (by omega) (by omega)
    · exact hne k (by omega) (by omega))
  rw [Nat.sub_zero] at hD
  have hP := heads_Pop (downF hl hd0 n (swapL hd0 hs 0 n) 0 n) (by rw [down_len, swapL_len]; exact h0) (by rw [down_len, swapL_len]; exact hll)
  rw [down_len, swapL_len, hn] at hP
  have hF : popF hs = (downF hl hd0 n (swapL hd0 hs 0 n) 0 n).take n := by rw [popF, hn]
  rw [hF]
  refine Fz.mk _ (frzH hs) ?_
  refine ACall.mk _ _ hLen ?_
  refine Need.mk ⟨closed_v, no_objs⟩ ?_
  refine Num.mk ((n : Nat) : Int) (wrapI' (by omega) (by omega)) ?_
  refine ACall.mk _ _ hS ?_
  refine ACall.mk _ _ hD ?_
  refine Split.mk fun t _ => ?_
  refine ACall.mk _ _ hP ?_
  exact Need.mk ⟨[], _, .same, rfl, rfl⟩ trivial
end Go.Proofs.Yteddoandjgjleaa

namespace Go.Proofs.Yteddoandjgjleaa
open Go Go.Proofs Ev
set_option maxRecDepth 100000
theorem laws_szEntry (e : Ent) (left : Nat) (he : e.Ok) (hl : left ≤ 1048576) : AFn Try.prog 97 [.agg (e.enc.map .c), av (.int .i64 left)] [] (.one (vi (cut e.size left))) [] := by
  refine AFn.introX (E := En 0 md0) (en_ok 0 md0) Try.func97 rfl rfl rfl fun _ _ => ?_
  obtain ⟨h1, h2⟩ := he
  have he : e.size = e.key.size + e.text.size := rfl
  unfold maxLen at h1 h2
  have fin : ∀ {z : Int}, z = cut e.size left → RV.one (vi z) = RV.one (vi (cut e.size left)) := fun h => by rw [h]
  refine Num.mk ((left : Int) - e.key.size) (by rw [IntKind.wrap_i64]; omega) ?_
  refine Split.mk fun t ht => ?_
  cases t
  · have h3 : e.key.size ≤ left := by simp at ht; omega
    refine Num.mk ((left : Int) - e.key.size - e.text.size) (by rw [IntKind.wrap_i64]; omega) ?_
    refine Split.mk fun t ht => ?_
    cases t
    · have h4 : e.size ≤ left := by simp at ht; omega
      exact Need.mk ⟨[], _, .same, fin (by rw [cut_pos h4]; omega), rfl⟩ trivial
    · have h4 : ¬ e.size ≤ left := by simp at ht; omega
      exact Need.mk ⟨[], _, .same, fin (by rw [cut_neg h4]), rfl⟩ trivial
  · have h4 : ¬ e.size ≤ left := by simp at ht; omega
    exact Need.mk ⟨[], _, .same, fin (by rw [cut_neg h4]), rfl⟩ trivial
theorem laws_szEntryS (xs : List Ent) (left : Nat) (he : OkE xs) (hl : left ≤ 1048576) : AFn Try.prog 46 [sl (xs.map Ent.enc), av (.int .i64 left)] [] (.one (vi (cut (sizeE xs) left))) [] := by
  refine AFn.introX (E := En 0 md0) (en_ok 0 md0) Try.func46 rfl rfl rfl fun hs _ => ?_
  have hn : (xs.map Ent.enc).length = xs.length := List.length_map ..
  have hx := Small.len (hs _ (List.mem_cons_self ..))
  rw [hn] at hx
  have hz : sizeE xs = xs.length + (xs.map Ent.size).sum := rfl
  have fin : ∀ {z : Int}, z = cut (sizeE xs) left → RV.one (vi z) = RV.one (vi (cut (sizeE xs) left)) := fun h => by rw [h]
  refine Num.mk ((left : Int) - xs.length) (by rw [hn, IntKind.wrap_i64]; omega) ?_
  refine Split.mk fun t ht => ?_
  cases t
  · have h3 : xs.length ≤ left := by simp at ht; omega
    refine ALoop.mk (fun m s => ∃ (i r : Nat), i ≤ xs.length ∧ m = xs.length - i ∧ xs.length + ((xs.take i).map Ent.size).sum + r = left ∧
        s = ⟨some (sl (xs.map Ent.enc)) :: some (av (.int .i64 r)) :: none :: none :: none :: some (av (.int .i64 i)) :: List.replicate 21 none, List.replicate 27 absent⟩)
      ⟨xs.length, _, Weak.nrm [true, true, false, false, false, true] [] rfl rfl rfl, 0, left - xs.length, Nat.zero_le _, rfl, by simp; omega, ?_⟩ ?_
    · rw [show ((left - xs.length : Nat) : Int) = (left : Int) - xs.length by omega]; rfl
    rintro m s ⟨i, r, hi, rfl, hr, rfl⟩
    refine Split.mk fun t ht => ?_
    rw [hn] at ht
    cases t
    · have hin : i = xs.length := by simp at ht; omega
      subst hin
      rw [List.take_length] at hr
      exact Need.mk ⟨[], _, .same, fin (by rw [cut_pos (by omega)]; omega), rfl⟩ trivial
    · have hia : i < xs.length := by simpa using ht
      have hsum := sum_take Ent.size xs hia
      have hle := sum_take_le Ent.size xs (i + 1)
      refine Need.mk (by omega) ?_
      refine Row.mk _ (map_get _ xs i hia) ?_
      refine ACall.mk _ _ (laws_szEntry xs[i] r (he _ (List.getElem_mem _)) (by omega)) ?_
      refine Split.mk fun t ht => ?_
      rw [cut_lt] at ht
      cases t
      · have h4 : xs[i].size ≤ r := by simpa using ht
        refine Num.mk _ (wrapS (by omega)) ?_
        refine ⟨xs.length - (i + 1), _, by omega, Weak.nrm [true, true, false, false, false, true] [] rfl rfl rfl, i + 1, r - xs[i].size, by omega, rfl, by omega, ?_⟩
        rw [← cut_pos h4]; rfl
      · have h4 : ¬ xs[i].size ≤ r := by simpa using ht
        exact Need.mk ⟨[], _, .same, fin (by rw [cut_neg (by omega)]), rfl⟩ trivial
  · have h4 : ¬ sizeE xs ≤ left := by simp at ht; omega
    exact Need.mk ⟨[], _, .same, fin (by rw [cut_neg h4]), rfl⟩ trivial
end Go.Proofs.Yteddoandjgjleaa

namespace Go.Proofs.Yteddoandjgjleaa
open Go Go.Proofs Ev
set_option maxRecDepth 100000
theorem laws_toEntry (e : Ent) : AFn Try.prog 101 [.agg (e.enc.map .c)] [] (.agg e.enc) [] := by
  refine AFn.introX (E := En 0 md0) (en_ok 0 md0) Try.func101 rfl rfl rfl fun _ _ => ?_
  exact Need.mk ⟨[], _, .same, rfl, rfl⟩ trivial
theorem laws_toEntryS (xs : List Ent) (hx : xs.length ≤ 1048576) : AFn Try.prog 48 [sl (xs.map Ent.enc)] [] (.one (.us 82 (xs.map Ent.enc))) [] := by
  refine AFn.introX (E := En 0 md0) (en_ok 0 md0) Try.func48 rfl rfl rfl fun _ _ => ?_
  have hn : (xs.map Ent.enc).length = xs.length := List.length_map ..
  refine Need.mk ⟨by omega, by omega, by simp only [hn]; omega, by omega⟩ ?_
  let S : List (List C) → Nat → St := fun rows i => ⟨some (sl (xs.map Ent.enc)) :: none :: none :: some (.one (.ref 3 0 (.cell 0))) :: some (av (.int .i64 i)) :: List.replicate 18 none, absent :: absent :: absent :: ⟨0, 1, some [.us 82 rows]⟩ :: List.replicate 19 absent⟩
  refine ALoop.mk (fun m s => ∃ i : Nat, i ≤ xs.length ∧ m = xs.length - i ∧ s = S ((xs.take i ++ List.replicate (xs.length - i) ent0).map Ent.enc) i)
    ⟨xs.length, _, Weak.nrm [true, false, false, true, true] [(7, 3)] rfl rfl rfl, 0, Nat.zero_le _, rfl, ?_⟩ ?_
  · refine Eq.trans (b := S (List.replicate (xs.map Ent.enc).length (Ent.enc ent0)) 0) rfl ?_
    rw [hn, List.take_zero, List.nil_append, List.map_replicate, Nat.sub_zero]
  rintro m s ⟨i, hi, rfl, rfl⟩
  refine Split.mk fun t ht => ?_
  rw [hn] at ht
  cases t
  · have hin : i = xs.length := by simp at ht; omega
    subst hin
    refine Need.mk ⟨[], _, .same, ?_, rfl⟩ trivial
    rw [List.take_length, Nat.sub_self, List.replicate_zero, List.append_nil]; rfl
  · have hia : i < xs.length := by simpa using ht
    refine Need.mk (by omega) ?_
    refine Row.mk _ (map_get _ xs i hia) ?_
    refine ACall.mk _ _ (laws_toEntry xs[i]) ?_
    refine Need.mk ⟨by omega, by rw [List.length_map, to_len _ _ hi]; omega⟩ ?_
    refine Row.mk _ (to_get _ xs ent0 hia) ?_
    refine Num.mk _ (wrapS (by omega)) ?_
    refine ⟨xs.length - (i + 1), _, by omega, Weak.nrm [true, false, false, true, true] [(3, 3)] rfl rfl rfl, i + 1, by omega, rfl, ?_⟩
    refine Eq.trans (b := S (((xs.take i ++ List.replicate (xs.length - i) ent0).map Ent.enc).set i (Ent.enc xs[i])) (i + 1)) rfl ?_
    rw [← List.map_set, to_step xs ent0 hia]
end Go.Proofs.Yteddoandjgjleaa

namespace Go.Proofs.Yteddoandjgjleaa
open Go Go.Proofs Ev
set_option maxRecDepth 100000
theorem laws_eqEntry (a b : Ent) : AFn Try.prog 95 [.agg (a.enc.map .c), .agg (b.enc.map .c)] [] (rb (decide (a = b))) [] := by
  refine AFn.introX (E := En 0 md0) (en_ok 0 md0) Try.func95 rfl rfl rfl fun _ _ => ?_
  have fin : ∀ {c : Bool}, c = decide (a = b) → rb c = rb (decide (a = b)) := fun h => by rw [h]
  refine Split.mk fun t ht => ?_
  rw [bytes_beq] at ht
  cases t
  · refine Split.mk fun t ht1 => ?_
    cases t
    · refine Split.mk fun t ht2 => ?_
      cases t
      · refine Split.mk fun t ht3 => ?_
        rw [bytes_beq] at ht3
        cases t
        · refine Split.mk fun t ht4 => ?_
          cases t
          · exact Need.mk ⟨[], _, .same, fin (by cases a; cases b; simp_all), rfl⟩ trivial
          · exact Need.mk ⟨[], _, .same, fin (by cases a; cases b; simp_all), rfl⟩ trivial
        · exact Need.mk ⟨[], _, .same, fin (by cases a; cases b; simp_all), rfl⟩ trivial
      · exact Need.mk ⟨[], _, .same, fin (by cases a; cases b; simp_all), rfl⟩ trivial
    · exact Need.mk ⟨[], _, .same, fin (by cases a; cases b; simp_all), rfl⟩ trivial
  · exact Need.mk ⟨[], _, .same, fin (by cases a; cases b; simp_all), rfl⟩ trivial
end Go.Proofs.Yteddoandjgjleaa

namespace Go.Proofs.Yteddoandjgjleaa
open Go Go.Proofs Ev
set_option maxRecDepth 100000
theorem laws_eqEntryS (a b : List Ent) : AFn Try.prog 41 [sl (a.map Ent.enc), sl (b.map Ent.enc)] [] (rb (decide (a = b))) [] := by
  refine AFn.introX (E := En 0 md0) (en_ok 0 md0) Try.func41 rfl rfl rfl fun hs _ => ?_
  have ha := Small.len (hs _ (List.mem_cons_self ..))
  rw [List.length_map] at ha
  have fin : ∀ {c : Bool}, c = decide (a = b) → rb c = rb (decide (a = b)) := fun h => by rw [h]
  refine Split.mk fun t ht => ?_
  cases t
  · have hl : a.length = b.length := Int.ofNat_inj.1 (by simpa using ht)
    refine ALoop.mk (fun n s => ∃ i : Nat, i ≤ a.length ∧ n = a.length - i ∧ a.take i = b.take i ∧
      s = ⟨some (sl (a.map Ent.enc)) :: some (sl (b.map Ent.enc)) :: none :: none :: some (av (.bool false)) :: some (av (.int .i64 i)) :: List.replicate 21 none, List.replicate 27 absent⟩)
      ⟨a.length, _, Weak.nrm [true, true, false, false, true, true] [] rfl rfl rfl, 0, Nat.zero_le _, rfl, rfl, rfl⟩ ?_
    rintro n s ⟨i, hi, rfl, hp, rfl⟩
    refine Split.mk fun t ht => ?_
    cases t
    · have hia : i = a.length := by simp at ht; omega
      refine Need.mk ⟨[], _, .same, fin ?_, rfl⟩ trivial
      subst hia
      rw [List.take_length, hl, List.take_length] at hp
      simp [hp]
    · have hia : i < a.length := by simpa using ht
      refine Need.mk (by omega) ?_
      refine Row.mk _ (map_get _ a i hia) ?_
      refine Need.mk (by omega) ?_
      refine Row.mk _ (map_get _ b i (by omega)) ?_
      refine ACall.mk _ _ (laws_eqEntry a[i] (b[i]'(by omega))) ?_
      refine Split.mk fun t ht2 => ?_
      cases t
      · refine Need.mk rfl ?_
        refine Need.mk ⟨[], _, .same, fin ?_, rfl⟩ trivial
        have : a[i] ≠ b[i]'(by omega) := by simpa using ht2
        refine (decide_eq_false fun e => this ?_).symm
        subst e; rfl
      · refine Need.mk rfl ?_
        refine Num.mk _ (wrapS (by omega)) ?_
        refine ⟨a.length - (i + 1), _, by omega, Weak.nrm [true, true, false, false, true, true] [] rfl rfl rfl, i + 1, by omega, rfl, ?_, rfl⟩
        have : a[i] = b[i]'(by omega) := by simpa using ht2
        rw [List.take_succ_eq_append_getElem hia, List.take_succ_eq_append_getElem (by omega), hp, this]
  · refine Need.mk ⟨[], _, .same, fin ?_, rfl⟩ trivial
    have : a.length ≠ b.length := by
      intro e; simp [e] at ht
    exact (decide_eq_false fun e => this (by rw [e])).symm
end Go.Proofs.Yteddoandjgjleaa

namespace Go.Proofs.Yteddoandjgjleaa
open Go Go.Proofs Ev
set_option maxRecDepth 100000
theorem laws_markText (k : Nat) (hk : k ≤ 4611686018427387904) : AFn Try.prog 96 [av (.int .i64 k)] [] (.one (vs (markT k))) [] := by
  refine AFn.introX (E := En 0 md0) (en_ok 0 md0) Try.func96 rfl rfl rfl fun _ _ => ?_
  refine Split.mk fun t ht => ?_
  cases t
  · have h0 : 0 < k := by simp at ht; omega
    refine ALoop.mk (fun n s => ∃ (j : Nat) (out : ByteArray), n = j ∧ j + out.size ≤ 4611686018427387904 ∧ digs j out = digs k ⟨#[]⟩ ∧
      s = ⟨some (av (.int .i64 j)) :: none :: some (av (.string ⟨#[]⟩)) :: some (av (.string out)) :: List.replicate 16 none, List.replicate 20 absent⟩)
      ⟨k, _, Weak.nrm [true, false, true, true] [] rfl rfl rfl, k, ⟨#[]⟩, rfl, hk, rfl, rfl⟩ ?_
    rintro j s ⟨_, out, rfl, hb, hd, rfl⟩
    refine Split.mk fun t ht => ?_
    cases t
    · have hj : j = 0 := by simp at ht; omega
      subst hj
      refine Need.mk (strFits1 (by omega)) ?_
      refine Need.mk ⟨[], _, .same, ?_, rfl⟩ trivial
      have : markT k = ⟨#[109]⟩ ++ digs k ⟨#[]⟩ := by simp [markT]; omega
      rw [this, ← hd, digs_zero]; rfl
    · have hj : 0 < j := by simpa using ht
      refine Need.mk (by decide) ?_
      refine Num.mk ((48 + j % 10 : Nat) : Int) (by rw [show ((j : Int).tmod 10) = ((j % 10 : Nat) : Int) from rfl, wrapI] <;> omega) ?_
      refine Num.mk ((48 + j % 10 : Nat) : Int) (by rw [wrapU8] <;> omega) ?_
      refine Need.mk (strFits1 (by omega)) ?_
      refine Need.mk (by decide) ?_
      refine Num.mk ((j / 10 : Nat) : Int) (by rw [show ((j : Int).tdiv 10) = ((j / 10 : Nat) : Int) from rfl, wrapI] <;> omega) ?_
      refine ⟨j / 10, _, by omega, Weak.nrm [true, false, true, true] [] rfl rfl rfl, j / 10, dig j ++ out, rfl, ?_, ?_, rfl⟩
      · rw [ByteArray.size_append, show (dig j).size = 1 from rfl]; omega
      · rw [← digs_succ hj]; exact hd
  · have h0 : k = 0 := by simp at ht; omega
    subst h0
    exact Need.mk ⟨[], _, .same, rfl, rfl⟩ trivial
end Go.Proofs.Yteddoandjgjleaa

namespace Go.Proofs.Yteddoandjgjleaa
open Go Go.Proofs Ev
set_option maxRecDepth 100000
theorem laws_markEntryS (xs : List Ent) (k : Nat) (hk : k + 5 * xs.length ≤ 4611686018427387904) : AFn Try.prog 44 [.one (.ref 0 0 (.cell 0)), av (.int .i64 k)] [[.us 82 (xs.map Ent.enc)]] (.one (vi ((k + 5 * xs.length : Nat) : Int))) [[.us 82 ((markL k xs.length).map Ent.enc)]] := by
  refine AFn.introX (E := En 1 md0) (en_ok 1 md0) Try.func44 rfl rfl rfl fun _ _ => ?_
  let S : List (List C) → Nat → Nat → St := fun rows i m => ⟨some (.one (.ref 0 0 (.cell 0))) :: some (av (.int .i64 m)) :: none :: none :: none :: some (av (.int .i64 i)) :: List.replicate 44 none, ⟨0, 1, some [.us 82 rows]⟩ :: List.replicate 50 absent⟩
  refine ALoop.mk (fun n s => ∃ (i : Nat) (ys : List Ent), i ≤ xs.length ∧ n = xs.length - i ∧ ys.length = xs.length ∧ (∀ j : Nat, j < i → ys[j]? = some (markE (k + 5 * j))) ∧ s = S (ys.map Ent.enc) i (k + 5 * i))
    ⟨xs.length, _, Weak.nrm [true, true, false, false, false, true] [(0, 0)] rfl rfl rfl, 0, xs, Nat.zero_le _, rfl, rfl, by intro j hj; omega, rfl⟩ ?_
  rintro n s ⟨i, ys, hi, rfl, hl, hm, rfl⟩
  refine Split.mk fun t ht => ?_
  rw [List.length_map] at ht
  cases t
  · have hia : i = xs.length := by simp at ht; omega
    subst hia
    refine Need.mk ⟨[], _, .same, rfl, ?_⟩ trivial
    rw [← markL_of hl hm]; rfl
  · have hia : i < ys.length := by simpa using ht
    have hlen : i < (ys.map Ent.enc).length := by rw [List.length_map]; exact hia
    refine ACall.mk _ _ (laws_markText (k + 5 * i) (by omega)) ?_
    refine Need.mk ⟨by omega, by simpa using hia⟩ ?_
    refine Row.mk _ (map_get _ ys i hia) ?_
    refine Num.mk _ (wrapS (by omega)) ?_
    refine Need.mk ⟨by omega, by simpa using hia⟩ ?_
    refine Row.mk _ (set_get _ _ _ hlen) ?_
    refine Num.mk _ (wrapS (by omega)) ?_
    refine Need.mk ⟨by omega, by simpa using hia⟩ ?_
    refine Row.mk _ (set_get _ _ _ (by simpa using hia)) ?_
    refine Num.mk _ (wrapS (by omega)) ?_
    refine ACall.mk _ _ (laws_markText (k + 5 * i + 1 + 1 + 1) (by omega)) ?_
    refine Need.mk ⟨by omega, by simpa using hia⟩ ?_
    refine Row.mk _ (set_get _ _ _ (by simpa using hia)) ?_
    refine Num.mk _ (wrapS (by omega)) ?_
    refine Need.mk ⟨by omega, by simpa using hia⟩ ?_
    refine Row.mk _ (set_get _ _ _ (by simpa using hia)) ?_
    refine Num.mk _ (wrapS (by omega)) ?_
    refine Num.mk _ (wrapS (by omega)) ?_
    refine ⟨xs.length - (i + 1), _, by omega, Weak.nrm [true, true, false, false, false, true] [(0, 0)] rfl rfl rfl, i + 1, ys.set i (markE (k + 5 * i)), by omega, rfl, by simpa using hl, fun j hj => ?_, ?_⟩
    · by_cases hji : j = i
      · subst hji; exact List.getElem?_set_self hia
      · rw [List.getElem?_set_ne (Ne.symm hji)]; exact hm j (by omega)
    · refine Eq.trans (b := S ((((((ys.map Ent.enc).set i _).set i _).set i _).set i _).set i (markE (k + 5 * i)).enc) (i + 1) (k + 5 * i + 1 + 1 + 1 + 1 + 1)) rfl ?_
      simp only [List.set_set, List.map_set]
      rfl
end Go.Proofs.Yteddoandjgjleaa

namespace Go.Proofs.Yteddoandjgjleaa
open Go Go.Proofs Ev
set_option maxRecDepth 100000
set_option maxHeartbeats 1000000
def encXO (l : List Ent) : List C := [.us 82 (l.map Ent.enc)]
theorem frzX (xs : List (List Ent)) : Frz (.us 22 (xs.map encXO)) (.sl (xs.map encX)) := frz_map fun r _ => .cons (frzE r) .nil
theorem laws_toEntrySS (xs : List (List Ent)) (hx : xs.length ≤ 1048576) (hr : ∀ l ∈ xs, l.length ≤ 1048576) : AFn Try.prog 39 [sl (xs.map encX)] [] (.one (.us 22 (xs.map encXO))) [] := by
  refine AFn.introX (E := En 0 md0) (en_ok 0 md0) Try.func39 rfl rfl rfl fun _ _ => ?_
  have hn : (xs.map encX).length = xs.length := List.length_map ..
  refine Need.mk ⟨by omega, by omega, by simp only [hn]; omega, by omega⟩ ?_
  let S : List (List C) → Nat → St := fun rows i => ⟨some (sl (xs.map encX)) :: none :: none :: some (.one (.ref 3 0 (.cell 0))) :: some (av (.int .i64 i)) :: List.replicate 18 none, absent :: absent :: absent :: ⟨0, 1, some [.us 22 rows]⟩ :: List.replicate 19 absent⟩
  refine ALoop.mk (fun m s => ∃ i : Nat, i ≤ xs.length ∧ m = xs.length - i ∧ s = S ((xs.take i ++ List.replicate (xs.length - i) ([] : List Ent)).map encXO) i)
    ⟨xs.length, _, Weak.nrm [true, false, false, true, true] [(7, 3)] rfl rfl rfl, 0, Nat.zero_le _, rfl, ?_⟩ ?_
  · refine Eq.trans (b := S (List.replicate (xs.map encX).length (encXO ([] : List Ent))) 0) rfl ?_
    rw [hn, List.take_zero, List.nil_append, List.map_replicate, Nat.sub_zero]
  rintro m s ⟨i, hi, rfl, rfl⟩
  refine Split.mk fun t ht => ?_
  rw [hn] at ht
  cases t
  · have hin : i = xs.length := by simp at ht; omega
    subst hin
    refine Need.mk ⟨[], _, .same, ?_, rfl⟩ trivial
    rw [List.take_length, Nat.sub_self, List.replicate_zero, List.append_nil]; rfl
  · have hia : i < xs.length := by simpa using ht
    refine Need.mk (by omega) ?_
    refine Row.mk _ (map_get _ xs i hia) ?_
    refine ACall.mk _ _ (laws_toEntryS xs[i] (hr _ (List.getElem_mem _))) ?_
    refine Need.mk ⟨by omega, by rw [List.length_map, to_len _ _ hi]; omega⟩ ?_
    refine Row.mk _ (to_get _ xs ([] : List Ent) hia) ?_
    refine Num.mk _ (wrapS (by omega)) ?_
    refine ⟨xs.length - (i + 1), _, by omega, Weak.nrm [true, false, false, true, true] [(3, 3)] rfl rfl rfl, i + 1, by omega, rfl, ?_⟩
    refine Eq.trans (b := S (((xs.take i ++ List.replicate (xs.length - i) ([] : List Ent)).map encXO).set i (encXO xs[i])) (i + 1)) rfl ?_
    rw [← List.map_set, to_step xs ([] : List Ent) hia]
theorem laws_szEntrySS (xs : List (List Ent)) (left : Nat) (he : OkEE xs) (hl : left ≤ 1048576) : AFn Try.prog 37 [sl (xs.map encX), av (.int .i64 left)] [] (.one (vi (cut (sizeEE xs) left))) [] := by
  refine AFn.introX (E := En 0 md0) (en_ok 0 md0) Try.func37 rfl rfl rfl fun hs _ => ?_
  have hn : (xs.map encX).length = xs.length := List.length_map ..
  have hx := Small.len (hs _ (List.mem_cons_self ..))
  rw [hn] at hx
  have hz : sizeEE xs = xs.length + (xs.map sizeE).sum := rfl
  have fin : ∀ {z : Int}, z = cut (sizeEE xs) left → RV.one (vi z) = RV.one (vi (cut (sizeEE xs) left)) := fun h => by rw [h]
  refine Num.mk ((left : Int) - xs.length) (by rw [hn, IntKind.wrap_i64]; omega) ?_
  refine Split.mk fun t ht => ?_
  cases t
  · have h3 : xs.length ≤ left := by simp at ht; omega
    refine ALoop.mk (fun m s => ∃ (i r : Nat), i ≤ xs.length ∧ m = xs.length - i ∧ xs.length + ((xs.take i).map sizeE).sum + r = left ∧
        s = ⟨some (sl (xs.map encX)) :: some (av (.int .i64 r)) :: none :: none :: none :: some (av (.int .i64 i)) :: List.replicate 21 none, List.replicate 27 absent⟩)
      ⟨xs.length, _, Weak.nrm [true, true, false, false, false, true] [] rfl rfl rfl, 0, left - xs.length, Nat.zero_le _, rfl, by simp; omega, ?_⟩ ?_
    · rw [show ((left - xs.length : Nat) : Int) = (left : Int) - xs.length by omega]; rfl
    rintro m s ⟨i, r, hi, rfl, hr, rfl⟩
    refine Split.mk fun t ht => ?_
    rw [hn] at ht
    cases t
    · have hin : i = xs.length := by simp at ht; omega
      subst hin
      rw [List.take_length] at hr
      exact Need.mk ⟨[], _, .same, fin (by rw [cut_pos (by omega)]; omega), rfl⟩ trivial
    · have hia : i < xs.length := by simpa using ht
      have hsum := sum_take sizeE xs hia
      have hle := sum_take_le sizeE xs (i + 1)
      refine Need.mk (by omega) ?_
      refine Row.mk _ (map_get _ xs i hia) ?_
      refine ACall.mk _ _ (laws_szEntryS xs[i] r (he _ (List.getElem_mem _)) (by omega)) ?_
      refine Split.mk fun t ht => ?_
      rw [cut_lt] at ht
      cases t
      · have h4 : (sizeE xs[i]) ≤ r := by simpa using ht
        refine Num.mk _ (wrapS (by omega)) ?_
        refine ⟨xs.length - (i + 1), _, by omega, Weak.nrm [true, true, false, false, false, true] [] rfl rfl rfl, i + 1, r - (sizeE xs[i]), by omega, rfl, by omega, ?_⟩
        rw [← cut_pos h4]; rfl
      · have h4 : ¬ (sizeE xs[i]) ≤ r := by simpa using ht
        exact Need.mk ⟨[], _, .same, fin (by rw [cut_neg (by omega)]), rfl⟩ trivial
  · have h4 : ¬ sizeEE xs ≤ left := by simp at ht; omega
    exact Need.mk ⟨[], _, .same, fin (by rw [cut_neg h4]), rfl⟩ trivial
theorem laws_eqEntrySS (a b : List (List Ent)) : AFn Try.prog 42 [sl (a.map encX), sl (b.map encX)] [] (rb (decide (a = b))) [] := by
  refine AFn.introX (E := En 0 md0) (en_ok 0 md0) Try.func42 rfl rfl rfl fun hs _ => ?_
  have ha := Small.len (hs _ (List.mem_cons_self ..))
  rw [List.length_map] at ha
  have fin : ∀ {c : Bool}, c = decide (a = b) → rb c = rb (decide (a = b)) := fun h => by rw [h]
  refine Split.mk fun t ht => ?_
  cases t
  · have hl : a.length = b.length := Int.ofNat_inj.1 (by simpa using ht)
    refine ALoop.mk (fun n s => ∃ i : Nat, i ≤ a.length ∧ n = a.length - i ∧ a.take i = b.take i ∧
      s = ⟨some (sl (a.map encX)) :: some (sl (b.map encX)) :: none :: none :: some (av (.bool false)) :: some (av (.int .i64 i)) :: List.replicate 21 none, List.replicate 27 absent⟩)
      ⟨a.length, _, Weak.nrm [true, true, false, false, true, true] [] rfl rfl rfl, 0, Nat.zero_le _, rfl, rfl, rfl⟩ ?_
    rintro n s ⟨i, hi, rfl, hp, rfl⟩
    refine Split.mk fun t ht => ?_
    cases t
    · have hia : i = a.length := by simp at ht; omega
      refine Need.mk ⟨[], _, .same, fin ?_, rfl⟩ trivial
      subst hia
      rw [List.take_length, hl, List.take_length] at hp
      simp [hp]
    · have hia : i < a.length := by simpa using ht
      refine Need.mk (by omega) ?_
      refine Row.mk _ (map_get _ a i hia) ?_
      refine Need.mk (by omega) ?_
      refine Row.mk _ (map_get _ b i (by omega)) ?_
      refine ACall.mk _ _ (laws_eqEntryS a[i] (b[i]'(by omega))) ?_
      refine Split.mk fun t ht2 => ?_
      cases t
      · refine Need.mk rfl ?_
        refine Need.mk ⟨[], _, .same, fin ?_, rfl⟩ trivial
        have : a[i] ≠ b[i]'(by omega) := by simpa using ht2
        refine (decide_eq_false fun e => this ?_).symm
        subst e; rfl
      · refine Need.mk rfl ?_
        refine Num.mk _ (wrapS (by omega)) ?_
        refine ⟨a.length - (i + 1), _, by omega, Weak.nrm [true, true, false, false, true, true] [] rfl rfl rfl, i + 1, by omega, rfl, ?_, rfl⟩
        have : a[i] = b[i]'(by omega) := by simpa using ht2
        rw [List.take_succ_eq_append_getElem hia, List.take_succ_eq_append_getElem (by omega), hp, this]
  · refine Need.mk ⟨[], _, .same, fin ?_, rfl⟩ trivial
    have : a.length ≠ b.length := by
      intro e; simp [e] at ht
    exact (decide_eq_false fun e => this (by rw [e])).symm
theorem laws_markEntrySS (xs : List (List Ent)) (k : Nat) (hk : posX k xs ≤ 4611686018427387904) : AFn Try.prog 43 [.one (.ref 0 0 (.cell 0)), av (.int .i64 k)] [[.us 22 (xs.map encXO)]] (.one (vi (posX k xs : Nat))) [[.us 22 ((mkXs k xs).map encXO)]] := by
  refine AFn.introX (E := En 1 (md1 [44])) (en_ok 1 _) Try.func43 rfl rfl rfl fun _ hs => ?_
  have hxl := Small.lenU (hs _ (List.mem_cons_self ..) _ (List.mem_cons_self ..))
  rw [List.length_map] at hxl
  let S : List (List C) → Nat → Nat → St := fun rows i m => ⟨some (.one (.ref 0 0 (.cell 0))) :: some (av (.int .i64 m)) :: none :: none :: none :: some (av (.int .i64 i)) :: List.replicate 13 none, ⟨0, 1, some [.us 22 rows]⟩ :: List.replicate 19 absent⟩
  refine ALoop.mk (fun n s => ∃ i : Nat, i ≤ xs.length ∧ n = xs.length - i ∧ s = S ((mkXs k (xs.take i) ++ xs.drop i).map encXO) i (posX k (xs.take i)))
    ⟨xs.length, _, Weak.nrm [true, true, false, false, false, true] [(0, 0)] rfl rfl rfl, 0, Nat.zero_le _, rfl, rfl⟩ ?_
  rintro n s ⟨i, hi, rfl, rfl⟩
  have hlen : (mkXs k (xs.take i) ++ xs.drop i).length = xs.length := by rw [List.length_append, mkXs_len, List.length_take, List.length_drop]; omega
  refine Split.mk fun t ht => ?_
  rw [List.length_map, hlen] at ht
  cases t
  · have hia : i = xs.length := by simp at ht; omega
    subst hia
    refine Need.mk ⟨[], _, .same, ?_, ?_⟩ trivial
    · rw [List.take_length]; rfl
    · rw [List.take_length, List.drop_length, List.append_nil]; rfl
  · have hia : i < xs.length := by simpa using ht
    have hget : (mkXs k (xs.take i) ++ xs.drop i)[i]? = some xs[i] := by
      rw [List.getElem?_append_right (by rw [mkXs_len, List.length_take]; omega), mkXs_len, List.length_take, Nat.min_eq_left (by omega), Nat.sub_self, List.getElem?_drop, Nat.add_zero, List.getElem?_eq_getElem hia]
    have hpos : posX k (xs.take (i + 1)) = stepX (posX k (xs.take i)) xs[i] := by rw [List.take_succ_eq_append_getElem hia, posX_app]; rfl
    have hle : posX k (xs.take (i + 1)) ≤ 4611686018427387904 := by
      have : posX k xs = posX (posX k (xs.take (i + 1))) (xs.drop (i + 1)) := by rw [← posX_app, List.take_append_drop]
      have h2 := posX_le (xs.drop (i + 1)) (posX k (xs.take (i + 1)))
      omega
    have hrow : ((mkXs k (xs.take i) ++ xs.drop i).map encXO)[i]? = some (encXO xs[i]) := by rw [List.getElem?_map, hget]; rfl
    have hlt : i < ((mkXs k (xs.take i) ++ xs.drop i).map encXO).length := by rw [List.length_map, hlen]; exact hia
    refine Need.mk ⟨by omega, by omega⟩ ?_
    refine Row.mk _ hrow ?_
    refine Row.mk _ hrow ?_
    refine ACall.mk _ _ (laws_markEntryS xs[i] (posX k (xs.take i)) (by rw [hpos] at hle; exact hle)) ?_
    refine Row.mk _ hrow ?_
    refine Num.mk _ (wrapS (by omega)) ?_
    refine ⟨xs.length - (i + 1), _, by omega, Weak.nrm [true, true, false, false, false, true] [(0, 0)] rfl rfl rfl, i + 1, by omega, rfl, ?_⟩
    refine Eq.trans (b := S (((mkXs k (xs.take i) ++ xs.drop i).map encXO).set i (encXO (mkX (posX k (xs.take i)) xs[i]))) (i + 1) (stepX (posX k (xs.take i)) xs[i])) rfl ?_
    rw [hpos, ← List.map_set, mkXs_step hia]
end Go.Proofs.Yteddoandjgjleaa

namespace Go.Proofs.Yteddoandjgjleaa
open Go Go.Proofs Ev
set_option maxRecDepth 100000
theorem spec_l4Bit (n : Nat) (hn : n < 16) : AFn Try.prog 123 [av (.int .i64 n)] [] (.one (vi ((2 ^ n : Nat) : Int))) [] := by
  refine AFn.introX (E := En 0 md0) (en_ok 0 md0) Try.func123 rfl rfl rfl fun _ _ => ?_
  refine ALoop.mk (fun m s => ∃ i : Nat, i ≤ n ∧ m = n - i ∧ s = ⟨some (av (.int .i64 n)) :: none :: some (av (.int .i64 0)) :: some (av (.int .i64 ((2 ^ i : Nat) : Int))) :: some (av (.int .i64 i)) :: List.replicate 8 none, List.replicate 13 absent⟩)
    ⟨n, _, Weak.nrm [true, false, true, true, true] [] rfl rfl rfl, 0, Nat.zero_le _, rfl, rfl⟩ ?_
  rintro m s ⟨i, hi, rfl, rfl⟩
  refine Split.mk fun t ht => ?_
  cases t
  · have hin : i = n := by simp at ht; omega
    subst hin
    exact Need.mk ⟨[], _, .same, rfl, rfl⟩ trivial
  · have hia : i < n := by simpa using ht
    have hp : 2 ^ i < 65536 := Nat.pow_lt_pow_right (a := 2) (by decide) (show i < 16 by omega)
    refine Num.mk ((2 ^ (i + 1) : Nat) : Int) (wrapI' (by rw [Nat.pow_succ]; omega) (by rw [Nat.pow_succ]; omega)) ?_
    refine Num.mk _ (wrapS (by omega)) ?_
    exact ⟨n - (i + 1), _, by omega, Weak.nrm [true, false, true, true, true] [] rfl rfl rfl, i + 1, by omega, rfl, rfl⟩
theorem spec_l4Or (a b : Nat) (ha : a < 65536) (hb : b < 65536) : AFn Try.prog 84 [av (.int .i64 a), av (.int .i64 b)] [] (.one (vi ((a ||| b : Nat) : Int))) [] := by
  refine AFn.introX (E := En 0 md0) (en_ok 0 md0) Try.func84 rfl rfl rfl fun _ _ => ?_
  have hlt : a ||| b < 65536 := Nat.or_lt_two_pow (n := 16) ha hb
  let S : Int → Nat → St := fun i o => ⟨some (av (.int .i64 a)) :: some (av (.int .i64 b)) :: none :: none :: some (av (.int .i64 0)) :: some (av (.int .i64 o)) :: some (av (.int .i64 i)) :: List.replicate 23 none, List.replicate 30 absent⟩
  refine ALoop.mk (fun m s => ∃ k : Nat, k ≤ 16 ∧ m = k ∧ s = S ((k : Int) - 1) ((a ||| b) / 2 ^ k))
    ⟨16, _, Weak.nrm [true, true, false, false, true, true, true] [] rfl rfl rfl, 16, Nat.le_refl _, rfl, by rw [show (a ||| b) / 2 ^ 16 = 0 from Nat.div_eq_of_lt hlt]; rfl⟩ ?_
  rintro m s ⟨k, hk, rfl, hs⟩
  by_cases h0 : m = 0
  · subst h0
    rw [Nat.pow_zero, Nat.div_one] at hs
    subst hs
    refine Split.mk fun t ht => ?_
    cases t
    · exact Need.mk ⟨[], _, .same, rfl, rfl⟩ trivial
    · simp at ht
  · have hex : ∃ i, m = i + 1 := ⟨m - 1, by omega⟩
    obtain ⟨i, hmi⟩ := hex
    subst hmi
    have hpos : 0 < 2 ^ i := Nat.pow_pos (by decide)
    have hstep : (a ||| b) / 2 ^ i = 2 * ((a ||| b) / 2 ^ (i + 1)) + (a ||| b) / 2 ^ i % 2 := bit_step
    have hor := or_bit (a := a) (b := b) (i := i)
    have hle : (a ||| b) / 2 ^ i ≤ a ||| b := Nat.div_le_self _ _
    have hda : a / 2 ^ i ≤ a := Nat.div_le_self _ _
    have hdb : b / 2 ^ i ≤ b := Nat.div_le_self _ _
    have hii : (((i + 1 : Nat) : Int) - 1) = (i : Int) := by omega
    rw [hii] at hs
    subst hs
    refine Split.mk fun t ht => ?_
    cases t
    · simp at ht <;> omega
    refine Num.mk ((2 * ((a ||| b) / 2 ^ (i + 1)) : Nat) : Int) (wrapI' (by omega) (by omega)) ?_
    refine ACall.mk _ _ (spec_l4Bit i (by omega)) ?_
    refine Need.mk (by omega) ?_
    refine Num.mk ((a / 2 ^ i : Nat) : Int) (wrapI' (tdivN' _ _) (by omega)) ?_
    refine Need.mk (by decide) ?_
    refine Split.mk fun t h1 => ?_
    have h1 : ((((a / 2 ^ i % 2 : Nat) : Int) == 1)) = t := h1
    cases t
    · refine ACall.mk _ _ (spec_l4Bit i (by omega)) ?_
      refine Need.mk (by omega) ?_
      refine Num.mk ((b / 2 ^ i : Nat) : Int) (wrapI' (tdivN' _ _) (by omega)) ?_
      refine Need.mk (by decide) ?_
      refine Split.mk fun t h2 => ?_
      have h2 : ((((b / 2 ^ i % 2 : Nat) : Int) == 1)) = t := h2
      cases t
      · have e : (a ||| b) / 2 ^ i % 2 = 0 := by rw [hor, if_neg (fun h => h.elim (fun e => by rw [e] at h1; cases h1) (fun e => by rw [e] at h2; cases h2))]
        refine Num.mk ((i : Int) - 1) (wrapI (by omega) (by omega)) ?_
        exact ⟨i, _, by omega, Weak.nrm [true, true, false, false, true, true, true] [] rfl rfl rfl, i, by omega, rfl, by rw [hstep, e, Nat.add_zero]; rfl⟩
      · have e : (a ||| b) / 2 ^ i % 2 = 1 := by rw [hor, if_pos (.inr (Int.ofNat_inj.1 (beq_iff_eq.1 h2)))]
        refine Num.mk ((2 * ((a ||| b) / 2 ^ (i + 1)) + 1 : Nat) : Int) (wrapI' (by omega) (by omega)) ?_
        refine Num.mk ((i : Int) - 1) (wrapI (by omega) (by omega)) ?_
        exact ⟨i, _, by omega, Weak.nrm [true, true, false, false, true, true, true] [] rfl rfl rfl, i, by omega, rfl, by rw [hstep, e]; rfl⟩
    · have e : (a ||| b) / 2 ^ i % 2 = 1 := by rw [hor, if_pos (.inl (Int.ofNat_inj.1 (beq_iff_eq.1 h1)))]
      refine Num.mk ((2 * ((a ||| b) / 2 ^ (i + 1)) + 1 : Nat) : Int) (wrapI' (by omega) (by omega)) ?_
      refine Num.mk ((i : Int) - 1) (wrapI (by omega) (by omega)) ?_
      exact ⟨i, _, by omega, Weak.nrm [true, true, false, false, true, true, true] [] rfl rfl rfl, i, by omega, rfl, by rw [hstep, e]; rfl⟩
theorem spec_KeyMask (s : ByteArray) (hs : s.size ≤ maxLen) : AFn Try.prog 85 [av (.string s)] [] (.one (vi (kmask s : Nat))) [] := by
  refine AFn.introX (E := En 0 md0) (en_ok 0 md0) Try.func85 rfl rfl rfl fun _ _ => ?_
  unfold maxLen at hs
  refine ALoop.mk (fun m s' => ∃ i : Nat, i ≤ s.size ∧ m = s.size - i ∧ s' = ⟨some (av (.string s)) :: none :: some (av (.int .i64 0)) :: some (av (.int .i64 (hsh s i : Nat))) :: some (av (.int .i64 i)) :: List.replicate 22 none, List.replicate 27 absent⟩)
    ⟨s.size, _, Weak.nrm [true, false, true, true, true] [] rfl rfl rfl, 0, Nat.zero_le _, rfl, rfl⟩ ?_
  rintro m s' ⟨i, hi, rfl, hs'⟩
  by_cases hin : i = s.size
  · subst hin
    have h1 := hsh_lt s s.size
    subst hs'
    refine Split.mk fun t ht => ?_
    cases t
    · refine Need.mk (by decide) ?_
      refine ACall.mk _ _ (spec_l4Bit (hsh s s.size % 16) (Nat.mod_lt _ (by decide))) ?_
      refine Need.mk (by decide) ?_
      refine Num.mk ((hsh s s.size / 16 : Nat) : Int) (wrapI' (tdivN' _ _) (by omega)) ?_
      refine Need.mk (by decide) ?_
      refine ACall.mk _ _ (spec_l4Bit (hsh s s.size / 16 % 16) (Nat.mod_lt _ (by decide))) ?_
      refine ACall.mk _ _ (spec_l4Or (2 ^ (hsh s s.size % 16)) (2 ^ (hsh s s.size / 16 % 16)) (p16_lt _) (p16_lt _)) ?_
      exact Need.mk ⟨[], _, .same, rfl, rfl⟩ trivial
    · simp at ht
  · have hia : i < s.size := by omega
    have h1 := hsh_lt s i
    have h2 := byteAt_lt s i
    have h3 : byteAt s i = (((byteAt s i).toNat : Nat) : Int) := by omega
    have h4 : ((hsh s i : Int) * 31 + ((byteAt s i).toNat : Int)).tmod 65521 = ((hsh s (i + 1) : Nat) : Int) := by
      rw [show (hsh s i : Int) * 31 + ((byteAt s i).toNat : Int) = ((31 * hsh s i + (byteAt s i).toNat : Nat) : Int) by omega]
      exact tmodN' _ _
    subst hs'
    refine Split.mk fun t ht => ?_
    cases t
    · simp at ht; omega
    refine Num.mk ((hsh s i : Int) * 31) (wrapI (by omega) (by omega)) ?_
    refine Need.mk ⟨by omega, by omega⟩ ?_
    refine Num.mk (((byteAt s i).toNat : Nat) : Int) (by rw [IntKind.wrap_i64]; omega) ?_
    refine Num.mk ((hsh s i : Int) * 31 + ((byteAt s i).toNat : Int)) (wrapI (by omega) (by omega)) ?_
    refine Need.mk (by decide) ?_
    refine Num.mk _ (wrapS (by omega)) ?_
    exact ⟨s.size - (i + 1), _, by omega, Weak.nrm [true, false, true, true, true] [] rfl rfl rfl, i + 1, by omega, rfl, by rw [← h4]; rfl⟩
theorem impl_KeyMask (s : ByteArray) (hs : s.size ≤ maxLen) : AFn Try.prog 88 [av (.string s)] [] (.one (vi (kmask s : Nat))) [] := by
  refine AFn.introX (E := En 0 md0) (en_ok 0 md0) Try.func88 rfl rfl rfl fun _ _ => ?_
  unfold maxLen at hs
  refine ALoop.mk (fun m s' => ∃ i : Nat, i ≤ s.size ∧ m = s.size - i ∧ s' = ⟨some (av (.string s)) :: none :: some (av (.int .i64 0)) :: some (av (.int .i64 (hsh s i : Nat))) :: none :: none :: some (av (.int .i64 s.size)) :: some (av (.int .i64 i)) :: List.replicate 19 none, List.replicate 27 absent⟩)
    ⟨s.size, _, Weak.nrm [true, false, true, true, false, false, true, true] [] rfl rfl rfl, 0, Nat.zero_le _, rfl, rfl⟩ ?_
  rintro m s' ⟨i, hi, rfl, hs'⟩
  by_cases hin : i = s.size
  · subst hin
    have h1 := hsh_lt s s.size
    have p1 := p16_lt (hsh s s.size)
    have p2 := p16_lt (hsh s s.size / 16)
    have sh : ∀ k : Nat, k < 16 → IntKind.i64.wrap ((1 : Int) * 2 ^ (min (k : Int).toNat IntKind.i64.bits)) = ((2 ^ k : Nat) : Int) := fun k hk => by
      have hp : 2 ^ k < 65536 := Nat.pow_lt_pow_right (a := 2) (by decide) hk
      have hb : IntKind.i64.bits = 64 := rfl
      refine wrapI' ?_ (by omega)
      rw [Int.toNat_natCast, Nat.min_eq_left (by rw [hb]; omega), Int.one_mul]
      simp
    subst hs'
    refine Split.mk fun t ht => ?_
    cases t
    · refine Need.mk (by decide) ?_
      refine Need.mk (Int.natCast_nonneg (hsh s s.size % 16)) ?_
      refine Num.mk _ (sh (hsh s s.size % 16) (Nat.mod_lt _ (by decide))) ?_
      refine Need.mk (by decide) ?_
      refine Num.mk ((hsh s s.size / 16 : Nat) : Int) (wrapI' (tdivN' _ _) (by omega)) ?_
      refine Need.mk (by decide) ?_
      refine Need.mk (Int.natCast_nonneg (hsh s s.size / 16 % 16)) ?_
      refine Num.mk _ (sh (hsh s s.size / 16 % 16) (Nat.mod_lt _ (by decide))) ?_
      refine Need.mk rfl ?_
      refine Need.mk ⟨[], _, .same, ?_, rfl⟩ trivial
      exact congrArg (fun z => RV.one (vi z)) (orN p1 p2)
    · simp at ht
  · have hia : i < s.size := by omega
    have h1 := hsh_lt s i
    have h2 := byteAt_lt s i
    have h4 : ((31 : Int) * (hsh s i : Int) + ((byteAt s i).toNat : Int)).tmod 65521 = ((hsh s (i + 1) : Nat) : Int) := by
      rw [show (31 : Int) * (hsh s i : Int) + ((byteAt s i).toNat : Int) = ((31 * hsh s i + (byteAt s i).toNat : Nat) : Int) by omega]
      exact tmodN' _ _
    subst hs'
    refine Split.mk fun t ht => ?_
    cases t
    · simp at ht; omega
    refine Num.mk ((31 : Int) * (hsh s i : Int)) (wrapI (by omega) (by omega)) ?_
    refine Need.mk ⟨by omega, by omega⟩ ?_
    refine Num.mk (((byteAt s i).toNat : Nat) : Int) (by rw [IntKind.wrap_i64]; omega) ?_
    refine Num.mk ((31 : Int) * (hsh s i : Int) + ((byteAt s i).toNat : Int)) (wrapI (by omega) (by omega)) ?_
    refine Need.mk (by decide) ?_
    refine Num.mk _ (wrapS (by omega)) ?_
    exact ⟨s.size - (i + 1), _, by omega, Weak.nrm [true, false, true, true, false, false, true, true] [] rfl rfl rfl, i + 1, by omega, rfl, by rw [← h4]; rfl⟩
end Go.Proofs.Yteddoandjgjleaa

namespace Go.Proofs.Yteddoandjgjleaa
open Go Go.Proofs Ev
set_option maxRecDepth 100000
set_option maxHeartbeats 1000000
theorem impl_KeyOk (s : ByteArray) (hs : s.size ≤ maxLen) : AFn Try.prog 142 [av (.string s)] [] (rb (keyOk s)) [] := by
  refine AFn.introX (E := En 0 md0) (en_ok 0 md0) Try.func142 rfl rfl rfl fun _ _ => ?_
  unfold maxLen at hs
  have fin : ∀ {c : Bool}, c = keyOk s → rb c = rb (keyOk s) := fun h => by rw [h]
  refine Split.mk fun t ht => ?_
  cases t
  case true => exact Need.mk ⟨[], _, .same, fin (keyOk_len (by simp at ht; omega)).symm, rfl⟩ trivial
  refine Split.mk fun t ht2 => ?_
  cases t
  case true => exact Need.mk ⟨[], _, .same, fin (keyOk_len (by simp at ht2; omega)).symm, rfl⟩ trivial
  have hsz : 1 ≤ s.size ∧ s.size ≤ 8 := by simp at ht ht2; omega
  refine ALoop.mk (fun m s' => ∃ i : Nat, i ≤ s.size ∧ m = s.size - i ∧ (∀ j : Nat, j < i → okc (byteAt s j) = true) ∧
      s' = ⟨some (av (.string s)) :: none :: some (av (.bool false)) :: none :: none :: none :: none :: none :: none :: none :: none :: none :: none :: none :: some (av (.int .i64 s.size)) :: some (av (.int .i64 i)) :: List.replicate 25 none, List.replicate 41 absent⟩)
    ⟨s.size, _, Weak.nrm [true, false, true, false, false, false, false, false, false, false, false, false, false, false, true, true] [] rfl rfl rfl, 0, Nat.zero_le _, rfl, by intro j hj; omega, rfl⟩ ?_
  rintro m s' ⟨i, hi, rfl, hall, rfl⟩
  refine Split.mk fun t ht => ?_
  cases t
  · have hin : i = s.size := by simp at ht; omega
    subst hin
    exact Need.mk ⟨[], _, .same, fin (by rw [keyOk_all hall]; simp [hsz]), rfl⟩ trivial
  have hia : i < s.size := by simpa using ht
  have more : okc (byteAt s i) = true → ∀ j : Nat, j < i + 1 → okc (byteAt s j) = true := fun hc j hj => by
    by_cases hji : j = i
    · rw [hji]; exact hc
    · exact hall j (by omega)
  refine Need.mk ⟨by omega, by omega⟩ ?_
  refine Split.mk fun t h1 => ?_
  cases t
  · refine Split.mk fun t h3 => ?_
    cases t
    · refine Split.mk fun t h5 => ?_
      cases t
      · have hc : okc (byteAt s i) = false := by simp at h1 h3 h5; simp [okc]; omega
        exact Need.mk ⟨[], _, .same, fin (keyOk_bad hia hc).symm, rfl⟩ trivial
      · have hc : okc (byteAt s i) = true := by simp at h1 h3 h5; simp [okc]; omega
        refine Num.mk _ (wrapS (by omega)) ?_
        exact ⟨s.size - (i + 1), _, by omega, Weak.nrm [true, false, true, false, false, false, false, false, false, false, false, false, false, false, true, true] [] rfl rfl rfl, i + 1, by omega, rfl, more hc, rfl⟩
    · refine Split.mk fun t h4 => ?_
      cases t
      · refine Split.mk fun t h5 => ?_
        cases t
        · have hc : okc (byteAt s i) = false := by simp at h1 h3 h4 h5; simp [okc]; omega
          exact Need.mk ⟨[], _, .same, fin (keyOk_bad hia hc).symm, rfl⟩ trivial
        · have hc : okc (byteAt s i) = true := by simp at h1 h3 h4 h5; simp [okc]; omega
          refine Num.mk _ (wrapS (by omega)) ?_
          exact ⟨s.size - (i + 1), _, by omega, Weak.nrm [true, false, true, false, false, false, false, false, false, false, false, false, false, false, true, true] [] rfl rfl rfl, i + 1, by omega, rfl, more hc, rfl⟩
      · have hc : okc (byteAt s i) = true := by simp at h1 h3 h4; simp [okc]; omega
        refine Num.mk _ (wrapS (by omega)) ?_
        exact ⟨s.size - (i + 1), _, by omega, Weak.nrm [true, false, true, false, false, false, false, false, false, false, false, false, false, false, true, true] [] rfl rfl rfl, i + 1, by omega, rfl, more hc, rfl⟩
  · refine Split.mk fun t h2 => ?_
    cases t
    · refine Split.mk fun t h3 => ?_
      cases t
      · refine Split.mk fun t h5 => ?_
        cases t
        · have hc : okc (byteAt s i) = false := by simp at h1 h2 h3 h5; simp [okc]; omega
          exact Need.mk ⟨[], _, .same, fin (keyOk_bad hia hc).symm, rfl⟩ trivial
        · have hc : okc (byteAt s i) = true := by simp at h1 h2 h3 h5; simp [okc]; omega
          refine Num.mk _ (wrapS (by omega)) ?_
          exact ⟨s.size - (i + 1), _, by omega, Weak.nrm [true, false, true, false, false, false, false, false, false, false, false, false, false, false, true, true] [] rfl rfl rfl, i + 1, by omega, rfl, more hc, rfl⟩
      · refine Split.mk fun t h4 => ?_
        cases t
        · refine Split.mk fun t h5 => ?_
          cases t
          · have hc : okc (byteAt s i) = false := by simp at h1 h2 h3 h4 h5; simp [okc]; omega
            exact Need.mk ⟨[], _, .same, fin (keyOk_bad hia hc).symm, rfl⟩ trivial
          · have hc : okc (byteAt s i) = true := by simp at h1 h2 h3 h4 h5; simp [okc]; omega
            refine Num.mk _ (wrapS (by omega)) ?_
            exact ⟨s.size - (i + 1), _, by omega, Weak.nrm [true, false, true, false, false, false, false, false, false, false, false, false, false, false, true, true] [] rfl rfl rfl, i + 1, by omega, rfl, more hc, rfl⟩
        · have hc : okc (byteAt s i) = true := by simp at h1 h2 h3 h4; simp [okc]; omega
          refine Num.mk _ (wrapS (by omega)) ?_
          exact ⟨s.size - (i + 1), _, by omega, Weak.nrm [true, false, true, false, false, false, false, false, false, false, false, false, false, false, true, true] [] rfl rfl rfl, i + 1, by omega, rfl, more hc, rfl⟩
    · have hc : okc (byteAt s i) = true := by simp at h1 h2; simp [okc]; omega
      refine Num.mk _ (wrapS (by omega)) ?_
      exact ⟨s.size - (i + 1), _, by omega, Weak.nrm [true, false, true, false, false, false, false, false, false, false, false, false, false, false, true, true] [] rfl rfl rfl, i + 1, by omega, rfl, more hc, rfl⟩
theorem spec_KeyOk (s : ByteArray) (hs : s.size ≤ maxLen) : AFn Try.prog 140 [av (.string s)] [] (rb (keyOk s)) [] := by
  refine AFn.introX (E := En 0 md0) (en_ok 0 md0) Try.func140 rfl rfl rfl fun _ _ => ?_
  unfold maxLen at hs
  have fin : ∀ {c : Bool}, c = keyOk s → rb c = rb (keyOk s) := fun h => by rw [h]
  refine ALoop.mk (fun m s' => ∃ i : Nat, i ≤ s.size ∧ m = s.size - i ∧ (∀ j : Nat, j < i → okc (byteAt s j) = true) ∧
      s' = ⟨some (av (.string s)) :: none :: some (av (.bool false)) :: some (av (.int .i64 i)) :: List.replicate 36 none, List.replicate 40 absent⟩)
    ⟨s.size, _, Weak.nrm [true, false, true, true] [] rfl rfl rfl, 0, Nat.zero_le _, rfl, by intro j hj; omega, rfl⟩ ?_
  rintro m s' ⟨i, hi, rfl, hall, rfl⟩
  refine Split.mk fun t ht => ?_
  cases t
  · have hin : i = s.size := by simp at ht; omega
    subst hin
    refine Split.mk fun t h1 => ?_
    cases t
    · exact Need.mk ⟨[], _, .same, fin (by rw [keyOk_all hall]; simp at h1; simp; omega), rfl⟩ trivial
    · refine Split.mk fun t h2 => ?_
      cases t
      · exact Need.mk ⟨[], _, .same, fin (by rw [keyOk_all hall]; simp at h1 h2; simp; omega), rfl⟩ trivial
      · exact Need.mk ⟨[], _, .same, fin (by rw [keyOk_all hall]; simp at h1 h2; simp; omega), rfl⟩ trivial
  have hia : i < s.size := by simpa using ht
  have more : okc (byteAt s i) = true → ∀ j : Nat, j < i + 1 → okc (byteAt s j) = true := fun hc j hj => by
    by_cases hji : j = i
    · rw [hji]; exact hc
    · exact hall j (by omega)
  refine Need.mk ⟨by omega, by omega⟩ ?_
  refine Split.mk fun t h1 => ?_
  cases t
  · refine Need.mk ⟨by omega, by omega⟩ ?_
    refine Split.mk fun t h2 => ?_
    cases t
    · have hc : okc (byteAt s i) = true := by simp at h1 h2; simp [okc]; omega
      refine Num.mk _ (wrapS (by omega)) ?_
      exact ⟨s.size - (i + 1), _, by omega, Weak.nrm [true, false, true, true] [] rfl rfl rfl, i + 1, by omega, rfl, more hc, rfl⟩
    · refine Need.mk ⟨by omega, by omega⟩ ?_
      refine Split.mk fun t h3 => ?_
      cases t
      · refine Need.mk ⟨by omega, by omega⟩ ?_
        refine Split.mk fun t h4 => ?_
        cases t
        · have hc : okc (byteAt s i) = true := by simp at h1 h2 h3 h4; simp [okc]; omega
          refine Num.mk _ (wrapS (by omega)) ?_
          exact ⟨s.size - (i + 1), _, by omega, Weak.nrm [true, false, true, true] [] rfl rfl rfl, i + 1, by omega, rfl, more hc, rfl⟩
        · have hc : okc (byteAt s i) = false := by simp at h1 h2 h3 h4; simp [okc]; omega
          exact Need.mk ⟨[], _, .same, fin (keyOk_bad hia hc).symm, rfl⟩ trivial
      · have hc : okc (byteAt s i) = false := by simp at h1 h2 h3; simp [okc]; omega
        exact Need.mk ⟨[], _, .same, fin (keyOk_bad hia hc).symm, rfl⟩ trivial
  · refine Need.mk ⟨by omega, by omega⟩ ?_
    refine Split.mk fun t h3 => ?_
    cases t
    · refine Need.mk ⟨by omega, by omega⟩ ?_
      refine Split.mk fun t h4 => ?_
      cases t
      · have hc : okc (byteAt s i) = true := by simp at h1 h3 h4; simp [okc]; omega
        refine Num.mk _ (wrapS (by omega)) ?_
        exact ⟨s.size - (i + 1), _, by omega, Weak.nrm [true, false, true, true] [] rfl rfl rfl, i + 1, by omega, rfl, more hc, rfl⟩
      · have hc : okc (byteAt s i) = false := by simp at h1 h3 h4; simp [okc]; omega
        exact Need.mk ⟨[], _, .same, fin (keyOk_bad hia hc).symm, rfl⟩ trivial
    · have hc : okc (byteAt s i) = false := by simp at h1 h3; simp [okc]; omega
      exact Need.mk ⟨[], _, .same, fin (keyOk_bad hia hc).symm, rfl⟩ trivial
theorem impl_EntryLess (a b : Ent) : AFn Try.prog 56 [.agg (a.enc.map .c), .agg (b.enc.map .c)] [] (rb (eLess a b)) [] := by
  refine AFn.introX (E := En 0 md0) (en_ok 0 md0) Try.func56 rfl rfl rfl fun _ _ => ?_
  have fin : ∀ {c : Bool}, c = eLess a b → rb c = rb (eLess a b) := fun h => by rw [h]
  refine Split.mk fun t ht => ?_
  rw [bytes_beq] at ht
  cases t
  · have he : a.key = b.key := by simpa using ht
    refine Split.mk fun t ht2 => ?_
    exact Need.mk ⟨[], _, .same, fin (by rw [← ht2]; simp [eLess, he, slt_irr]), rfl⟩ trivial
  · have he : a.key ≠ b.key := by simpa using ht
    refine Split.mk fun t ht2 => ?_
    exact Need.mk ⟨[], _, .same, fin (by rw [← ht2]; simp [eLess, he]), rfl⟩ trivial
theorem spec_EntryLess (a b : Ent) : AFn Try.prog 124 [.agg (a.enc.map .c), .agg (b.enc.map .c)] [] (rb (eLess a b)) [] := by
  refine AFn.introX (E := En 0 md0) (en_ok 0 md0) Try.func124 rfl rfl rfl fun _ _ => ?_
  have fin : ∀ {c : Bool}, c = eLess a b → rb c = rb (eLess a b) := fun h => by rw [h]
  refine Split.mk fun t ht => ?_
  have ht : slt a.key b.key = t := ht
  cases t
  · refine Split.mk fun t ht2 => ?_
    rw [bytes_beq] at ht2
    cases t
    · exact Need.mk ⟨[], _, .same, fin (by simp at ht2; simp [eLess, ht, ht2]), rfl⟩ trivial
    · refine Split.mk fun t ht3 => ?_
      exact Need.mk ⟨[], _, .same, fin (by rw [← ht3]; simp at ht2; simp [eLess, ht2, slt_irr]), rfl⟩ trivial
  · exact Need.mk ⟨[], _, .same, fin (by simp [eLess, ht]), rfl⟩ trivial
end Go.Proofs.Yteddoandjgjleaa
