/-
  Contracts of functions, part 1.
-/
import Derived.Test.YteddoandjgjleaaEvB
import Derived.Test.YteddoandjgjleaaProg
import Derived.KernelRfl
namespace Go.Proofs.Yteddoandjgjleaa
open Go Go.Proofs Ev
def tab : List (TypeId × TI) := [
  (2, ⟨1, 8, false, .int .i64, [.int .i64 0], [none], none⟩),
  (3, ⟨1, 8, false, .int .i64, [.int .i64 0], [none], none⟩),
  (4, ⟨1, 1, false, .bool, [.bool false], [none], none⟩),
  (5, ⟨1, 1, false, .int .u8, [.int .u8 0], [none], none⟩),
  (9, ⟨1, 16, false, .str, [.string ⟨#[]⟩], [none], none⟩),
  (12, ⟨1, 8, false, .int .u64, [.int .u64 0], [none], none⟩),
  (20, ⟨1, 16, false, .other, [.nilIface], [none], none⟩),
  (21, ⟨1, 4, false, .int .i32, [.int .i32 0], [none], none⟩),
  (22, ⟨1, 24, false, .slice 82, [nilV], [some 82], none⟩),
  (23, ⟨1, 24, false, .slice 91, [nilV], [some 91], none⟩),
  (24, ⟨1, 24, false, .slice 3, [nilV], [some 3], none⟩),
  (25, ⟨4, 80, true, .struct [(0, 3), (1, 22), (2, 23), (3, 24)], [.int .i64 0, nilV, nilV, nilV], [none, some 82, some 91, some 3], none⟩),
  (26, ⟨4, 80, true, .struct [(0, 3), (1, 22), (2, 23), (3, 24)], [.int .i64 0, nilV, nilV, nilV], [none, some 82, some 91, some 3], none⟩),
  (27, ⟨1, 8, false, .other, [.nilFunc], [none], none⟩),
  (28, ⟨1, 8, false, .other, [.nilFunc], [none], none⟩),
  (29, ⟨1, 8, false, .other, [.nilFunc], [none], none⟩),
  (30, ⟨1, 8, false, .other, [.nilFunc], [none], none⟩),
  (31, ⟨4, 56, true, .struct [(0, 9), (1, 3), (2, 23), (3, 3)], [.string ⟨#[]⟩, .int .i64 0, nilV, .int .i64 0], [none, none, some 91, none], none⟩),
  (32, ⟨4, 56, true, .struct [(0, 9), (1, 3), (2, 23), (3, 3)], [.string ⟨#[]⟩, .int .i64 0, nilV, .int .i64 0], [none, none, some 91, none], none⟩),
  (33, ⟨9, 144, true, .struct [(0, 4), (1, 26), (5, 32)], [.bool false, .int .i64 0, nilV, nilV, nilV, .string ⟨#[]⟩, .int .i64 0, nilV, .int .i64 0], [none, none, some 82, some 91, some 3, none, none, some 91, none], none⟩),
  (34, ⟨9, 144, true, .struct [(0, 4), (1, 26), (5, 32)], [.bool false, .int .i64 0, nilV, nilV, nilV, .string ⟨#[]⟩, .int .i64 0, nilV, .int .i64 0], [none, none, some 82, some 91, some 3, none, none, some 91, none], none⟩),
  (35, ⟨1, 8, false, .other, [.nilFunc], [none], none⟩),
  (36, ⟨1, 8, false, .other, [.nilFunc], [none], none⟩),
  (37, ⟨1, 8, false, .other, [.nilFunc], [none], none⟩),
  (38, ⟨1, 24, false, .slice 119, [nilV], [some 119], none⟩),
  (39, ⟨1, 24, false, .slice 140, [nilV], [some 140], none⟩),
  (40, ⟨4, 80, true, .struct [(0, 3), (1, 38), (2, 39), (3, 24)], [.int .i64 0, nilV, nilV, nilV], [none, some 119, some 140, some 3], none⟩),
  (41, ⟨4, 80, true, .struct [(0, 3), (1, 38), (2, 39), (3, 24)], [.int .i64 0, nilV, nilV, nilV], [none, some 119, some 140, some 3], none⟩),
  (42, ⟨1, 8, false, .other, [.nilFunc], [none], none⟩),
  (43, ⟨1, 8, false, .other, [.nilFunc], [none], none⟩),
  (44, ⟨1, 8, false, .other, [.nilFunc], [none], none⟩),
  (45, ⟨4, 56, true, .struct [(0, 9), (1, 3), (2, 39), (3, 3)], [.string ⟨#[]⟩, .int .i64 0, nilV, .int .i64 0], [none, none, some 140, none], none⟩),
  (46, ⟨4, 56, true, .struct [(0, 9), (1, 3), (2, 39), (3, 3)], [.string ⟨#[]⟩, .int .i64 0, nilV, .int .i64 0], [none, none, some 140, none], none⟩),
  (47, ⟨9, 144, true, .struct [(0, 4), (1, 41), (5, 46)], [.bool false, .int .i64 0, nilV, nilV, nilV, .string ⟨#[]⟩, .int .i64 0, nilV, .int .i64 0], [none, none, some 119, some 140, some 3, none, none, some 140, none], none⟩),
  (48, ⟨9, 144, true, .struct [(0, 4), (1, 41), (5, 46)], [.bool false, .int .i64 0, nilV, nilV, nilV, .string ⟨#[]⟩, .int .i64 0, nilV, .int .i64 0], [none, none, some 119, some 140, some 3, none, none, some 140, none], none⟩),
  (49, ⟨1, 8, false, .other, [.nilFunc], [none], none⟩),
  (50, ⟨1, 8, false, .other, [.nilFunc], [none], none⟩),
  (51, ⟨1, 8, false, .other, [.nilFunc], [none], none⟩),
  (52, ⟨2, 32, true, .struct [(0, 38), (1, 3)], [nilV, .int .i64 0], [some 119, none], none⟩),
  (53, ⟨2, 32, true, .struct [(0, 38), (1, 3)], [nilV, .int .i64 0], [some 119, none], none⟩),
  (54, ⟨1, 8, false, .other, [.nilFunc], [none], none⟩),
  (55, ⟨1, 8, false, .other, [.nilFunc], [none], none⟩),
  (56, ⟨2, 32, true, .struct [(0, 22), (1, 3)], [nilV, .int .i64 0], [some 82, none], none⟩),
  (57, ⟨2, 32, true, .struct [(0, 22), (1, 3)], [nilV, .int .i64 0], [some 82, none], none⟩),
  (58, ⟨1, 8, false, .other, [.nilFunc], [none], none⟩),
  (59, ⟨1, 8, false, .other, [.nilFunc], [none], none⟩),
  (60, ⟨1, 8, false, .other, [.nilFunc], [none], none⟩),
  (61, ⟨1, 24, false, .slice 38, [nilV], [some 38], none⟩),
  (62, ⟨1, 8, false, .other, [.nilFunc], [none], none⟩),
  (63, ⟨1, 8, false, .other, [.nilFunc], [none], none⟩),
  (64, ⟨1, 24, false, .slice 22, [nilV], [some 22], none⟩),
  (65, ⟨1, 8, false, .other, [.nilFunc], [none], none⟩),
  (66, ⟨1, 8, false, .other, [.nilFunc], [none], none⟩),
  (67, ⟨1, 8, false, .other, [.nilFunc], [none], none⟩),
  (68, ⟨1, 8, false, .other, [.nilFunc], [none], none⟩),
  (69, ⟨1, 8, false, .other, [.nilFunc], [none], none⟩),
  (70, ⟨1, 8, false, .other, [.nilFunc], [none], none⟩),
  (71, ⟨1, 8, false, .other, [.nilFunc], [none], none⟩),
  (73, ⟨1, 8, false, .other, [.nilFunc], [none], none⟩),
  (74, ⟨1, 8, false, .other, [.nilFunc], [none], none⟩),
  (75, ⟨1, 8, false, .other, [.nilFunc], [none], none⟩),
  (76, ⟨1, 8, false, .other, [.nilFunc], [none], none⟩),
  (77, ⟨1, 8, false, .other, [.nilFunc], [none], none⟩),
  (78, ⟨1, 8, false, .other, [.nilFunc], [none], none⟩),
  (79, ⟨1, 24, false, .slice 5, [nilV], [some 5], none⟩),
  (80, ⟨1, 8, false, .other, [.nilFunc], [none], none⟩),
  (81, ⟨5, 56, true, .struct [(0, 9), (1, 3), (2, 3), (3, 9), (4, 3)], [.string ⟨#[]⟩, .int .i64 0, .int .i64 0, .string ⟨#[]⟩, .int .i64 0], [none, none, none, none, none], some [.str, .int .i64, .int .i64, .str, .int .i64]⟩),
  (82, ⟨5, 56, true, .struct [(0, 9), (1, 3), (2, 3), (3, 9), (4, 3)], [.string ⟨#[]⟩, .int .i64 0, .int .i64 0, .string ⟨#[]⟩, .int .i64 0], [none, none, none, none, none], some [.str, .int .i64, .int .i64, .str, .int .i64]⟩),
  (83, ⟨1, 8, false, .other, [.nilFunc], [none], none⟩),
  (84, ⟨1, 8, false, .other, [.nilFunc], [none], none⟩),
  (85, ⟨1, 8, false, .other, [.nilFunc], [none], none⟩),
  (87, ⟨1, 8, false, .other, [.nilFunc], [none], none⟩),
  (88, ⟨1, 8, false, .other, [.nilFunc], [none], none⟩),
  (90, ⟨1, 8, false, .other, [.nilFunc], [none], none⟩),
  (91, ⟨1, 24, false, .slice 57, [nilV], [some 57], none⟩),
  (92, ⟨1, 8, false, .other, [.nilFunc], [none], none⟩),
  (93, ⟨1, 8, false, .other, [.nilFunc], [none], none⟩),
  (94, ⟨1, 8, false, .other, [.nilFunc], [none], none⟩),
  (95, ⟨1, 8, false, .other, [.nilFunc], [none], none⟩),
  (96, ⟨1, 8, false, .other, [.nilFunc], [none], none⟩),
  (97, ⟨1, 8, false, .other, [.nilFunc], [none], none⟩),
  (98, ⟨1, 8, false, .other, [.nilFunc], [none], none⟩),
  (99, ⟨1, 8, false, .other, [.nilFunc], [none], none⟩),
  (100, ⟨1, 8, false, .other, [.nilFunc], [none], none⟩),
  (101, ⟨1, 8, false, .other, [.nilFunc], [none], none⟩),
  (102, ⟨1, 8, false, .other, [.nilFunc], [none], none⟩),
  (103, ⟨1, 8, false, .other, [.nilFunc], [none], none⟩),
  (104, ⟨1, 8, false, .other, [.nilFunc], [none], none⟩),
  (105, ⟨1, 8, false, .other, [.nilFunc], [none], none⟩),
  (106, ⟨1, 8, false, .other, [.nilFunc], [none], none⟩),
  (107, ⟨1, 24, false, .slice 112, [nilV], [some 112], none⟩),
  (108, ⟨1, 24, false, .slice 112, [nilV], [some 112], none⟩),
  (109, ⟨1, 8, false, .other, [.nilFunc], [none], none⟩),
  (110, ⟨1, 8, false, .other, [.nilFunc], [none], none⟩),
  (111, ⟨2, 32, true, .struct [(0, 22), (1, 3)], [nilV, .int .i64 0], [some 82, none], none⟩),
  (112, ⟨2, 32, true, .struct [(0, 22), (1, 3)], [nilV, .int .i64 0], [some 82, none], none⟩),
  (113, ⟨1, 8, false, .other, [.nilFunc], [none], none⟩),
  (114, ⟨1, 8, false, .ptr, [.pointer none], [none], none⟩),
  (115, ⟨1, 8, false, .other, [.nilFunc], [none], none⟩),
  (116, ⟨1, 8, false, .other, [.nilFunc], [none], none⟩),
  (117, ⟨1, 8, false, .other, [.nilFunc], [none], none⟩),
  (118, ⟨1, 8, false, .other, [.nilFunc], [none], none⟩),
  (119, ⟨5, 56, true, .struct [(0, 9), (1, 3), (2, 3), (3, 9), (4, 3)], [.string ⟨#[]⟩, .int .i64 0, .int .i64 0, .string ⟨#[]⟩, .int .i64 0], [none, none, none, none, none], some [.str, .int .i64, .int .i64, .str, .int .i64]⟩),
  (120, ⟨1, 8, false, .other, [.nilFunc], [none], none⟩),
  (121, ⟨1, 8, false, .other, [.nilFunc], [none], none⟩),
  (122, ⟨1, 8, false, .other, [.nilFunc], [none], none⟩),
  (123, ⟨1, 8, false, .other, [.nilFunc], [none], none⟩),
  (124, ⟨1, 8, false, .other, [.nilFunc], [none], none⟩),
  (125, ⟨1, 8, false, .other, [.nilFunc], [none], none⟩),
  (126, ⟨1, 8, false, .other, [.nilFunc], [none], none⟩),
  (127, ⟨1, 8, false, .ptr, [.pointer none], [none], none⟩),
  (128, ⟨1, 8, false, .other, [.nilFunc], [none], none⟩),
  (129, ⟨1, 8, false, .other, [.nilFunc], [none], none⟩),
  (130, ⟨1, 8, false, .other, [.nilFunc], [none], none⟩),
  (131, ⟨1, 8, false, .other, [.nilFunc], [none], none⟩),
  (132, ⟨1, 8, false, .other, [.nilFunc], [none], none⟩),
  (133, ⟨1, 8, false, .other, [.nilFunc], [none], none⟩),
  (134, ⟨1, 8, false, .other, [.nilFunc], [none], none⟩),
  (135, ⟨1, 8, false, .other, [.nilFunc], [none], none⟩),
  (136, ⟨1, 24, false, .slice 9, [nilV], [some 9], none⟩),
  (137, ⟨1, 8, false, .other, [.nilFunc], [none], none⟩),
  (138, ⟨1, 8, false, .other, [.nilFunc], [none], none⟩),
  (139, ⟨1, 8, false, .other, [.nilFunc], [none], none⟩),
  (140, ⟨1, 24, false, .slice 53, [nilV], [some 53], none⟩),
  (141, ⟨1, 8, false, .other, [.nilFunc], [none], none⟩),
  (142, ⟨1, 8, false, .other, [.nilFunc], [none], none⟩),
  (143, ⟨1, 8, false, .other, [.nilFunc], [none], none⟩),
  (144, ⟨1, 8, false, .other, [.nilFunc], [none], none⟩),
  (145, ⟨1, 8, false, .other, [.nilFunc], [none], none⟩),
  (146, ⟨1, 8, false, .other, [.nilFunc], [none], none⟩),
  (147, ⟨1, 16, false, .other, [.nilIface], [none], none⟩),
  (148, ⟨1, 16, false, .other, [.nilIface], [none], none⟩),
  (149, ⟨1, 8, false, .other, [.nilFunc], [none], none⟩),
  (150, ⟨1, 8, false, .other, [.nilFunc], [none], none⟩),
  (151, ⟨1, 8, false, .other, [.nilFunc], [none], none⟩),
  (152, ⟨1, 8, false, .other, [.nilFunc], [none], none⟩),
  (153, ⟨1, 8, false, .other, [.nilFunc], [none], none⟩),
  (154, ⟨1, 8, false, .int .u64, [.int .u64 0], [none], none⟩),
  (155, ⟨2, 32, true, .struct [(0, 79), (1, 3)], [nilV, .int .i64 0], [some 5, none], none⟩),
  (156, ⟨2, 32, true, .struct [(0, 79), (1, 3)], [nilV, .int .i64 0], [some 5, none], none⟩),
  (157, ⟨1, 8, false, .other, [.nilFunc], [none], none⟩),
  (158, ⟨1, 8, false, .other, [.nilFunc], [none], none⟩),
  (159, ⟨1, 8, false, .other, [.nilFunc], [none], none⟩),
  (160, ⟨1, 8, false, .other, [.nilFunc], [none], none⟩),
  (161, ⟨1, 8, false, .other, [.nilFunc], [none], none⟩),
  (162, ⟨1, 8, false, .other, [.nilFunc], [none], none⟩),
  (163, ⟨1, 8, false, .other, [.nilFunc], [none], none⟩),
  (164, ⟨1, 8, false, .other, [.nilFunc], [none], none⟩),
  (165, ⟨4, 40, true, .struct [(0, 17), (1, 17), (2, 17), (3, 9)], [.pointer none, .pointer none, .pointer none, .string ⟨#[]⟩], [none, none, none, none], none⟩),
  (166, ⟨4, 40, true, .struct [(0, 17), (1, 17), (2, 17), (3, 9)], [.pointer none, .pointer none, .pointer none, .string ⟨#[]⟩], [none, none, none, none], none⟩),
  (170, ⟨1, 4, false, .int .u32, [.int .u32 0], [none], none⟩),
  (171, ⟨1, 1, false, .int .u8, [.int .u8 0], [none], none⟩),
  (172, ⟨1, 1, false, .int .u8, [.int .u8 0], [none], none⟩),
  (173, ⟨1, 8, false, .other, [.nilFunc], [none], none⟩),
  (174, ⟨1, 8, false, .ptr, [.pointer none], [none], none⟩),
  (175, ⟨1, 4, false, .int .i32, [.int .i32 0], [none], none⟩),
  (176, ⟨1, 4, false, .int .i32, [.int .i32 0], [none], none⟩),
  (177, ⟨11, 48, true, .struct [(0, 12), (1, 12), (2, 170), (3, 171), (4, 5), (5, 5), (6, 172), (7, 173), (8, 174), (9, 175), (10, 176)], [.int .u64 0, .int .u64 0, .int .u32 0, .int .u8 0, .int .u8 0, .int .u8 0, .int .u8 0, .nilFunc, .pointer none, .int .i32 0, .int .i32 0], [none, none, none, none, none, none, none, none, none, none, none], none⟩),
  (178, ⟨11, 48, true, .struct [(0, 12), (1, 12), (2, 170), (3, 171), (4, 5), (5, 5), (6, 172), (7, 173), (8, 174), (9, 175), (10, 176)], [.int .u64 0, .int .u64 0, .int .u32 0, .int .u8 0, .int .u8 0, .int .u8 0, .int .u8 0, .nilFunc, .pointer none, .int .i32 0, .int .i32 0], [none, none, none, none, none, none, none, none, none, none, none], none⟩),
  (179, ⟨1, 8, false, .other, [.nilFunc], [none], none⟩),
  (180, ⟨1, 8, false, .other, [.nilFunc], [none], none⟩),
  (181, ⟨1, 8, false, .other, [.pointer none], [none], none⟩),
  (182, ⟨1, 8, false, .int .u64, [.int .u64 0], [none], none⟩)]
set_option maxRecDepth 100000
theorem tab_ok : tabB Try.prog tab = true := by kernel_rfl
theorem mixed : Try.prog.follows .mixedOrders = true := by kernel_rfl
noncomputable def En (m : Nat) (md : FuncId → Nat) (cb : List Nat := []) : Env := ⟨Try.prog, findT tab, md, m, cb⟩
theorem en_ok (m : Nat) (md : FuncId → Nat) (cb : List Nat := []) : EOk (En m md cb) := eok_of tab_ok mixed
def md0 : FuncId → Nat := fun _ => 0
def md1 (l : List FuncId) : FuncId → Nat := fun f => bif l.elem f then 1 else 0
end Go.Proofs.Yteddoandjgjleaa

namespace Go.Proofs.Yteddoandjgjleaa
open Go Go.Proofs Ev
set_option maxRecDepth 100000
theorem spec_l4Same (a b : List Ent) : AFn Try.prog 74 [sl (a.map Ent.enc), sl (b.map Ent.enc)] [] (rb (decide (a = b))) [] := by
  refine AFn.introX (E := En 0 md0) (en_ok 0 md0) Try.func74 rfl rfl rfl fun hs _ => ?_
  have ha := Small.len (hs _ (List.mem_cons_self ..))
  rw [List.length_map] at ha
  have fin : ∀ {c : Bool}, c = decide (a = b) → rb c = rb (decide (a = b)) := fun h => by rw [h]
  refine Split.mk fun t ht => ?_
  cases t
  · have hl : a.length = b.length := Int.ofNat_inj.1 (by simpa using ht)
    refine ALoop.mk (fun n s => ∃ i : Nat, i ≤ a.length ∧ n = a.length - i ∧ a.take i = b.take i ∧
      s = ⟨some (sl (a.map Ent.enc)) :: some (sl (b.map Ent.enc)) :: none :: none :: some (av (.bool false)) :: some (av (.int .i64 i)) :: List.replicate 20 none, List.replicate 26 absent⟩)
      ⟨a.length, _, Weak.nrm [true, true, false, false, true, true] [] rfl rfl rfl, 0, Nat.zero_le _, rfl, rfl, rfl⟩ ?_
    rintro n s ⟨i, hi, rfl, hp, rfl⟩
    refine Split.mk fun t ht => ?_
    cases t
    · have hia : i = a.length := by simp at ht; omega
      refine Need.mk ⟨[], _, .same, fin ?_, rfl⟩ trivial
      subst hia
      rw [List.take_length, hl, List.take_length] at hp
      simp [hp]
    · have hia : i < a.length := by simpa using ht
      refine Need.mk (by omega) ?_
      refine Row.mk _ (map_get _ a i hia) ?_
      refine Need.mk (by omega) ?_
      refine Row.mk _ (map_get _ b i (by omega)) ?_
      refine Split.mk fun t ht2 => ?_
      have ht2 : (!decide (a[i] = b[i]'(by omega))) = t := by rw [← ent_beq]; exact ht2
      cases t
      · refine Need.mk rfl ?_
        refine Num.mk _ (wrapS (by omega)) ?_
        refine ⟨a.length - (i + 1), _, by omega, Weak.nrm [true, true, false, false, true, true] [] rfl rfl rfl, i + 1, by omega, rfl, ?_, rfl⟩
        have : a[i] = b[i]'(by omega) := by simpa using ht2
        rw [List.take_succ_eq_append_getElem hia, List.take_succ_eq_append_getElem (by omega), hp, this]
      · refine Need.mk rfl ?_
        refine Need.mk ⟨[], _, .same, fin ?_, rfl⟩ trivial
        have : a[i] ≠ b[i]'(by omega) := by simpa using ht2
        refine (decide_eq_false fun e => this ?_).symm
        subst e; rfl
  · refine Need.mk ⟨[], _, .same, fin ?_, rfl⟩ trivial
    have : a.length ≠ b.length := by
      intro e; simp [e] at ht
    exact (decide_eq_false fun e => this (by rw [e])).symm
theorem spec_l5Ints (a b : List Int) : AFn Try.prog 76 [sl (a.map encI), sl (b.map encI)] [] (rb (decide (a = b))) [] := by
  refine AFn.introX (E := En 0 md0) (en_ok 0 md0) Try.func76 rfl rfl rfl fun hs _ => ?_
  have ha := Small.len (hs _ (List.mem_cons_self ..))
  rw [List.length_map] at ha
  have fin : ∀ {c : Bool}, c = decide (a = b) → rb c = rb (decide (a = b)) := fun h => by rw [h]
  refine Split.mk fun t ht => ?_
  cases t
  · have hl : a.length = b.length := Int.ofNat_inj.1 (by simpa using ht)
    refine ALoop.mk (fun n s => ∃ i : Nat, i ≤ a.length ∧ n = a.length - i ∧ a.take i = b.take i ∧
      s = ⟨some (sl (a.map encI)) :: some (sl (b.map encI)) :: none :: none :: some (av (.bool false)) :: some (av (.int .i64 i)) :: List.replicate 20 none, List.replicate 26 absent⟩)
      ⟨a.length, _, Weak.nrm [true, true, false, false, true, true] [] rfl rfl rfl, 0, Nat.zero_le _, rfl, rfl, rfl⟩ ?_
    rintro n s ⟨i, hi, rfl, hp, rfl⟩
    refine Split.mk fun t ht => ?_
    cases t
    · have hia : i = a.length := by simp at ht; omega
      refine Need.mk ⟨[], _, .same, fin ?_, rfl⟩ trivial
      subst hia
      rw [List.take_length, hl, List.take_length] at hp
      simp [hp]
    · have hia : i < a.length := by simpa using ht
      refine Need.mk (by omega) ?_
      refine Row.mk _ (map_get _ a i hia) ?_
      refine Need.mk (by omega) ?_
      refine Row.mk _ (map_get _ b i (by omega)) ?_
      refine Split.mk fun t ht2 => ?_
      have ht2 : (!decide (a[i] = b[i]'(by omega))) = t := by rw [← ht2, bne, Bool.not_inj_iff, Bool.eq_iff_iff]; simp
      cases t
      · refine Need.mk rfl ?_
        refine Num.mk _ (wrapS (by omega)) ?_
        refine ⟨a.length - (i + 1), _, by omega, Weak.nrm [true, true, false, false, true, true] [] rfl rfl rfl, i + 1, by omega, rfl, ?_, rfl⟩
        have : a[i] = b[i]'(by omega) := by simpa using ht2
        rw [List.take_succ_eq_append_getElem hia, List.take_succ_eq_append_getElem (by omega), hp, this]
      · refine Need.mk rfl ?_
        refine Need.mk ⟨[], _, .same, fin ?_, rfl⟩ trivial
        have : a[i] ≠ b[i]'(by omega) := by simpa using ht2
        refine (decide_eq_false fun e => this ?_).symm
        subst e; rfl
  · refine Need.mk ⟨[], _, .same, fin ?_, rfl⟩ trivial
    have : a.length ≠ b.length := by
      intro e; simp [e] at ht
    exact (decide_eq_false fun e => this (by rw [e])).symm
end Go.Proofs.Yteddoandjgjleaa

namespace Go.Proofs.Yteddoandjgjleaa
open Go Go.Proofs Ev
set_option maxRecDepth 100000
theorem slices_EqualE (a b : List Ent) : AFn Try.prog 79 [sl (a.map Ent.enc), sl (b.map Ent.enc)] [] (rb (decide (a = b))) [] := by
  refine AFn.introX (E := En 0 md0) (en_ok 0 md0) Try.func79 rfl rfl rfl fun hs _ => ?_
  have ha := Small.len (hs _ (List.mem_cons_self ..))
  rw [List.length_map] at ha
  have fin : ∀ {c : Bool}, c = decide (a = b) → rb c = rb (decide (a = b)) := fun h => by rw [h]
  refine Split.mk fun t ht => ?_
  cases t
  · have hl : a.length = b.length := Int.ofNat_inj.1 (by simpa using ht)
    refine ALoop.mk (fun n s => ∃ i : Nat, i ≤ a.length ∧ n = a.length - i ∧ a.take i = b.take i ∧
      s = ⟨some (sl (a.map Ent.enc)) :: some (sl (b.map Ent.enc)) :: none :: none :: some (av (.bool false)) :: none :: none :: none :: none :: none :: none :: none :: some (av (.int .i64 a.length)) :: some (av (.int .i64 i)) :: List.replicate 12 none, List.replicate 26 absent⟩)
      ⟨a.length, _, Weak.nrm [true, true, false, false, true, false, false, false, false, false, false, false, true, true] [] rfl rfl rfl, 0, Nat.zero_le _, rfl, rfl, by rw [show ((a.length : Nat) : Int) = ((a.map Ent.enc).length : Nat) by rw [List.length_map]]; rfl⟩ ?_
    rintro n s ⟨i, hi, rfl, hp, rfl⟩
    refine Split.mk fun t ht => ?_
    cases t
    · have hia : i = a.length := by simp at ht; omega
      refine Need.mk ⟨[], _, .same, fin ?_, rfl⟩ trivial
      subst hia
      rw [List.take_length, hl, List.take_length] at hp
      simp [hp]
    · have hia : i < a.length := by simpa using ht
      refine Need.mk (by omega) ?_
      refine Row.mk _ (map_get _ a i hia) ?_
      refine Need.mk (by omega) ?_
      refine Row.mk _ (map_get _ b i (by omega)) ?_
      refine Split.mk fun t ht2 => ?_
      have ht2 : (!decide (a[i] = b[i]'(by omega))) = t := by rw [← ent_beq]; exact ht2
      cases t
      · refine Need.mk rfl ?_
        refine Num.mk _ (wrapS (by omega)) ?_
        refine ⟨a.length - (i + 1), _, by omega, Weak.nrm [true, true, false, false, true, false, false, false, false, false, false, false, true, true] [] rfl rfl rfl, i + 1, by omega, rfl, ?_, rfl⟩
        have : a[i] = b[i]'(by omega) := by simpa using ht2
        rw [List.take_succ_eq_append_getElem hia, List.take_succ_eq_append_getElem (by omega), hp, this]
      · refine Need.mk rfl ?_
        refine Need.mk ⟨[], _, .same, fin ?_, rfl⟩ trivial
        have : a[i] ≠ b[i]'(by omega) := by simpa using ht2
        refine (decide_eq_false fun e => this ?_).symm
        subst e; rfl
  · refine Need.mk ⟨[], _, .same, fin ?_, rfl⟩ trivial
    have : a.length ≠ b.length := by
      intro e; simp [e] at ht
    exact (decide_eq_false fun e => this (by rw [e])).symm
theorem slices_EqualI (a b : List Int) : AFn Try.prog 81 [sl (a.map encI), sl (b.map encI)] [] (rb (decide (a = b))) [] := by
  refine AFn.introX (E := En 0 md0) (en_ok 0 md0) Try.func81 rfl rfl rfl fun hs _ => ?_
  have ha := Small.len (hs _ (List.mem_cons_self ..))
  rw [List.length_map] at ha
  have fin : ∀ {c : Bool}, c = decide (a = b) → rb c = rb (decide (a = b)) := fun h => by rw [h]
  refine Split.mk fun t ht => ?_
  cases t
  · have hl : a.length = b.length := Int.ofNat_inj.1 (by simpa using ht)
    refine ALoop.mk (fun n s => ∃ i : Nat, i ≤ a.length ∧ n = a.length - i ∧ a.take i = b.take i ∧
      s = ⟨some (sl (a.map encI)) :: some (sl (b.map encI)) :: none :: none :: some (av (.bool false)) :: none :: none :: none :: none :: none :: none :: none :: some (av (.int .i64 a.length)) :: some (av (.int .i64 i)) :: List.replicate 12 none, List.replicate 26 absent⟩)
      ⟨a.length, _, Weak.nrm [true, true, false, false, true, false, false, false, false, false, false, false, true, true] [] rfl rfl rfl, 0, Nat.zero_le _, rfl, rfl, by rw [show ((a.length : Nat) : Int) = ((a.map encI).length : Nat) by rw [List.length_map]]; rfl⟩ ?_
    rintro n s ⟨i, hi, rfl, hp, rfl⟩
    refine Split.mk fun t ht => ?_
    cases t
    · have hia : i = a.length := by simp at ht; omega
      refine Need.mk ⟨[], _, .same, fin ?_, rfl⟩ trivial
      subst hia
      rw [List.take_length, hl, List.take_length] at hp
      simp [hp]
    · have hia : i < a.length := by simpa using ht
      refine Need.mk (by omega) ?_
      refine Row.mk _ (map_get _ a i hia) ?_
      refine Need.mk (by omega) ?_
      refine Row.mk _ (map_get _ b i (by omega)) ?_
      refine Split.mk fun t ht2 => ?_
      have ht2 : (!decide (a[i] = b[i]'(by omega))) = t := by rw [← ht2, bne, Bool.not_inj_iff, Bool.eq_iff_iff]; simp
      cases t
      · refine Need.mk rfl ?_
        refine Num.mk _ (wrapS (by omega)) ?_
        refine ⟨a.length - (i + 1), _, by omega, Weak.nrm [true, true, false, false, true, false, false, false, false, false, false, false, true, true] [] rfl rfl rfl, i + 1, by omega, rfl, ?_, rfl⟩
        have : a[i] = b[i]'(by omega) := by simpa using ht2
        rw [List.take_succ_eq_append_getElem hia, List.take_succ_eq_append_getElem (by omega), hp, this]
      · refine Need.mk rfl ?_
        refine Need.mk ⟨[], _, .same, fin ?_, rfl⟩ trivial
        have : a[i] ≠ b[i]'(by omega) := by simpa using ht2
        refine (decide_eq_false fun e => this ?_).symm
        subst e; rfl
  · refine Need.mk ⟨[], _, .same, fin ?_, rfl⟩ trivial
    have : a.length ≠ b.length := by
      intro e; simp [e] at ht
    exact (decide_eq_false fun e => this (by rw [e])).symm
end Go.Proofs.Yteddoandjgjleaa

namespace Go.Proofs.Yteddoandjgjleaa
open Go Go.Proofs Ev
set_option maxRecDepth 100000
theorem spec_RunSame (a b : Rn) : AFn Try.prog 60 [.agg (a.enc.map .c), .agg (b.enc.map .c)] [] (rb (decide (a = b))) [] := by
  refine AFn.introX (E := En 0 md0) (en_ok 0 md0) Try.func60 rfl rfl rfl fun _ _ => ?_
  have fin : ∀ {c : Bool}, c = decide (a = b) → rb c = rb (decide (a = b)) := fun h => by rw [h]
  refine Split.mk fun t ht => ?_
  cases t
  · exact Need.mk ⟨[], _, .same, fin (by cases a; cases b; simp_all), rfl⟩ trivial
  · refine ACall.mk _ _ (spec_l4Same a.ents b.ents) ?_
    refine Split.mk fun t ht1 => ?_
    exact Need.mk ⟨[], _, .same, fin (by cases a; cases b; simp_all), rfl⟩ trivial
theorem impl_RunSame (a b : Rn) : AFn Try.prog 55 [.agg (a.enc.map .c), .agg (b.enc.map .c)] [] (rb (decide (a = b))) [] := by
  refine AFn.introX (E := En 0 md0) (en_ok 0 md0) Try.func55 rfl rfl rfl fun _ _ => ?_
  have fin : ∀ {c : Bool}, c = decide (a = b) → rb c = rb (decide (a = b)) := fun h => by rw [h]
  refine Split.mk fun t ht => ?_
  cases t
  · exact Need.mk ⟨[], _, .same, fin (by cases a; cases b; simp_all), rfl⟩ trivial
  · refine ACall.mk _ _ (slices_EqualE a.ents b.ents) ?_
    refine Split.mk fun t ht1 => ?_
    exact Need.mk ⟨[], _, .same, fin (by cases a; cases b; simp_all), rfl⟩ trivial
end Go.Proofs.Yteddoandjgjleaa

namespace Go.Proofs.Yteddoandjgjleaa
open Go Go.Proofs Ev
set_option maxRecDepth 100000
theorem slices_EqualFuncR (a b : List Rn) : AFn Try.prog 122 [sl (a.map Rn.enc), sl (b.map Rn.enc), av (.func (.func 55) #[] #[])] [] (rb (decide (a = b))) [] := by
  refine AFn.introX (E := En 0 md0) (en_ok 0 md0) Try.func122 rfl rfl rfl fun hs _ => ?_
  have ha := Small.len (hs _ (List.mem_cons_self ..))
  rw [List.length_map] at ha
  have fin : ∀ {c : Bool}, c = decide (a = b) → rb c = rb (decide (a = b)) := fun h => by rw [h]
  refine Split.mk fun t ht => ?_
  cases t
  · have hl : a.length = b.length := Int.ofNat_inj.1 (by simpa using ht)
    refine ALoop.mk (fun n s => ∃ i : Nat, i ≤ a.length ∧ n = a.length - i ∧ a.take i = b.take i ∧
      s = ⟨some (sl (a.map Rn.enc)) :: some (sl (b.map Rn.enc)) :: some (av (.func (.func 55) #[] #[])) :: none :: none :: none :: some (av (.bool false)) :: none :: none :: none :: none :: none :: none :: none :: none :: some (sl (a.map Rn.enc)) :: some (av (.int .i64 a.length)) :: some (av (.int .i64 i)) :: List.replicate 14 none, List.replicate 32 absent⟩)
      ⟨a.length, _, Weak.nrm [true, true, true, false, false, false, true, false, false, false, false, false, false, false, false, true, true, true] [] rfl rfl rfl, 0, Nat.zero_le _, rfl, rfl, by rw [show ((a.length : Nat) : Int) = ((a.map Rn.enc).length : Nat) by rw [List.length_map]]; rfl⟩ ?_
    rintro n s ⟨i, hi, rfl, hp, rfl⟩
    refine Split.mk fun t ht => ?_
    cases t
    · have hia : i = a.length := by simp at ht; omega
      refine Need.mk ⟨[], _, .same, fin ?_, rfl⟩ trivial
      subst hia
      rw [List.take_length, hl, List.take_length] at hp
      simp [hp]
    · have hia : i < a.length := by simpa using ht
      refine Need.mk (by omega) ?_
      refine Row.mk _ (map_get _ a i hia) ?_
      refine Need.mk (by omega) ?_
      refine Row.mk _ (map_get _ b i (by omega)) ?_
      refine ACall.mk _ _ (impl_RunSame a[i] (b[i]'(by omega))) ?_
      refine Split.mk fun t ht2 => ?_
      cases t
      · refine Need.mk ⟨[], _, .same, fin ?_, rfl⟩ trivial
        have : a[i] ≠ b[i]'(by omega) := by simpa using ht2
        refine (decide_eq_false fun e => this ?_).symm
        subst e; rfl
      · refine Num.mk _ (wrapS (by omega)) ?_
        refine ⟨a.length - (i + 1), _, by omega, Weak.nrm [true, true, true, false, false, false, true, false, false, false, false, false, false, false, false, true, true, true] [] rfl rfl rfl, i + 1, by omega, rfl, ?_, rfl⟩
        have : a[i] = b[i]'(by omega) := by simpa using ht2
        rw [List.take_succ_eq_append_getElem hia, List.take_succ_eq_append_getElem (by omega), hp, this]
  · refine Need.mk ⟨[], _, .same, fin ?_, rfl⟩ trivial
    have : a.length ≠ b.length := by
      intro e; simp [e] at ht
    exact (decide_eq_false fun e => this (by rw [e])).symm
theorem impl_levelsSame1 (a b : List Rn) : AFn Try.prog 121 [sl (a.map Rn.enc), sl (b.map Rn.enc)] [] (rb (decide (a = b))) [] := by
  refine AFn.introX (E := En 0 md0) (en_ok 0 md0) Try.func121 rfl rfl rfl fun _ _ => ?_
  refine ACall.mk _ _ (slices_EqualFuncR a b) ?_
  refine Split.mk fun t ht => ?_
  exact Need.mk ⟨[], _, .same, by rw [ht]; rfl, rfl⟩ trivial
theorem slices_EqualFuncRR (a b : List (List Rn)) : AFn Try.prog 120 [sl (a.map encL), sl (b.map encL), av (.func (.func 121) #[] #[])] [] (rb (decide (a = b))) [] := by
  refine AFn.introX (E := En 0 md0) (en_ok 0 md0) Try.func120 rfl rfl rfl fun hs _ => ?_
  have ha := Small.len (hs _ (List.mem_cons_self ..))
  rw [List.length_map] at ha
  have fin : ∀ {c : Bool}, c = decide (a = b) → rb c = rb (decide (a = b)) := fun h => by rw [h]
  refine Split.mk fun t ht => ?_
  cases t
  · have hl : a.length = b.length := Int.ofNat_inj.1 (by simpa using ht)
    refine ALoop.mk (fun n s => ∃ i : Nat, i ≤ a.length ∧ n = a.length - i ∧ a.take i = b.take i ∧
      s = ⟨some (sl (a.map encL)) :: some (sl (b.map encL)) :: some (av (.func (.func 121) #[] #[])) :: none :: none :: none :: some (av (.bool false)) :: none :: none :: none :: none :: none :: none :: none :: none :: some (sl (a.map encL)) :: some (av (.int .i64 a.length)) :: some (av (.int .i64 i)) :: List.replicate 14 none, List.replicate 32 absent⟩)
      ⟨a.length, _, Weak.nrm [true, true, true, false, false, false, true, false, false, false, false, false, false, false, false, true, true, true] [] rfl rfl rfl, 0, Nat.zero_le _, rfl, rfl, by rw [show ((a.length : Nat) : Int) = ((a.map encL).length : Nat) by rw [List.length_map]]; rfl⟩ ?_
    rintro n s ⟨i, hi, rfl, hp, rfl⟩
    refine Split.mk fun t ht => ?_
    cases t
    · have hia : i = a.length := by simp at ht; omega
      refine Need.mk ⟨[], _, .same, fin ?_, rfl⟩ trivial
      subst hia
      rw [List.take_length, hl, List.take_length] at hp
      simp [hp]
    · have hia : i < a.length := by simpa using ht
      refine Need.mk (by omega) ?_
      refine Row.mk _ (map_get _ a i hia) ?_
      refine Need.mk (by omega) ?_
      refine Row.mk _ (map_get _ b i (by omega)) ?_
      refine ACall.mk _ _ (impl_levelsSame1 a[i] (b[i]'(by omega))) ?_
      refine Split.mk fun t ht2 => ?_
      cases t
      · refine Need.mk ⟨[], _, .same, fin ?_, rfl⟩ trivial
        have : a[i] ≠ b[i]'(by omega) := by simpa using ht2
        refine (decide_eq_false fun e => this ?_).symm
        subst e; rfl
      · refine Num.mk _ (wrapS (by omega)) ?_
        refine ⟨a.length - (i + 1), _, by omega, Weak.nrm [true, true, true, false, false, false, true, false, false, false, false, false, false, false, false, true, true, true] [] rfl rfl rfl, i + 1, by omega, rfl, ?_, rfl⟩
        have : a[i] = b[i]'(by omega) := by simpa using ht2
        rw [List.take_succ_eq_append_getElem hia, List.take_succ_eq_append_getElem (by omega), hp, this]
  · refine Need.mk ⟨[], _, .same, fin ?_, rfl⟩ trivial
    have : a.length ≠ b.length := by
      intro e; simp [e] at ht
    exact (decide_eq_false fun e => this (by rw [e])).symm
theorem impl_levelsSame (a b : List (List Rn)) : AFn Try.prog 80 [sl (a.map encL), sl (b.map encL)] [] (rb (decide (a = b))) [] := by
  refine AFn.introX (E := En 0 md0) (en_ok 0 md0) Try.func80 rfl rfl rfl fun _ _ => ?_
  refine ACall.mk _ _ (slices_EqualFuncRR a b) ?_
  refine Split.mk fun t ht => ?_
  exact Need.mk ⟨[], _, .same, by rw [ht]; rfl, rfl⟩ trivial
end Go.Proofs.Yteddoandjgjleaa

namespace Go.Proofs.Yteddoandjgjleaa
open Go Go.Proofs Ev
set_option maxRecDepth 100000
theorem spec_l5Levels (a b : List (List Rn)) : AFn Try.prog 75 [sl (a.map encL), sl (b.map encL)] [] (rb (decide (a = b))) [] := by
  refine AFn.introX (E := En 0 md0) (en_ok 0 md0) Try.func75 rfl rfl rfl fun hs _ => ?_
  have hsa := hs _ (List.mem_cons_self ..)
  have ha := Small.len hsa
  rw [List.length_map] at ha
  have hal : ∀ i (h : i < a.length), a[i].length ≤ 9223372036854775807 := fun i h => by
    cases hsa with
    | sl _ ih =>
      have := Small.len (ih (encL a[i]) (List.mem_map.2 ⟨_, List.getElem_mem h, rfl⟩) _ (List.mem_cons_self ..))
      rwa [List.length_map] at this
  have fin : ∀ {c : Bool}, c = decide (a = b) → rb c = rb (decide (a = b)) := fun h => by rw [h]
  refine Split.mk fun t ht => ?_
  cases t
  · have hl : a.length = b.length := Int.ofNat_inj.1 (by simpa using ht)
    refine ALoop.mk (fun n s => ∃ i : Nat, i ≤ a.length ∧ n = a.length - i ∧ a.take i = b.take i ∧
      s = ⟨some (sl (a.map encL)) :: some (sl (b.map encL)) :: none :: none :: some (av (.bool false)) :: some (av (.int .i64 i)) :: List.replicate 48 none, List.replicate 54 absent⟩)
      ⟨a.length, _, Weak.nrm [true, true, false, false, true, true] [] rfl rfl rfl, 0, Nat.zero_le _, rfl, rfl, rfl⟩ ?_
    rintro n s ⟨i, hi, rfl, hp, rfl⟩
    refine Split.mk fun t ht => ?_
    cases t
    · have hia : i = a.length := by simp at ht; omega
      refine Need.mk ⟨[], _, .same, fin ?_, rfl⟩ trivial
      subst hia
      rw [List.take_length, hl, List.take_length] at hp
      simp [hp]
    · have hia : i < a.length := by simpa using ht
      have hib : i < b.length := by omega
      refine Need.mk (by omega) ?_
      refine Row.mk _ (map_get _ a i hia) ?_
      refine Need.mk (by omega) ?_
      refine Row.mk _ (map_get _ b i hib) ?_
      refine Split.mk fun t ht2 => ?_
      cases t
      · have hl2 : a[i].length = b[i].length := Int.ofNat_inj.1 (by simpa using ht2)
        refine Need.mk rfl ?_
        refine ALoop.mk (fun n s => ∃ k : Nat, k ≤ a[i].length ∧ n = a[i].length - k ∧ a[i].take k = b[i].take k ∧
          s = ⟨some (sl (a.map encL)) :: some (sl (b.map encL)) :: none :: none :: some (av (.bool false)) :: some (av (.int .i64 i)) :: some (av (.int .i64 k)) :: List.replicate 47 none, List.replicate 54 absent⟩)
          ⟨a[i].length, _, Weak.nrm [true, true, false, false, true, true, true] [] rfl rfl rfl, 0, Nat.zero_le _, rfl, rfl, rfl⟩ ?_
        rintro n s ⟨k, hk, rfl, hpk, rfl⟩
        refine Need.mk (by omega) ?_
        refine Row.mk _ (map_get _ a i hia) ?_
        refine Split.mk fun t ht3 => ?_
        cases t
        · have hka : k = a[i].length := by simp at ht3; omega
          refine Num.mk _ (wrapS (by omega)) ?_
          refine ⟨a.length - (i + 1), _, by omega, Weak.nrm [true, true, false, false, true, true] [] rfl rfl rfl, i + 1, by omega, rfl, ?_, rfl⟩
          subst hka
          rw [List.take_length, hl2, List.take_length] at hpk
          rw [List.take_succ_eq_append_getElem hia, List.take_succ_eq_append_getElem hib, hp, hpk]
        · have hka : k < a[i].length := by simpa using ht3
          have hkb : k < b[i].length := by omega
          have hkl := hal i hia
          refine Need.mk (by omega) ?_
          refine Row.mk _ (map_get _ a i hia) ?_
          refine Need.mk (by omega) ?_
          refine Row.mk _ (map_get _ a[i] k hka) ?_
          refine Need.mk (by omega) ?_
          refine Row.mk _ (map_get _ b i hib) ?_
          refine Need.mk (by omega) ?_
          refine Row.mk _ (map_get _ b[i] k hkb) ?_
          refine ACall.mk _ _ (spec_RunSame a[i][k] b[i][k]) ?_
          refine Split.mk fun t ht4 => ?_
          cases t
          · refine Need.mk rfl ?_
            refine Need.mk ⟨[], _, .same, fin ?_, rfl⟩ trivial
            have : a[i][k] ≠ b[i][k] := by simpa using ht4
            refine (decide_eq_false fun e => this ?_).symm
            subst e; rfl
          · refine Need.mk rfl ?_
            refine Num.mk _ (wrapS (by omega)) ?_
            refine ⟨a[i].length - (k + 1), _, by omega, Weak.nrm [true, true, false, false, true, true, true] [] rfl rfl rfl, k + 1, by omega, rfl, ?_, rfl⟩
            have : a[i][k] = b[i][k] := by simpa using ht4
            rw [List.take_succ_eq_append_getElem hka, List.take_succ_eq_append_getElem hkb, hpk, this]
      · refine Need.mk rfl ?_
        refine Need.mk ⟨[], _, .same, fin ?_, rfl⟩ trivial
        refine (decide_eq_false fun e => ?_).symm
        subst e; simp at ht2
  · refine Need.mk ⟨[], _, .same, fin ?_, rfl⟩ trivial
    have : a.length ≠ b.length := by
      intro e; simp [e] at ht
    exact (decide_eq_false fun e => this (by rw [e])).symm
theorem spec_TreeSame (a b : Tre) : AFn Try.prog 25 [.agg (a.enc.map .c), .agg (b.enc.map .c)] [] (rb (decide (a = b))) [] := by
  refine AFn.introX (E := En 0 md0) (en_ok 0 md0) Try.func25 rfl rfl rfl fun _ _ => ?_
  have fin : ∀ {c : Bool}, c = decide (a = b) → rb c = rb (decide (a = b)) := fun h => by rw [h]
  refine Split.mk fun t ht => ?_
  cases t
  · exact Need.mk ⟨[], _, .same, fin (by cases a; cases b; simp_all), rfl⟩ trivial
  · refine ACall.mk _ _ (spec_l4Same a.mem b.mem) ?_
    refine Split.mk fun t ht1 => ?_
    cases t
    · exact Need.mk ⟨[], _, .same, fin (by cases a; cases b; simp_all), rfl⟩ trivial
    · refine ACall.mk _ _ (spec_l5Levels a.levels b.levels) ?_
      refine Split.mk fun t ht2 => ?_
      cases t
      · exact Need.mk ⟨[], _, .same, fin (by cases a; cases b; simp_all), rfl⟩ trivial
      · refine ACall.mk _ _ (spec_l5Ints a.snaps b.snaps) ?_
        refine Split.mk fun t ht3 => ?_
        exact Need.mk ⟨[], _, .same, fin (by cases a; cases b; simp_all), rfl⟩ trivial
theorem impl_TreeSame (a b : Tre) : AFn Try.prog 27 [.agg (a.enc.map .c), .agg (b.enc.map .c)] [] (rb (decide (a = b))) [] := by
  refine AFn.introX (E := En 0 md0) (en_ok 0 md0) Try.func27 rfl rfl rfl fun _ _ => ?_
  have fin : ∀ {c : Bool}, c = decide (a = b) → rb c = rb (decide (a = b)) := fun h => by rw [h]
  refine Split.mk fun t ht => ?_
  cases t
  · exact Need.mk ⟨[], _, .same, fin (by cases a; cases b; simp_all), rfl⟩ trivial
  · refine ACall.mk _ _ (slices_EqualE a.mem b.mem) ?_
    refine Split.mk fun t ht1 => ?_
    cases t
    · exact Need.mk ⟨[], _, .same, fin (by cases a; cases b; simp_all), rfl⟩ trivial
    · refine ACall.mk _ _ (impl_levelsSame a.levels b.levels) ?_
      refine Split.mk fun t ht2 => ?_
      cases t
      · exact Need.mk ⟨[], _, .same, fin (by cases a; cases b; simp_all), rfl⟩ trivial
      · refine ACall.mk _ _ (slices_EqualI a.snaps b.snaps) ?_
        refine Split.mk fun t ht3 => ?_
        exact Need.mk ⟨[], _, .same, fin (by cases a; cases b; simp_all), rfl⟩ trivial
end Go.Proofs.Yteddoandjgjleaa

namespace Go.Proofs.Yteddoandjgjleaa
open Go Go.Proofs Ev
set_option maxRecDepth 100000
theorem spec_StoreSame (a b : Sto) : AFn Try.prog 29 [.agg (a.enc.map .c), .agg (b.enc.map .c)] [] (rb (decide (a = b))) [] := by
  refine AFn.introX (E := En 0 md0) (en_ok 0 md0) Try.func29 rfl rfl rfl fun _ _ => ?_
  have fin : ∀ {c : Bool}, c = decide (a = b) → rb c = rb (decide (a = b)) := fun h => by rw [h]
  refine Split.mk fun t ht => ?_
  cases t
  · exact Need.mk ⟨[], _, .same, fin (by obtain ⟨a0, a1, ⟨a2, a3, a4, a5⟩⟩ := a; obtain ⟨b0, b1, ⟨b2, b3, b4, b5⟩⟩ := b; simp_all), rfl⟩ trivial
  · refine ACall.mk _ _ (spec_TreeSame a.tree b.tree) ?_
    refine Split.mk fun t ht1 => ?_
    cases t
    · exact Need.mk ⟨[], _, .same, fin (by obtain ⟨a0, a1, ⟨a2, a3, a4, a5⟩⟩ := a; obtain ⟨b0, b1, ⟨b2, b3, b4, b5⟩⟩ := b; simp_all), rfl⟩ trivial
    · refine Split.mk fun t ht2 => ?_
      rw [bytes_beq] at ht2
      cases t
      · exact Need.mk ⟨[], _, .same, fin (by obtain ⟨a0, a1, ⟨a2, a3, a4, a5⟩⟩ := a; obtain ⟨b0, b1, ⟨b2, b3, b4, b5⟩⟩ := b; simp_all), rfl⟩ trivial
      · refine Split.mk fun t ht3 => ?_
        cases t
        · exact Need.mk ⟨[], _, .same, fin (by obtain ⟨a0, a1, ⟨a2, a3, a4, a5⟩⟩ := a; obtain ⟨b0, b1, ⟨b2, b3, b4, b5⟩⟩ := b; simp_all), rfl⟩ trivial
        · refine Split.mk fun t ht4 => ?_
          cases t
          · exact Need.mk ⟨[], _, .same, fin (by obtain ⟨a0, a1, ⟨a2, a3, a4, a5⟩⟩ := a; obtain ⟨b0, b1, ⟨b2, b3, b4, b5⟩⟩ := b; simp_all), rfl⟩ trivial
          · refine ACall.mk _ _ (spec_l5Levels a.disk.levels b.disk.levels) ?_
            refine Split.mk fun t ht5 => ?_
            exact Need.mk ⟨[], _, .same, fin (by obtain ⟨a0, a1, ⟨a2, a3, a4, a5⟩⟩ := a; obtain ⟨b0, b1, ⟨b2, b3, b4, b5⟩⟩ := b; simp_all), rfl⟩ trivial
theorem impl_StoreSame (a b : Sto) : AFn Try.prog 31 [.agg (a.enc.map .c), .agg (b.enc.map .c)] [] (rb (decide (a = b))) [] := by
  refine AFn.introX (E := En 0 md0) (en_ok 0 md0) Try.func31 rfl rfl rfl fun _ _ => ?_
  have fin : ∀ {c : Bool}, c = decide (a = b) → rb c = rb (decide (a = b)) := fun h => by rw [h]
  refine Split.mk fun t ht => ?_
  cases t
  · exact Need.mk ⟨[], _, .same, fin (by obtain ⟨a0, a1, ⟨a2, a3, a4, a5⟩⟩ := a; obtain ⟨b0, b1, ⟨b2, b3, b4, b5⟩⟩ := b; simp_all), rfl⟩ trivial
  · refine ACall.mk _ _ (impl_TreeSame a.tree b.tree) ?_
    refine Split.mk fun t ht1 => ?_
    cases t
    · exact Need.mk ⟨[], _, .same, fin (by obtain ⟨a0, a1, ⟨a2, a3, a4, a5⟩⟩ := a; obtain ⟨b0, b1, ⟨b2, b3, b4, b5⟩⟩ := b; simp_all), rfl⟩ trivial
    · refine Split.mk fun t ht2 => ?_
      rw [bytes_beq] at ht2
      cases t
      · exact Need.mk ⟨[], _, .same, fin (by obtain ⟨a0, a1, ⟨a2, a3, a4, a5⟩⟩ := a; obtain ⟨b0, b1, ⟨b2, b3, b4, b5⟩⟩ := b; simp_all), rfl⟩ trivial
      · refine Split.mk fun t ht3 => ?_
        cases t
        · exact Need.mk ⟨[], _, .same, fin (by obtain ⟨a0, a1, ⟨a2, a3, a4, a5⟩⟩ := a; obtain ⟨b0, b1, ⟨b2, b3, b4, b5⟩⟩ := b; simp_all), rfl⟩ trivial
        · refine Split.mk fun t ht4 => ?_
          cases t
          · exact Need.mk ⟨[], _, .same, fin (by obtain ⟨a0, a1, ⟨a2, a3, a4, a5⟩⟩ := a; obtain ⟨b0, b1, ⟨b2, b3, b4, b5⟩⟩ := b; simp_all), rfl⟩ trivial
          · refine ACall.mk _ _ (impl_levelsSame a.disk.levels b.disk.levels) ?_
            refine Split.mk fun t ht5 => ?_
            exact Need.mk ⟨[], _, .same, fin (by obtain ⟨a0, a1, ⟨a2, a3, a4, a5⟩⟩ := a; obtain ⟨b0, b1, ⟨b2, b3, b4, b5⟩⟩ := b; simp_all), rfl⟩ trivial
end Go.Proofs.Yteddoandjgjleaa

namespace Go.Proofs.Yteddoandjgjleaa
open Go Go.Proofs Ev
set_option maxRecDepth 100000
theorem laws_szEntry (e : Ent) (left : Nat) (he : e.Ok) (hl : left ≤ 1048576) : AFn Try.prog 97 [.agg (e.enc.map .c), av (.int .i64 left)] [] (.one (vi (cut e.size left))) [] := by
  refine AFn.introX (E := En 0 md0) (en_ok 0 md0) Try.func97 rfl rfl rfl fun _ _ => ?_
  obtain ⟨h1, h2⟩ := he
  have he : e.size = e.key.size + e.text.size := rfl
  unfold maxLen at h1 h2
  have fin : ∀ {z : Int}, z = cut e.size left → RV.one (vi z) = RV.one (vi (cut e.size left)) := fun h => by rw [h]
  refine Num.mk ((left : Int) - e.key.size) (by rw [IntKind.wrap_i64]; omega) ?_
  refine Split.mk fun t ht => ?_
  cases t
  · have h3 : e.key.size ≤ left := by simp at ht; omega
    refine Num.mk ((left : Int) - e.key.size - e.text.size) (by rw [IntKind.wrap_i64]; omega) ?_
    refine Split.mk fun t ht => ?_
    cases t
    · have h4 : e.size ≤ left := by simp at ht; omega
      exact Need.mk ⟨[], _, .same, fin (by rw [cut_pos h4]; omega), rfl⟩ trivial
    · have h4 : ¬ e.size ≤ left := by simp at ht; omega
      exact Need.mk ⟨[], _, .same, fin (by rw [cut_neg h4]), rfl⟩ trivial
  · have h4 : ¬ e.size ≤ left := by simp at ht; omega
    exact Need.mk ⟨[], _, .same, fin (by rw [cut_neg h4]), rfl⟩ trivial
theorem laws_szEntryS (xs : List Ent) (left : Nat) (he : OkE xs) (hl : left ≤ 1048576) : AFn Try.prog 46 [sl (xs.map Ent.enc), av (.int .i64 left)] [] (.one (vi (cut (sizeE xs) left))) [] := by
  refine AFn.introX (E := En 0 md0) (en_ok 0 md0) Try.func46 rfl rfl rfl fun hs _ => ?_
  have hn : (xs.map Ent.enc).length = xs.length := List.length_map ..
  have hx := Small.len (hs _ (List.mem_cons_self ..))
  rw [hn] at hx
  have hz : sizeE xs = xs.length + (xs.map Ent.size).sum := rfl
  have fin : ∀ {z : Int}, z = cut (sizeE xs) left → RV.one (vi z) = RV.one (vi (cut (sizeE xs) left)) := fun h => by rw [h]
  refine Num.mk ((left : Int) - xs.length) (by rw [hn, IntKind.wrap_i64]; omega) ?_
  refine Split.mk fun t ht => ?_
  cases t
  · have h3 : xs.length ≤ left := by simp at ht; omega
    refine ALoop.mk (fun m s => ∃ (i r : Nat), i ≤ xs.length ∧ m = xs.length - i ∧ xs.length + ((xs.take i).map Ent.size).sum + r = left ∧
        s = ⟨some (sl (xs.map Ent.enc)) :: some (av (.int .i64 r)) :: none :: none :: none :: some (av (.int .i64 i)) :: List.replicate 21 none, List.replicate 27 absent⟩)
      ⟨xs.length, _, Weak.nrm [true, true, false, false, false, true] [] rfl rfl rfl, 0, left - xs.length, Nat.zero_le _, rfl, by simp; omega, ?_⟩ ?_
    · rw [show ((left - xs.length : Nat) : Int) = (left : Int) - xs.length by omega]; rfl
    rintro m s ⟨i, r, hi, rfl, hr, rfl⟩
    refine Split.mk fun t ht => ?_
    rw [hn] at ht
    cases t
    · have hin : i = xs.length := by simp at ht; omega
      subst hin
      rw [List.take_length] at hr
      exact Need.mk ⟨[], _, .same, fin (by rw [cut_pos (by omega)]; omega), rfl⟩ trivial
    · have hia : i < xs.length := by simpa using ht
      have hsum := sum_take Ent.size xs hia
      have hle := sum_take_le Ent.size xs (i + 1)
      refine Need.mk (by omega) ?_
      refine Row.mk _ (map_get _ xs i hia) ?_
      refine ACall.mk _ _ (laws_szEntry xs[i] r (he _ (List.getElem_mem _)) (by omega)) ?_
      refine Split.mk fun t ht => ?_
      rw [cut_lt] at ht
      cases t
      · have h4 : xs[i].size ≤ r := by simpa using ht
        refine Num.mk _ (wrapS (by omega)) ?_
        refine ⟨xs.length - (i + 1), _, by omega, Weak.nrm [true, true, false, false, false, true] [] rfl rfl rfl, i + 1, r - xs[i].size, by omega, rfl, by omega, ?_⟩
        rw [← cut_pos h4]; rfl
      · have h4 : ¬ xs[i].size ≤ r := by simpa using ht
        exact Need.mk ⟨[], _, .same, fin (by rw [cut_neg (by omega)]), rfl⟩ trivial
  · have h4 : ¬ sizeE xs ≤ left := by simp at ht; omega
    exact Need.mk ⟨[], _, .same, fin (by rw [cut_neg h4]), rfl⟩ trivial
end Go.Proofs.Yteddoandjgjleaa

namespace Go.Proofs.Yteddoandjgjleaa
open Go Go.Proofs Ev
set_option maxRecDepth 100000
theorem laws_szRun (r : Rn) (left : Nat) (he : OkE r.ents) (hl : left ≤ 1048576) : AFn Try.prog 32 [.agg (r.enc.map .c), av (.int .i64 left)] [] (.one (vi (cut (sizeE r.ents) left))) [] := by
  refine AFn.introX (E := En 0 md0) (en_ok 0 md0) Try.func32 rfl rfl rfl fun _ _ => ?_
  refine ACall.mk _ _ (laws_szEntryS r.ents left he hl) ?_
  refine Split.mk fun t ht => ?_
  rw [cut_lt] at ht
  cases t
  · exact Need.mk ⟨[], _, .same, rfl, rfl⟩ trivial
  · exact Need.mk ⟨[], _, .same, by rw [cut_neg (by simpa using ht)]; rfl, rfl⟩ trivial
theorem laws_szRunS (xs : List Rn) (left : Nat) (he : OkR xs) (hl : left ≤ 1048576) : AFn Try.prog 118 [sl (xs.map Rn.enc), av (.int .i64 left)] [] (.one (vi (cut (sizeR xs) left))) [] := by
  refine AFn.introX (E := En 0 md0) (en_ok 0 md0) Try.func118 rfl rfl rfl fun hs _ => ?_
  have hn : (xs.map Rn.enc).length = xs.length := List.length_map ..
  have hx := Small.len (hs _ (List.mem_cons_self ..))
  rw [hn] at hx
  have hz : sizeR xs = xs.length + (xs.map (fun r : Rn => sizeE r.ents)).sum := rfl
  have fin : ∀ {z : Int}, z = cut (sizeR xs) left → RV.one (vi z) = RV.one (vi (cut (sizeR xs) left)) := fun h => by rw [h]
  refine Num.mk ((left : Int) - xs.length) (by rw [hn, IntKind.wrap_i64]; omega) ?_
  refine Split.mk fun t ht => ?_
  cases t
  · have h3 : xs.length ≤ left := by simp at ht; omega
    refine ALoop.mk (fun m s => ∃ (i r : Nat), i ≤ xs.length ∧ m = xs.length - i ∧ xs.length + ((xs.take i).map (fun r : Rn => sizeE r.ents)).sum + r = left ∧
        s = ⟨some (sl (xs.map Rn.enc)) :: some (av (.int .i64 r)) :: none :: none :: none :: some (av (.int .i64 i)) :: List.replicate 21 none, List.replicate 27 absent⟩)
      ⟨xs.length, _, Weak.nrm [true, true, false, false, false, true] [] rfl rfl rfl, 0, left - xs.length, Nat.zero_le _, rfl, by simp; omega, ?_⟩ ?_
    · rw [show ((left - xs.length : Nat) : Int) = (left : Int) - xs.length by omega]; rfl
    rintro m s ⟨i, r, hi, rfl, hr, rfl⟩
    refine Split.mk fun t ht => ?_
    rw [hn] at ht
    cases t
    · have hin : i = xs.length := by simp at ht; omega
      subst hin
      rw [List.take_length] at hr
      exact Need.mk ⟨[], _, .same, fin (by rw [cut_pos (by omega)]; omega), rfl⟩ trivial
    · have hia : i < xs.length := by simpa using ht
      have hsum := sum_take (fun r : Rn => sizeE r.ents) xs hia
      have hle := sum_take_le (fun r : Rn => sizeE r.ents) xs (i + 1)
      refine Need.mk (by omega) ?_
      refine Row.mk _ (map_get _ xs i hia) ?_
      refine ACall.mk _ _ (laws_szRun xs[i] r (he _ (List.getElem_mem _)) (by omega)) ?_
      refine Split.mk fun t ht => ?_
      rw [cut_lt] at ht
      cases t
      · have h4 : (sizeE xs[i].ents) ≤ r := by simpa using ht
        refine Num.mk _ (wrapS (by omega)) ?_
        refine ⟨xs.length - (i + 1), _, by omega, Weak.nrm [true, true, false, false, false, true] [] rfl rfl rfl, i + 1, r - (sizeE xs[i].ents), by omega, rfl, by omega, ?_⟩
        rw [← cut_pos h4]; rfl
      · have h4 : ¬ (sizeE xs[i].ents) ≤ r := by simpa using ht
        exact Need.mk ⟨[], _, .same, fin (by rw [cut_neg (by omega)]), rfl⟩ trivial
  · have h4 : ¬ sizeR xs ≤ left := by simp at ht; omega
    exact Need.mk ⟨[], _, .same, fin (by rw [cut_neg h4]), rfl⟩ trivial
theorem laws_szRunSS (xs : List (List Rn)) (left : Nat) (he : OkRR xs) (hl : left ≤ 1048576) : AFn Try.prog 72 [sl (xs.map encL), av (.int .i64 left)] [] (.one (vi (cut (sizeRR xs) left))) [] := by
  refine AFn.introX (E := En 0 md0) (en_ok 0 md0) Try.func72 rfl rfl rfl fun hs _ => ?_
  have hn : (xs.map encL).length = xs.length := List.length_map ..
  have hx := Small.len (hs _ (List.mem_cons_self ..))
  rw [hn] at hx
  have hz : sizeRR xs = xs.length + (xs.map sizeR).sum := rfl
  have fin : ∀ {z : Int}, z = cut (sizeRR xs) left → RV.one (vi z) = RV.one (vi (cut (sizeRR xs) left)) := fun h => by rw [h]
  refine Num.mk ((left : Int) - xs.length) (by rw [hn, IntKind.wrap_i64]; omega) ?_
  refine Split.mk fun t ht => ?_
  cases t
  · have h3 : xs.length ≤ left := by simp at ht; omega
    refine ALoop.mk (fun m s => ∃ (i r : Nat), i ≤ xs.length ∧ m = xs.length - i ∧ xs.length + ((xs.take i).map sizeR).sum + r = left ∧
        s = ⟨some (sl (xs.map encL)) :: some (av (.int .i64 r)) :: none :: none :: none :: some (av (.int .i64 i)) :: List.replicate 21 none, List.replicate 27 absent⟩)
      ⟨xs.length, _, Weak.nrm [true, true, false, false, false, true] [] rfl rfl rfl, 0, left - xs.length, Nat.zero_le _, rfl, by simp; omega, ?_⟩ ?_
    · rw [show ((left - xs.length : Nat) : Int) = (left : Int) - xs.length by omega]; rfl
    rintro m s ⟨i, r, hi, rfl, hr, rfl⟩
    refine Split.mk fun t ht => ?_
    rw [hn] at ht
    cases t
    · have hin : i = xs.length := by simp at ht; omega
      subst hin
      rw [List.take_length] at hr
      exact Need.mk ⟨[], _, .same, fin (by rw [cut_pos (by omega)]; omega), rfl⟩ trivial
    · have hia : i < xs.length := by simpa using ht
      have hsum := sum_take sizeR xs hia
      have hle := sum_take_le sizeR xs (i + 1)
      refine Need.mk (by omega) ?_
      refine Row.mk _ (map_get _ xs i hia) ?_
      refine ACall.mk _ _ (laws_szRunS xs[i] r (he _ (List.getElem_mem _)) (by omega)) ?_
      refine Split.mk fun t ht => ?_
      rw [cut_lt] at ht
      cases t
      · have h4 : (sizeR xs[i]) ≤ r := by simpa using ht
        refine Num.mk _ (wrapS (by omega)) ?_
        refine ⟨xs.length - (i + 1), _, by omega, Weak.nrm [true, true, false, false, false, true] [] rfl rfl rfl, i + 1, r - (sizeR xs[i]), by omega, rfl, by omega, ?_⟩
        rw [← cut_pos h4]; rfl
      · have h4 : ¬ (sizeR xs[i]) ≤ r := by simpa using ht
        exact Need.mk ⟨[], _, .same, fin (by rw [cut_neg (by omega)]), rfl⟩ trivial
  · have h4 : ¬ sizeRR xs ≤ left := by simp at ht; omega
    exact Need.mk ⟨[], _, .same, fin (by rw [cut_neg h4]), rfl⟩ trivial
end Go.Proofs.Yteddoandjgjleaa

namespace Go.Proofs.Yteddoandjgjleaa
open Go Go.Proofs Ev
set_option maxRecDepth 100000
theorem laws_szIntS (xs : List Int) (left : Nat) (hl : left ≤ 1048576) : AFn Try.prog 73 [sl (xs.map encI), av (.int .i64 left)] [] (.one (vi (cut xs.length left))) [] := by
  refine AFn.introX (E := En 0 md0) (en_ok 0 md0) Try.func73 rfl rfl rfl fun hs _ => ?_
  have hn : (xs.map encI).length = xs.length := List.length_map ..
  have hx := Small.len (hs _ (List.mem_cons_self ..))
  rw [hn] at hx
  have fin : ∀ {z : Int}, z = cut xs.length left → RV.one (vi z) = RV.one (vi (cut xs.length left)) := fun h => by rw [h]
  refine Num.mk ((left : Int) - xs.length) (by rw [hn, IntKind.wrap_i64]; omega) ?_
  refine Split.mk fun t ht => ?_
  cases t
  · have h3 : xs.length ≤ left := by simp at ht; omega
    exact Need.mk ⟨[], _, .same, fin (by rw [cut_pos h3]; omega), rfl⟩ trivial
  · have h3 : ¬ xs.length ≤ left := by simp at ht; omega
    exact Need.mk ⟨[], _, .same, fin (by rw [cut_neg h3]), rfl⟩ trivial
theorem laws_szTree (t : Tre) (left : Nat) (he : t.Ok) (hl : left ≤ 1048576) : AFn Try.prog 24 [.agg (t.enc.map .c), av (.int .i64 left)] [] (.one (vi (cut t.size left))) [] := by
  refine AFn.introX (E := En 0 md0) (en_ok 0 md0) Try.func24 rfl rfl rfl fun _ _ => ?_
  have hz : t.size = sizeE t.mem + sizeRR t.levels + t.snaps.length := rfl
  have fin : ∀ {z : Int}, z = cut t.size left → RV.one (vi z) = RV.one (vi (cut t.size left)) := fun h => by rw [h]
  by_cases h1 : sizeE t.mem ≤ left
  · refine ACall.mk (.one (vi ((left - sizeE t.mem : Nat) : Int))) [] (by rw [← cut_pos h1]; exact laws_szEntryS t.mem left he.1 hl) ?_
    refine Split.mk fun b hb => ?_
    cases b
    · by_cases h2 : sizeRR t.levels ≤ left - sizeE t.mem
      · refine ACall.mk (.one (vi ((left - sizeE t.mem - sizeRR t.levels : Nat) : Int))) [] (by rw [← cut_pos h2]; exact laws_szRunSS t.levels (left - sizeE t.mem) he.2 (by omega)) ?_
        refine Split.mk fun b hb => ?_
        cases b
        · by_cases h3 : t.snaps.length ≤ left - sizeE t.mem - sizeRR t.levels
          · refine ACall.mk (.one (vi ((left - sizeE t.mem - sizeRR t.levels - t.snaps.length : Nat) : Int))) [] (by rw [← cut_pos h3]; exact laws_szIntS t.snaps _ (by omega)) ?_
            refine Split.mk fun b hb => ?_
            cases b
            · exact Need.mk ⟨[], _, .same, fin (by rw [cut_pos (by omega)]; omega), rfl⟩ trivial
            · simp at hb <;> omega
          · refine ACall.mk (.one (vi (-1))) [] (by rw [← cut_neg h3]; exact laws_szIntS t.snaps _ (by omega)) ?_
            refine Split.mk fun b hb => ?_
            cases b
            · simp at hb
            · exact Need.mk ⟨[], _, .same, fin (by rw [cut_neg (by omega)]), rfl⟩ trivial
        · simp at hb <;> omega
      · refine ACall.mk (.one (vi (-1))) [] (by rw [← cut_neg h2]; exact laws_szRunSS t.levels (left - sizeE t.mem) he.2 (by omega)) ?_
        refine Split.mk fun b hb => ?_
        cases b
        · simp at hb
        · exact Need.mk ⟨[], _, .same, fin (by rw [cut_neg (by omega)]), rfl⟩ trivial
    · simp at hb <;> omega
  · refine ACall.mk (.one (vi (-1))) [] (by rw [← cut_neg h1]; exact laws_szEntryS t.mem left he.1 hl) ?_
    refine Split.mk fun b hb => ?_
    cases b
    · simp at hb
    · exact Need.mk ⟨[], _, .same, fin (by rw [cut_neg (by omega)]), rfl⟩ trivial
end Go.Proofs.Yteddoandjgjleaa

namespace Go.Proofs.Yteddoandjgjleaa
open Go Go.Proofs Ev
set_option maxRecDepth 100000
theorem laws_szDisk (d : Dsk) (left : Nat) (he : d.Ok) (hl : left ≤ 1048576) : AFn Try.prog 82 [.agg (d.enc.map .c), av (.int .i64 left)] [] (.one (vi (cut d.size left))) [] := by
  refine AFn.introX (E := En 0 md0) (en_ok 0 md0) Try.func82 rfl rfl rfl fun _ _ => ?_
  obtain ⟨h0, h1⟩ := he
  unfold maxLen at h0
  have hz : d.size = d.log.size + sizeRR d.levels := rfl
  have fin : ∀ {z : Int}, z = cut d.size left → RV.one (vi z) = RV.one (vi (cut d.size left)) := fun h => by rw [h]
  by_cases h2 : d.log.size ≤ left
  · refine Num.mk ((left - d.log.size : Nat) : Int) (by rw [IntKind.wrap_i64]; omega) ?_
    refine Split.mk fun b hb => ?_
    cases b
    · by_cases h3 : sizeRR d.levels ≤ left - d.log.size
      · refine ACall.mk (.one (vi ((left - d.log.size - sizeRR d.levels : Nat) : Int))) [] (by rw [← cut_pos h3]; exact laws_szRunSS d.levels _ h1 (by omega)) ?_
        refine Split.mk fun b hb => ?_
        cases b
        · exact Need.mk ⟨[], _, .same, fin (by rw [cut_pos (by omega)]; omega), rfl⟩ trivial
        · simp at hb <;> omega
      · refine ACall.mk (.one (vi (-1))) [] (by rw [← cut_neg h3]; exact laws_szRunSS d.levels _ h1 (by omega)) ?_
        refine Split.mk fun b hb => ?_
        cases b
        · simp at hb
        · exact Need.mk ⟨[], _, .same, fin (by rw [cut_neg (by omega)]), rfl⟩ trivial
    · simp at hb <;> omega
  · refine Num.mk ((left : Int) - d.log.size) (by rw [IntKind.wrap_i64]; omega) ?_
    refine Split.mk fun b hb => ?_
    cases b
    · simp at hb <;> omega
    · exact Need.mk ⟨[], _, .same, fin (by rw [cut_neg (by omega)]), rfl⟩ trivial
theorem laws_szStore (s : Sto) (left : Nat) (he : s.Ok) (hl : left ≤ 1048576) : AFn Try.prog 28 [.agg (s.enc.map .c), av (.int .i64 left)] [] (.one (vi (cut s.size left))) [] := by
  refine AFn.introX (E := En 0 md0) (en_ok 0 md0) Try.func28 rfl rfl rfl fun _ _ => ?_
  have hz : s.size = s.tree.size + s.disk.size := rfl
  have fin : ∀ {z : Int}, z = cut s.size left → RV.one (vi z) = RV.one (vi (cut s.size left)) := fun h => by rw [h]
  by_cases h1 : s.tree.size ≤ left
  · refine ACall.mk (.one (vi ((left - s.tree.size : Nat) : Int))) [] (by rw [← cut_pos h1]; exact laws_szTree s.tree left he.1 hl) ?_
    refine Split.mk fun b hb => ?_
    cases b
    · by_cases h2 : s.disk.size ≤ left - s.tree.size
      · refine ACall.mk (.one (vi ((left - s.tree.size - s.disk.size : Nat) : Int))) [] (by rw [← cut_pos h2]; exact laws_szDisk s.disk _ he.2 (by omega)) ?_
        refine Split.mk fun b hb => ?_
        cases b
        · exact Need.mk ⟨[], _, .same, fin (by rw [cut_pos (by omega)]; omega), rfl⟩ trivial
        · simp at hb <;> omega
      · refine ACall.mk (.one (vi (-1))) [] (by rw [← cut_neg h2]; exact laws_szDisk s.disk _ he.2 (by omega)) ?_
        refine Split.mk fun b hb => ?_
        cases b
        · simp at hb
        · exact Need.mk ⟨[], _, .same, fin (by rw [cut_neg (by omega)]), rfl⟩ trivial
    · simp at hb <;> omega
  · refine ACall.mk (.one (vi (-1))) [] (by rw [← cut_neg h1]; exact laws_szTree s.tree left he.1 hl) ?_
    refine Split.mk fun b hb => ?_
    cases b
    · simp at hb
    · exact Need.mk ⟨[], _, .same, fin (by rw [cut_neg (by omega)]), rfl⟩ trivial
end Go.Proofs.Yteddoandjgjleaa

namespace Go.Proofs.Yteddoandjgjleaa
open Go Go.Proofs Ev
set_option maxRecDepth 100000
theorem laws_toEntry (e : Ent) : AFn Try.prog 101 [.agg (e.enc.map .c)] [] (.agg e.enc) [] := by
  refine AFn.introX (E := En 0 md0) (en_ok 0 md0) Try.func101 rfl rfl rfl fun _ _ => ?_
  exact Need.mk ⟨[], _, .same, rfl, rfl⟩ trivial
theorem laws_toEntryS (xs : List Ent) (hx : xs.length ≤ 1048576) : AFn Try.prog 48 [sl (xs.map Ent.enc)] [] (.one (.us 82 (xs.map Ent.enc))) [] := by
  refine AFn.introX (E := En 0 md0) (en_ok 0 md0) Try.func48 rfl rfl rfl fun _ _ => ?_
  have hn : (xs.map Ent.enc).length = xs.length := List.length_map ..
  refine Need.mk ⟨by omega, by omega, by simp only [hn]; omega, by omega⟩ ?_
  let S : List (List C) → Nat → St := fun rows i => ⟨some (sl (xs.map Ent.enc)) :: none :: none :: some (.one (.ref 3 0 (.cell 0))) :: some (av (.int .i64 i)) :: List.replicate 18 none, absent :: absent :: absent :: ⟨0, 1, some [.us 82 rows]⟩ :: List.replicate 19 absent⟩
  refine ALoop.mk (fun m s => ∃ i : Nat, i ≤ xs.length ∧ m = xs.length - i ∧ s = S ((xs.take i ++ List.replicate (xs.length - i) ent0).map Ent.enc) i)
    ⟨xs.length, _, Weak.nrm [true, false, false, true, true] [(7, 3)] rfl rfl rfl, 0, Nat.zero_le _, rfl, ?_⟩ ?_
  · refine Eq.trans (b := S (List.replicate (xs.map Ent.enc).length (Ent.enc ent0)) 0) rfl ?_
    rw [hn, List.take_zero, List.nil_append, List.map_replicate, Nat.sub_zero]
  rintro m s ⟨i, hi, rfl, rfl⟩
  refine Split.mk fun t ht => ?_
  rw [hn] at ht
  cases t
  · have hin : i = xs.length := by simp at ht; omega
    subst hin
    refine Need.mk ⟨[], _, .same, ?_, rfl⟩ trivial
    rw [List.take_length, Nat.sub_self, List.replicate_zero, List.append_nil]; rfl
  · have hia : i < xs.length := by simpa using ht
    refine Need.mk (by omega) ?_
    refine Row.mk _ (map_get _ xs i hia) ?_
    refine ACall.mk _ _ (laws_toEntry xs[i]) ?_
    refine Need.mk ⟨by omega, by rw [List.length_map, to_len _ _ hi]; omega⟩ ?_
    refine Row.mk _ (to_get _ xs ent0 hia) ?_
    refine Num.mk _ (wrapS (by omega)) ?_
    refine ⟨xs.length - (i + 1), _, by omega, Weak.nrm [true, false, false, true, true] [(3, 3)] rfl rfl rfl, i + 1, by omega, rfl, ?_⟩
    refine Eq.trans (b := S (((xs.take i ++ List.replicate (xs.length - i) ent0).map Ent.enc).set i (Ent.enc xs[i])) (i + 1)) rfl ?_
    rw [← List.map_set, to_step xs ent0 hia]
end Go.Proofs.Yteddoandjgjleaa

namespace Go.Proofs.Yteddoandjgjleaa
open Go Go.Proofs Ev
set_option maxRecDepth 100000
def encO (r : Rn) : List C := [.us 82 (r.ents.map Ent.enc), vi r.mask]
def encLO (l : List Rn) : List C := [.us 57 (l.map encO)]
end Go.Proofs.Yteddoandjgjleaa

namespace Go.Proofs.Yteddoandjgjleaa
open Go Go.Proofs Ev
set_option maxRecDepth 100000
theorem laws_toRun (r : Rn) (hr : r.ents.length ≤ 1048576) : AFn Try.prog 34 [.agg (r.enc.map .c)] [] (.agg (encO r)) [] := by
  refine AFn.introX (E := En 0 md0) (en_ok 0 md0) Try.func34 rfl rfl rfl fun _ _ => ?_
  refine ACall.mk _ _ (laws_toEntryS r.ents hr) ?_
  exact Need.mk ⟨[], _, .same, rfl, rfl⟩ trivial
theorem laws_toRunS (xs : List Rn) (hx : xs.length ≤ 1048576) (hr : ∀ r ∈ xs, r.ents.length ≤ 1048576) : AFn Try.prog 119 [sl (xs.map Rn.enc)] [] (.one (.us 57 (xs.map encO))) [] := by
  refine AFn.introX (E := En 0 md0) (en_ok 0 md0) Try.func119 rfl rfl rfl fun _ _ => ?_
  have hn : (xs.map Rn.enc).length = xs.length := List.length_map ..
  refine Need.mk ⟨by omega, by omega, by simp only [hn]; omega, by omega⟩ ?_
  let S : List (List C) → Nat → St := fun rows i => ⟨some (sl (xs.map Rn.enc)) :: none :: none :: some (.one (.ref 3 0 (.cell 0))) :: some (av (.int .i64 i)) :: List.replicate 18 none, absent :: absent :: absent :: ⟨0, 1, some [.us 57 rows]⟩ :: List.replicate 19 absent⟩
  refine ALoop.mk (fun m s => ∃ i : Nat, i ≤ xs.length ∧ m = xs.length - i ∧ s = S ((xs.take i ++ List.replicate (xs.length - i) (⟨[], 0⟩ : Rn)).map encO) i)
    ⟨xs.length, _, Weak.nrm [true, false, false, true, true] [(7, 3)] rfl rfl rfl, 0, Nat.zero_le _, rfl, ?_⟩ ?_
  · refine Eq.trans (b := S (List.replicate (xs.map Rn.enc).length (encO (⟨[], 0⟩ : Rn))) 0) rfl ?_
    rw [hn, List.take_zero, List.nil_append, List.map_replicate, Nat.sub_zero]
  rintro m s ⟨i, hi, rfl, rfl⟩
  refine Split.mk fun t ht => ?_
  rw [hn] at ht
  cases t
  · have hin : i = xs.length := by simp at ht; omega
    subst hin
    refine Need.mk ⟨[], _, .same, ?_, rfl⟩ trivial
    rw [List.take_length, Nat.sub_self, List.replicate_zero, List.append_nil]; rfl
  · have hia : i < xs.length := by simpa using ht
    refine Need.mk (by omega) ?_
    refine Row.mk _ (map_get _ xs i hia) ?_
    refine ACall.mk _ _ (laws_toRun xs[i] (hr _ (List.getElem_mem _))) ?_
    refine Need.mk ⟨by omega, by rw [List.length_map, to_len _ _ hi]; omega⟩ ?_
    refine Row.mk _ (to_get _ xs (⟨[], 0⟩ : Rn) hia) ?_
    refine Num.mk _ (wrapS (by omega)) ?_
    refine ⟨xs.length - (i + 1), _, by omega, Weak.nrm [true, false, false, true, true] [(3, 3)] rfl rfl rfl, i + 1, by omega, rfl, ?_⟩
    refine Eq.trans (b := S (((xs.take i ++ List.replicate (xs.length - i) (⟨[], 0⟩ : Rn)).map encO).set i (encO xs[i])) (i + 1)) rfl ?_
    rw [← List.map_set, to_step xs (⟨[], 0⟩ : Rn) hia]
end Go.Proofs.Yteddoandjgjleaa

namespace Go.Proofs.Yteddoandjgjleaa
open Go Go.Proofs Ev
set_option maxRecDepth 100000
theorem laws_toRunSS (xs : List (List Rn)) (hx : xs.length ≤ 1048576) (hr : ∀ l ∈ xs, l.length ≤ 1048576 ∧ ∀ r ∈ l, r.ents.length ≤ 1048576) : AFn Try.prog 77 [sl (xs.map encL)] [] (.one (.us 91 (xs.map encLO))) [] := by
  refine AFn.introX (E := En 0 md0) (en_ok 0 md0) Try.func77 rfl rfl rfl fun _ _ => ?_
  have hn : (xs.map encL).length = xs.length := List.length_map ..
  refine Need.mk ⟨by omega, by omega, by simp only [hn]; omega, by omega⟩ ?_
  let S : List (List C) → Nat → St := fun rows i => ⟨some (sl (xs.map encL)) :: none :: none :: some (.one (.ref 3 0 (.cell 0))) :: some (av (.int .i64 i)) :: List.replicate 18 none, absent :: absent :: absent :: ⟨0, 1, some [.us 91 rows]⟩ :: List.replicate 19 absent⟩
  refine ALoop.mk (fun m s => ∃ i : Nat, i ≤ xs.length ∧ m = xs.length - i ∧ s = S ((xs.take i ++ List.replicate (xs.length - i) ([] : List Rn)).map encLO) i)
    ⟨xs.length, _, Weak.nrm [true, false, false, true, true] [(7, 3)] rfl rfl rfl, 0, Nat.zero_le _, rfl, ?_⟩ ?_
  · refine Eq.trans (b := S (List.replicate (xs.map encL).length (encLO ([] : List Rn))) 0) rfl ?_
    rw [hn, List.take_zero, List.nil_append, List.map_replicate, Nat.sub_zero]
  rintro m s ⟨i, hi, rfl, rfl⟩
  refine Split.mk fun t ht => ?_
  rw [hn] at ht
  cases t
  · have hin : i = xs.length := by simp at ht; omega
    subst hin
    refine Need.mk ⟨[], _, .same, ?_, rfl⟩ trivial
    rw [List.take_length, Nat.sub_self, List.replicate_zero, List.append_nil]; rfl
  · have hia : i < xs.length := by simpa using ht
    refine Need.mk (by omega) ?_
    refine Row.mk _ (map_get _ xs i hia) ?_
    refine ACall.mk _ _ (laws_toRunS xs[i] (hr _ (List.getElem_mem _)).1 (hr _ (List.getElem_mem _)).2) ?_
    refine Need.mk ⟨by omega, by rw [List.length_map, to_len _ _ hi]; omega⟩ ?_
    refine Row.mk _ (to_get _ xs ([] : List Rn) hia) ?_
    refine Num.mk _ (wrapS (by omega)) ?_
    refine ⟨xs.length - (i + 1), _, by omega, Weak.nrm [true, false, false, true, true] [(3, 3)] rfl rfl rfl, i + 1, by omega, rfl, ?_⟩
    refine Eq.trans (b := S (((xs.take i ++ List.replicate (xs.length - i) ([] : List Rn)).map encLO).set i (encLO xs[i])) (i + 1)) rfl ?_
    rw [← List.map_set, to_step xs ([] : List Rn) hia]
end Go.Proofs.Yteddoandjgjleaa

namespace Go.Proofs.Yteddoandjgjleaa
open Go Go.Proofs Ev
set_option maxRecDepth 100000
theorem laws_toIntS (xs : List Int) (hx : xs.length ≤ 1048576) : AFn Try.prog 78 [sl (xs.map encI)] [] (.one (.us 3 (xs.map encI))) [] := by
  refine AFn.introX (E := En 0 md0) (en_ok 0 md0) Try.func78 rfl rfl rfl fun _ _ => ?_
  have hn : (xs.map encI).length = xs.length := List.length_map ..
  refine Need.mk ⟨by omega, by omega, by simp only [hn]; omega, by omega⟩ ?_
  let S : List (List C) → Nat → St := fun rows i => ⟨some (sl (xs.map encI)) :: none :: none :: some (.one (.ref 3 0 (.cell 0))) :: some (av (.int .i64 i)) :: List.replicate 17 none, absent :: absent :: absent :: ⟨0, 1, some [.us 3 rows]⟩ :: List.replicate 18 absent⟩
  refine ALoop.mk (fun m s => ∃ i : Nat, i ≤ xs.length ∧ m = xs.length - i ∧ s = S ((xs.take i ++ List.replicate (xs.length - i) (0 : Int)).map encI) i)
    ⟨xs.length, _, Weak.nrm [true, false, false, true, true] [(7, 3)] rfl rfl rfl, 0, Nat.zero_le _, rfl, ?_⟩ ?_
  · refine Eq.trans (b := S (List.replicate (xs.map encI).length (encI (0 : Int))) 0) rfl ?_
    rw [hn, List.take_zero, List.nil_append, List.map_replicate, Nat.sub_zero]
  rintro m s ⟨i, hi, rfl, rfl⟩
  refine Split.mk fun t ht => ?_
  rw [hn] at ht
  cases t
  · have hin : i = xs.length := by simp at ht; omega
    subst hin
    refine Need.mk ⟨[], _, .same, ?_, rfl⟩ trivial
    rw [List.take_length, Nat.sub_self, List.replicate_zero, List.append_nil]; rfl
  · have hia : i < xs.length := by simpa using ht
    refine Need.mk (by omega) ?_
    refine Row.mk _ (map_get _ xs i hia) ?_
    refine Need.mk ⟨by omega, by rw [List.length_map, to_len _ _ hi]; omega⟩ ?_
    refine Row.mk _ (to_get _ xs (0 : Int) hia) ?_
    refine Num.mk _ (wrapS (by omega)) ?_
    refine ⟨xs.length - (i + 1), _, by omega, Weak.nrm [true, false, false, true, true] [(3, 3)] rfl rfl rfl, i + 1, by omega, rfl, ?_⟩
    refine Eq.trans (b := S (((xs.take i ++ List.replicate (xs.length - i) (0 : Int)).map encI).set i (encI xs[i])) (i + 1)) rfl ?_
    rw [← List.map_set, to_step xs (0 : Int) hia]
end Go.Proofs.Yteddoandjgjleaa

namespace Go.Proofs.Yteddoandjgjleaa
open Go Go.Proofs Ev
set_option maxRecDepth 100000
def encTO (t : Tre) : List C := [vi t.seq, .us 82 (t.mem.map Ent.enc), .us 91 (t.levels.map encLO), .us 3 (t.snaps.map encI)]
theorem laws_toTree (t : Tre) (ht : Tre.Small t) : AFn Try.prog 26 [.agg (t.enc.map .c)] [] (.agg (encTO t)) [] := by
  refine AFn.introX (E := En 0 md0) (en_ok 0 md0) Try.func26 rfl rfl rfl fun _ _ => ?_
  refine ACall.mk _ _ (laws_toEntryS t.mem ht.1) ?_
  refine ACall.mk _ _ (laws_toRunSS t.levels ht.2.1 ht.2.2.1) ?_
  refine ACall.mk _ _ (laws_toIntS t.snaps ht.2.2.2) ?_
  exact Need.mk ⟨[], _, .same, rfl, rfl⟩ trivial
end Go.Proofs.Yteddoandjgjleaa

namespace Go.Proofs.Yteddoandjgjleaa
open Go Go.Proofs Ev
set_option maxRecDepth 100000
def encDO (d : Dsk) : List C := [vs d.log, vi d.safe, .us 91 (d.levels.map encLO), vi d.seq]
def encSO (s : Sto) : List C := [vb s.up, vi s.tree.seq, .us 82 (s.tree.mem.map Ent.enc), .us 91 (s.tree.levels.map encLO), .us 3 (s.tree.snaps.map encI), vs s.disk.log, vi s.disk.safe, .us 91 (s.disk.levels.map encLO), vi s.disk.seq]
theorem laws_toDisk (d : Dsk) (hd : Dsk.Small d) : AFn Try.prog 83 [.agg (d.enc.map .c)] [] (.agg (encDO d)) [] := by
  refine AFn.introX (E := En 0 md0) (en_ok 0 md0) Try.func83 rfl rfl rfl fun _ _ => ?_
  refine ACall.mk _ _ (laws_toRunSS d.levels hd.1 hd.2) ?_
  exact Need.mk ⟨[], _, .same, rfl, rfl⟩ trivial
theorem laws_toStore (s : Sto) (ht : Tre.Small s.tree) (hd : Dsk.Small s.disk) : AFn Try.prog 30 [.agg (s.enc.map .c)] [] (.agg (encSO s)) [] := by
  refine AFn.introX (E := En 0 md0) (en_ok 0 md0) Try.func30 rfl rfl rfl fun _ _ => ?_
  refine ACall.mk _ _ (laws_toTree s.tree ht) ?_
  refine ACall.mk _ _ (laws_toDisk s.disk hd) ?_
  exact Need.mk ⟨[], _, .same, rfl, rfl⟩ trivial
end Go.Proofs.Yteddoandjgjleaa

namespace Go.Proofs.Yteddoandjgjleaa
open Go Go.Proofs Ev
set_option maxRecDepth 100000
theorem laws_eqEntry (a b : Ent) : AFn Try.prog 95 [.agg (a.enc.map .c), .agg (b.enc.map .c)] [] (rb (decide (a = b))) [] := by
  refine AFn.introX (E := En 0 md0) (en_ok 0 md0) Try.func95 rfl rfl rfl fun _ _ => ?_
  have fin : ∀ {c : Bool}, c = decide (a = b) → rb c = rb (decide (a = b)) := fun h => by rw [h]
  refine Split.mk fun t ht => ?_
  rw [bytes_beq] at ht
  cases t
  · refine Split.mk fun t ht1 => ?_
    cases t
    · refine Split.mk fun t ht2 => ?_
      cases t
      · refine Split.mk fun t ht3 => ?_
        rw [bytes_beq] at ht3
        cases t
        · refine Split.mk fun t ht4 => ?_
          cases t
          · exact Need.mk ⟨[], _, .same, fin (by cases a; cases b; simp_all), rfl⟩ trivial
          · exact Need.mk ⟨[], _, .same, fin (by cases a; cases b; simp_all), rfl⟩ trivial
        · exact Need.mk ⟨[], _, .same, fin (by cases a; cases b; simp_all), rfl⟩ trivial
      · exact Need.mk ⟨[], _, .same, fin (by cases a; cases b; simp_all), rfl⟩ trivial
    · exact Need.mk ⟨[], _, .same, fin (by cases a; cases b; simp_all), rfl⟩ trivial
  · exact Need.mk ⟨[], _, .same, fin (by cases a; cases b; simp_all), rfl⟩ trivial
end Go.Proofs.Yteddoandjgjleaa

namespace Go.Proofs.Yteddoandjgjleaa
open Go Go.Proofs Ev
set_option maxRecDepth 100000
theorem laws_eqEntryS (a b : List Ent) : AFn Try.prog 41 [sl (a.map Ent.enc), sl (b.map Ent.enc)] [] (rb (decide (a = b))) [] := by
  refine AFn.introX (E := En 0 md0) (en_ok 0 md0) Try.func41 rfl rfl rfl fun hs _ => ?_
  have ha := Small.len (hs _ (List.mem_cons_self ..))
  rw [List.length_map] at ha
  have fin : ∀ {c : Bool}, c = decide (a = b) → rb c = rb (decide (a = b)) := fun h => by rw [h]
  refine Split.mk fun t ht => ?_
  cases t
  · have hl : a.length = b.length := Int.ofNat_inj.1 (by simpa using ht)
    refine ALoop.mk (fun n s => ∃ i : Nat, i ≤ a.length ∧ n = a.length - i ∧ a.take i = b.take i ∧
      s = ⟨some (sl (a.map Ent.enc)) :: some (sl (b.map Ent.enc)) :: none :: none :: some (av (.bool false)) :: some (av (.int .i64 i)) :: List.replicate 21 none, List.replicate 27 absent⟩)
      ⟨a.length, _, Weak.nrm [true, true, false, false, true, true] [] rfl rfl rfl, 0, Nat.zero_le _, rfl, rfl, rfl⟩ ?_
    rintro n s ⟨i, hi, rfl, hp, rfl⟩
    refine Split.mk fun t ht => ?_
    cases t
    · have hia : i = a.length := by simp at ht; omega
      refine Need.mk ⟨[], _, .same, fin ?_, rfl⟩ trivial
      subst hia
      rw [List.take_length, hl, List.take_length] at hp
      simp [hp]
    · have hia : i < a.length := by simpa using ht
      refine Need.mk (by omega) ?_
      refine Row.mk _ (map_get _ a i hia) ?_
      refine Need.mk (by omega) ?_
      refine Row.mk _ (map_get _ b i (by omega)) ?_
      refine ACall.mk _ _ (laws_eqEntry a[i] (b[i]'(by omega))) ?_
      refine Split.mk fun t ht2 => ?_
      cases t
      · refine Need.mk rfl ?_
        refine Need.mk ⟨[], _, .same, fin ?_, rfl⟩ trivial
        have : a[i] ≠ b[i]'(by omega) := by simpa using ht2
        refine (decide_eq_false fun e => this ?_).symm
        subst e; rfl
      · refine Need.mk rfl ?_
        refine Num.mk _ (wrapS (by omega)) ?_
        refine ⟨a.length - (i + 1), _, by omega, Weak.nrm [true, true, false, false, true, true] [] rfl rfl rfl, i + 1, by omega, rfl, ?_, rfl⟩
        have : a[i] = b[i]'(by omega) := by simpa using ht2
        rw [List.take_succ_eq_append_getElem hia, List.take_succ_eq_append_getElem (by omega), hp, this]
  · refine Need.mk ⟨[], _, .same, fin ?_, rfl⟩ trivial
    have : a.length ≠ b.length := by
      intro e; simp [e] at ht
    exact (decide_eq_false fun e => this (by rw [e])).symm
end Go.Proofs.Yteddoandjgjleaa

namespace Go.Proofs.Yteddoandjgjleaa
open Go Go.Proofs Ev
set_option maxRecDepth 100000
theorem laws_eqRun (a b : Rn) : AFn Try.prog 36 [.agg (a.enc.map .c), .agg (b.enc.map .c)] [] (rb (decide (a = b))) [] := by
  refine AFn.introX (E := En 0 md0) (en_ok 0 md0) Try.func36 rfl rfl rfl fun _ _ => ?_
  have fin : ∀ {c : Bool}, c = decide (a = b) → rb c = rb (decide (a = b)) := fun h => by rw [h]
  refine ACall.mk _ _ (laws_eqEntryS a.ents b.ents) ?_
  refine Split.mk fun t ht => ?_
  cases t
  · exact Need.mk ⟨[], _, .same, fin (by cases a; cases b; simp_all), rfl⟩ trivial
  · refine Split.mk fun t ht1 => ?_
    cases t
    · exact Need.mk ⟨[], _, .same, fin (by cases a; cases b; simp_all), rfl⟩ trivial
    · exact Need.mk ⟨[], _, .same, fin (by cases a; cases b; simp_all), rfl⟩ trivial
end Go.Proofs.Yteddoandjgjleaa

namespace Go.Proofs.Yteddoandjgjleaa
open Go Go.Proofs Ev
set_option maxRecDepth 100000
theorem laws_eqRunS (a b : List Rn) : AFn Try.prog 115 [sl (a.map Rn.enc), sl (b.map Rn.enc)] [] (rb (decide (a = b))) [] := by
  refine AFn.introX (E := En 0 md0) (en_ok 0 md0) Try.func115 rfl rfl rfl fun hs _ => ?_
  have ha := Small.len (hs _ (List.mem_cons_self ..))
  rw [List.length_map] at ha
  have fin : ∀ {c : Bool}, c = decide (a = b) → rb c = rb (decide (a = b)) := fun h => by rw [h]
  refine Split.mk fun t ht => ?_
  cases t
  · have hl : a.length = b.length := Int.ofNat_inj.1 (by simpa using ht)
    refine ALoop.mk (fun n s => ∃ i : Nat, i ≤ a.length ∧ n = a.length - i ∧ a.take i = b.take i ∧
      s = ⟨some (sl (a.map Rn.enc)) :: some (sl (b.map Rn.enc)) :: none :: none :: some (av (.bool false)) :: some (av (.int .i64 i)) :: List.replicate 21 none, List.replicate 27 absent⟩)
      ⟨a.length, _, Weak.nrm [true, true, false, false, true, true] [] rfl rfl rfl, 0, Nat.zero_le _, rfl, rfl, rfl⟩ ?_
    rintro n s ⟨i, hi, rfl, hp, rfl⟩
    refine Split.mk fun t ht => ?_
    cases t
    · have hia : i = a.length := by simp at ht; omega
      refine Need.mk ⟨[], _, .same, fin ?_, rfl⟩ trivial
      subst hia
      rw [List.take_length, hl, List.take_length] at hp
      simp [hp]
    · have hia : i < a.length := by simpa using ht
      refine Need.mk (by omega) ?_
      refine Row.mk _ (map_get _ a i hia) ?_
      refine Need.mk (by omega) ?_
      refine Row.mk _ (map_get _ b i (by omega)) ?_
      refine ACall.mk _ _ (laws_eqRun a[i] (b[i]'(by omega))) ?_
      refine Split.mk fun t ht2 => ?_
      cases t
      · refine Need.mk rfl ?_
        refine Need.mk ⟨[], _, .same, fin ?_, rfl⟩ trivial
        have : a[i] ≠ b[i]'(by omega) := by simpa using ht2
        refine (decide_eq_false fun e => this ?_).symm
        subst e; rfl
      · refine Need.mk rfl ?_
        refine Num.mk _ (wrapS (by omega)) ?_
        refine ⟨a.length - (i + 1), _, by omega, Weak.nrm [true, true, false, false, true, true] [] rfl rfl rfl, i + 1, by omega, rfl, ?_, rfl⟩
        have : a[i] = b[i]'(by omega) := by simpa using ht2
        rw [List.take_succ_eq_append_getElem hia, List.take_succ_eq_append_getElem (by omega), hp, this]
  · refine Need.mk ⟨[], _, .same, fin ?_, rfl⟩ trivial
    have : a.length ≠ b.length := by
      intro e; simp [e] at ht
    exact (decide_eq_false fun e => this (by rw [e])).symm
end Go.Proofs.Yteddoandjgjleaa

namespace Go.Proofs.Yteddoandjgjleaa
open Go Go.Proofs Ev
set_option maxRecDepth 100000
theorem laws_eqRunSS (a b : List (List Rn)) : AFn Try.prog 63 [sl (a.map encL), sl (b.map encL)] [] (rb (decide (a = b))) [] := by
  refine AFn.introX (E := En 0 md0) (en_ok 0 md0) Try.func63 rfl rfl rfl fun hs _ => ?_
  have ha := Small.len (hs _ (List.mem_cons_self ..))
  rw [List.length_map] at ha
  have fin : ∀ {c : Bool}, c = decide (a = b) → rb c = rb (decide (a = b)) := fun h => by rw [h]
  refine Split.mk fun t ht => ?_
  cases t
  · have hl : a.length = b.length := Int.ofNat_inj.1 (by simpa using ht)
    refine ALoop.mk (fun n s => ∃ i : Nat, i ≤ a.length ∧ n = a.length - i ∧ a.take i = b.take i ∧
      s = ⟨some (sl (a.map encL)) :: some (sl (b.map encL)) :: none :: none :: some (av (.bool false)) :: some (av (.int .i64 i)) :: List.replicate 21 none, List.replicate 27 absent⟩)
      ⟨a.length, _, Weak.nrm [true, true, false, false, true, true] [] rfl rfl rfl, 0, Nat.zero_le _, rfl, rfl, rfl⟩ ?_
    rintro n s ⟨i, hi, rfl, hp, rfl⟩
    refine Split.mk fun t ht => ?_
    cases t
    · have hia : i = a.length := by simp at ht; omega
      refine Need.mk ⟨[], _, .same, fin ?_, rfl⟩ trivial
      subst hia
      rw [List.take_length, hl, List.take_length] at hp
      simp [hp]
    · have hia : i < a.length := by simpa using ht
      refine Need.mk (by omega) ?_
      refine Row.mk _ (map_get _ a i hia) ?_
      refine Need.mk (by omega) ?_
      refine Row.mk _ (map_get _ b i (by omega)) ?_
      refine ACall.mk _ _ (laws_eqRunS a[i] (b[i]'(by omega))) ?_
      refine Split.mk fun t ht2 => ?_
      cases t
      · refine Need.mk rfl ?_
        refine Need.mk ⟨[], _, .same, fin ?_, rfl⟩ trivial
        have : a[i] ≠ b[i]'(by omega) := by simpa using ht2
        refine (decide_eq_false fun e => this ?_).symm
        subst e; rfl
      · refine Need.mk rfl ?_
        refine Num.mk _ (wrapS (by omega)) ?_
        refine ⟨a.length - (i + 1), _, by omega, Weak.nrm [true, true, false, false, true, true] [] rfl rfl rfl, i + 1, by omega, rfl, ?_, rfl⟩
        have : a[i] = b[i]'(by omega) := by simpa using ht2
        rw [List.take_succ_eq_append_getElem hia, List.take_succ_eq_append_getElem (by omega), hp, this]
  · refine Need.mk ⟨[], _, .same, fin ?_, rfl⟩ trivial
    have : a.length ≠ b.length := by
      intro e; simp [e] at ht
    exact (decide_eq_false fun e => this (by rw [e])).symm
end Go.Proofs.Yteddoandjgjleaa

namespace Go.Proofs.Yteddoandjgjleaa
open Go Go.Proofs Ev
set_option maxRecDepth 100000
theorem laws_eqIntS (a b : List Int) : AFn Try.prog 64 [sl (a.map encI), sl (b.map encI)] [] (rb (decide (a = b))) [] := by
  refine AFn.introX (E := En 0 md0) (en_ok 0 md0) Try.func64 rfl rfl rfl fun hs _ => ?_
  have ha := Small.len (hs _ (List.mem_cons_self ..))
  rw [List.length_map] at ha
  have fin : ∀ {c : Bool}, c = decide (a = b) → rb c = rb (decide (a = b)) := fun h => by rw [h]
  refine Split.mk fun t ht => ?_
  cases t
  · have hl : a.length = b.length := Int.ofNat_inj.1 (by simpa using ht)
    refine ALoop.mk (fun n s => ∃ i : Nat, i ≤ a.length ∧ n = a.length - i ∧ a.take i = b.take i ∧
      s = ⟨some (sl (a.map encI)) :: some (sl (b.map encI)) :: none :: none :: some (av (.bool false)) :: some (av (.int .i64 i)) :: List.replicate 20 none, List.replicate 26 absent⟩)
      ⟨a.length, _, Weak.nrm [true, true, false, false, true, true] [] rfl rfl rfl, 0, Nat.zero_le _, rfl, rfl, rfl⟩ ?_
    rintro n s ⟨i, hi, rfl, hp, rfl⟩
    refine Split.mk fun t ht => ?_
    cases t
    · have hia : i = a.length := by simp at ht; omega
      refine Need.mk ⟨[], _, .same, fin ?_, rfl⟩ trivial
      subst hia
      rw [List.take_length, hl, List.take_length] at hp
      simp [hp]
    · have hia : i < a.length := by simpa using ht
      refine Need.mk (by omega) ?_
      refine Row.mk _ (map_get _ a i hia) ?_
      refine Need.mk (by omega) ?_
      refine Row.mk _ (map_get _ b i (by omega)) ?_
      refine Split.mk fun t ht2 => ?_
      cases t
      · refine Need.mk rfl ?_
        refine Num.mk _ (wrapS (by omega)) ?_
        refine ⟨a.length - (i + 1), _, by omega, Weak.nrm [true, true, false, false, true, true] [] rfl rfl rfl, i + 1, by omega, rfl, ?_, rfl⟩
        have : a[i] = b[i]'(by omega) := by simpa using ht2
        rw [List.take_succ_eq_append_getElem hia, List.take_succ_eq_append_getElem (by omega), hp, this]
      · refine Need.mk rfl ?_
        refine Need.mk ⟨[], _, .same, fin ?_, rfl⟩ trivial
        have : a[i] ≠ b[i]'(by omega) := by simpa using ht2
        refine (decide_eq_false fun e => this ?_).symm
        subst e; rfl
  · refine Need.mk ⟨[], _, .same, fin ?_, rfl⟩ trivial
    have : a.length ≠ b.length := by
      intro e; simp [e] at ht
    exact (decide_eq_false fun e => this (by rw [e])).symm
end Go.Proofs.Yteddoandjgjleaa

namespace Go.Proofs.Yteddoandjgjleaa
open Go Go.Proofs Ev
set_option maxRecDepth 100000
theorem laws_eqTree (a b : Tre) : AFn Try.prog 16 [.agg (a.enc.map .c), .agg (b.enc.map .c)] [] (rb (decide (a = b))) [] := by
  refine AFn.introX (E := En 0 md0) (en_ok 0 md0) Try.func16 rfl rfl rfl fun _ _ => ?_
  have fin : ∀ {c : Bool}, c = decide (a = b) → rb c = rb (decide (a = b)) := fun h => by rw [h]
  refine Split.mk fun t ht => ?_
  cases t
  · refine ACall.mk _ _ (laws_eqEntryS a.mem b.mem) ?_
    refine Split.mk fun t ht1 => ?_
    cases t
    · exact Need.mk ⟨[], _, .same, fin (by cases a; cases b; simp_all), rfl⟩ trivial
    · refine ACall.mk _ _ (laws_eqRunSS a.levels b.levels) ?_
      refine Split.mk fun t ht2 => ?_
      cases t
      · exact Need.mk ⟨[], _, .same, fin (by cases a; cases b; simp_all), rfl⟩ trivial
      · refine ACall.mk _ _ (laws_eqIntS a.snaps b.snaps) ?_
        refine Split.mk fun t ht3 => ?_
        cases t
        · exact Need.mk ⟨[], _, .same, fin (by cases a; cases b; simp_all), rfl⟩ trivial
        · exact Need.mk ⟨[], _, .same, fin (by cases a; cases b; simp_all), rfl⟩ trivial
  · exact Need.mk ⟨[], _, .same, fin (by cases a; cases b; simp_all), rfl⟩ trivial
end Go.Proofs.Yteddoandjgjleaa

namespace Go.Proofs.Yteddoandjgjleaa
open Go Go.Proofs Ev
set_option maxRecDepth 100000
theorem laws_eqDisk (a b : Dsk) : AFn Try.prog 69 [.agg (a.enc.map .c), .agg (b.enc.map .c)] [] (rb (decide (a = b))) [] := by
  refine AFn.introX (E := En 0 md0) (en_ok 0 md0) Try.func69 rfl rfl rfl fun _ _ => ?_
  have fin : ∀ {c : Bool}, c = decide (a = b) → rb c = rb (decide (a = b)) := fun h => by rw [h]
  refine Split.mk fun t ht => ?_
  rw [bytes_beq] at ht
  cases t
  · refine Split.mk fun t ht1 => ?_
    cases t
    · refine ACall.mk _ _ (laws_eqRunSS a.levels b.levels) ?_
      refine Split.mk fun t ht2 => ?_
      cases t
      · exact Need.mk ⟨[], _, .same, fin (by cases a; cases b; simp_all), rfl⟩ trivial
      · refine Split.mk fun t ht3 => ?_
        cases t
        · exact Need.mk ⟨[], _, .same, fin (by cases a; cases b; simp_all), rfl⟩ trivial
        · exact Need.mk ⟨[], _, .same, fin (by cases a; cases b; simp_all), rfl⟩ trivial
    · exact Need.mk ⟨[], _, .same, fin (by cases a; cases b; simp_all), rfl⟩ trivial
  · exact Need.mk ⟨[], _, .same, fin (by cases a; cases b; simp_all), rfl⟩ trivial
theorem laws_eqStore (a b : Sto) : AFn Try.prog 21 [.agg (a.enc.map .c), .agg (b.enc.map .c)] [] (rb (decide (a = b))) [] := by
  refine AFn.introX (E := En 0 md0) (en_ok 0 md0) Try.func21 rfl rfl rfl fun _ _ => ?_
  have fin : ∀ {c : Bool}, c = decide (a = b) → rb c = rb (decide (a = b)) := fun h => by rw [h]
  refine Split.mk fun t ht => ?_
  cases t
  · refine ACall.mk _ _ (laws_eqTree a.tree b.tree) ?_
    refine Split.mk fun t ht1 => ?_
    cases t
    · exact Need.mk ⟨[], _, .same, fin (by cases a; cases b; simp_all), rfl⟩ trivial
    · refine ACall.mk _ _ (laws_eqDisk a.disk b.disk) ?_
      refine Split.mk fun t ht2 => ?_
      cases t
      · exact Need.mk ⟨[], _, .same, fin (by cases a; cases b; simp_all), rfl⟩ trivial
      · exact Need.mk ⟨[], _, .same, fin (by cases a; cases b; simp_all), rfl⟩ trivial
  · exact Need.mk ⟨[], _, .same, fin (by cases a; cases b; simp_all), rfl⟩ trivial
end Go.Proofs.Yteddoandjgjleaa

namespace Go.Proofs.Yteddoandjgjleaa
open Go Go.Proofs Ev
set_option maxRecDepth 100000
theorem frzR (xs : List Rn) : Frz (.us 57 (xs.map encO)) (.sl (xs.map Rn.enc)) := frz_map fun r _ => .cons (frzE r.ents) (.cons .v .nil)
theorem frzRR (xs : List (List Rn)) : Frz (.us 91 (xs.map encLO)) (.sl (xs.map encL)) := frz_map fun r _ => .cons (frzR r) .nil
end Go.Proofs.Yteddoandjgjleaa

namespace Go.Proofs.Yteddoandjgjleaa
open Go Go.Proofs Ev
set_option maxRecDepth 100000
theorem laws_FnExactStoreSame (a b : Sto) (ha : a.Ok) (hb : b.Ok) : AFn Try.prog 6 [.agg (a.enc.map .c), .agg (b.enc.map .c)] [] (rb true) [] := by
  refine AFn.introX (E := En 0 md0) (en_ok 0 md0) Try.func6 rfl rfl rfl fun _ _ => ?_
  by_cases h1 : a.size ≤ 1048576
  · refine ACall.mk (.one (vi ((1048576 - a.size : Nat) : Int))) [] (by rw [← cut_pos h1]; exact laws_szStore a 1048576 ha (Nat.le_refl _)) ?_
    refine Split.mk fun t ht => ?_
    cases t
    · by_cases h2 : b.size ≤ 1048576 - a.size
      · refine ACall.mk (.one (vi ((1048576 - a.size - b.size : Nat) : Int))) [] (by rw [← cut_pos h2]; exact laws_szStore b (1048576 - a.size) hb (by omega)) ?_
        have hz : a.size = a.tree.size + a.disk.size := rfl
        have hz2 : b.size = b.tree.size + b.disk.size := rfl
        have sa : a.tree.Small := Tre.small (by omega)
        have sa2 : a.disk.Small := Dsk.small (by omega)
        have sb : b.tree.Small := Tre.small (by omega)
        have sb2 : b.disk.Small := Dsk.small (by omega)
        refine Split.mk fun t ht => ?_
        cases t
        · refine ACall.mk _ _ (laws_toStore a sa sa2) ?_
          refine ACall.mk _ _ (laws_toStore b sb sb2) ?_
          refine Fz.mk _ (frzE a.tree.mem) ?_
          refine Fz.mk _ (frzRR a.tree.levels) ?_
          refine Fz.mk _ (frzI a.tree.snaps) ?_
          refine Fz.mk _ (frzRR a.disk.levels) ?_
          refine Fz.mk _ (frzE b.tree.mem) ?_
          refine Fz.mk _ (frzRR b.tree.levels) ?_
          refine Fz.mk _ (frzI b.tree.snaps) ?_
          refine Fz.mk _ (frzRR b.disk.levels) ?_
          refine ACall.mk _ _ (spec_StoreSame a b) ?_
          refine Need.mk ⟨closed_v, no_objs⟩ ?_
          refine Split.mk fun t ht1 => ?_
          refine Need.mk rfl ?_
          refine ACall.mk _ _ (laws_toStore a sa sa2) ?_
          refine ACall.mk _ _ (laws_toStore b sb sb2) ?_
          refine Fz.mk _ (frzE a.tree.mem) ?_
          refine Fz.mk _ (frzRR a.tree.levels) ?_
          refine Fz.mk _ (frzI a.tree.snaps) ?_
          refine Fz.mk _ (frzRR a.disk.levels) ?_
          refine Fz.mk _ (frzE b.tree.mem) ?_
          refine Fz.mk _ (frzRR b.tree.levels) ?_
          refine Fz.mk _ (frzI b.tree.snaps) ?_
          refine Fz.mk _ (frzRR b.disk.levels) ?_
          refine ACall.mk _ _ (impl_StoreSame a b) ?_
          refine Need.mk ⟨closed_v, no_objs⟩ ?_
          refine Split.mk fun t ht2 => ?_
          refine Split.mk fun t ht3 => ?_
          cases t
          · refine ACall.mk _ _ (laws_toStore a sa sa2) ?_
            refine Fz.mk _ (frzE a.tree.mem) ?_
            refine Fz.mk _ (frzRR a.tree.levels) ?_
            refine Fz.mk _ (frzI a.tree.snaps) ?_
            refine Fz.mk _ (frzRR a.disk.levels) ?_
            refine Fz.mk _ (frzE a.tree.mem) ?_
            refine Fz.mk _ (frzRR a.tree.levels) ?_
            refine Fz.mk _ (frzI a.tree.snaps) ?_
            refine Fz.mk _ (frzRR a.disk.levels) ?_
            refine ACall.mk _ _ (laws_eqStore a a) ?_
            refine Need.mk ⟨closed_v, no_objs⟩ ?_
            refine Split.mk fun t ht4 => ?_
            refine Need.mk rfl ?_
            cases t
            · simp at ht4
            · refine ACall.mk _ _ (laws_toStore b sb sb2) ?_
              refine Fz.mk _ (frzE b.tree.mem) ?_
              refine Fz.mk _ (frzRR b.tree.levels) ?_
              refine Fz.mk _ (frzI b.tree.snaps) ?_
              refine Fz.mk _ (frzRR b.disk.levels) ?_
              refine Fz.mk _ (frzE b.tree.mem) ?_
              refine Fz.mk _ (frzRR b.tree.levels) ?_
              refine Fz.mk _ (frzI b.tree.snaps) ?_
              refine Fz.mk _ (frzRR b.disk.levels) ?_
              refine ACall.mk _ _ (laws_eqStore b b) ?_
              refine Need.mk ⟨closed_v, no_objs⟩ ?_
              refine Split.mk fun t ht5 => ?_
              refine Need.mk rfl ?_
              cases t
              · simp at ht5
              · exact Need.mk ⟨[], _, .same, rfl, rfl⟩ trivial
          · subst ht1; subst ht2; simp at ht3
        · simp at ht <;> omega
      · refine ACall.mk (.one (vi (-1))) [] (by rw [← cut_neg h2]; exact laws_szStore b (1048576 - a.size) hb (by omega)) ?_
        refine Split.mk fun t ht => ?_
        cases t
        · simp at ht
        · exact Need.mk ⟨[], _, .same, rfl, rfl⟩ trivial
    · simp at ht <;> omega
  · refine ACall.mk (.one (vi (-1))) [] (by rw [← cut_neg h1]; exact laws_szStore a 1048576 ha (Nat.le_refl _)) ?_
    refine Split.mk fun t ht => ?_
    cases t
    · simp at ht
    · exact Need.mk ⟨[], _, .same, rfl, rfl⟩ trivial
theorem laws_FnExactStoreSame_any (r0 : List C) (h0 : ShL tySto r0) (r1 : List C) (h1 : ShL tySto r1) : AFn Try.prog 6 [.agg (r0.map .c), .agg (r1.map .c)] [] (rb true) [] := by
  obtain ⟨a, rfl, wa⟩ := dec_sto h0
  obtain ⟨b, rfl, wb⟩ := dec_sto h1
  exact laws_FnExactStoreSame a b wa.ok wb.ok
end Go.Proofs.Yteddoandjgjleaa
