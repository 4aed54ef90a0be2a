/-
  Contracts of functions, part 1.
-/
import Derived.Test.YtncnajcpoacdjaaDoorEvD
import Derived.Test.YtncnajcpoacdjaaDoorProg
import Derived.KernelRfl
set_option linter.unusedVariables false
set_option linter.unusedSimpArgs false
namespace Go.Proofs.YtncnajcpoacdjaaDoor
open Go Go.Proofs Ev
def tab : List (TypeId × TI) := [
  (2, ⟨1, 8, false, .int .i64, [.int .i64 0], [none], none⟩),
  (3, ⟨1, 8, false, .int .i64, [.int .i64 0], [none], none⟩),
  (4, ⟨1, 1, false, .bool, [.bool false], [none], none⟩),
  (5, ⟨1, 1, false, .int .u8, [.int .u8 0], [none], none⟩),
  (9, ⟨1, 16, false, .str, [.string ⟨#[]⟩], [none], none⟩),
  (12, ⟨1, 8, false, .int .u64, [.int .u64 0], [none], none⟩),
  (20, ⟨1, 16, false, .other, [.nilIface], [none], none⟩),
  (21, ⟨1, 4, false, .int .i32, [.int .i32 0], [none], none⟩),
  (22, ⟨1, 24, false, .slice 41, [nilV], [some 41], none⟩),
  (23, ⟨1, 8, false, .other, [.nilFunc], [none], none⟩),
  (24, ⟨1, 8, false, .other, [.nilFunc], [none], none⟩),
  (25, ⟨1, 24, false, .slice 43, [nilV], [some 43], none⟩),
  (26, ⟨1, 8, false, .other, [.nilFunc], [none], none⟩),
  (27, ⟨1, 8, false, .other, [.nilFunc], [none], none⟩),
  (28, ⟨1, 8, false, .other, [.nilFunc], [none], none⟩),
  (29, ⟨1, 24, false, .slice 25, [nilV], [some 25], none⟩),
  (31, ⟨1, 8, false, .other, [.nilFunc], [none], none⟩),
  (32, ⟨1, 8, false, .other, [.nilFunc], [none], none⟩),
  (33, ⟨1, 8, false, .other, [.nilFunc], [none], none⟩),
  (34, ⟨1, 8, false, .other, [.nilFunc], [none], none⟩),
  (35, ⟨1, 24, false, .slice 5, [nilV], [some 5], none⟩),
  (36, ⟨1, 8, false, .other, [.nilFunc], [none], none⟩),
  (37, ⟨1, 8, false, .other, [.nilFunc], [none], none⟩),
  (38, ⟨1, 8, false, .other, [.nilFunc], [none], none⟩),
  (39, ⟨1, 8, false, .other, [.nilFunc], [none], none⟩),
  (40, ⟨5, 56, true, .struct [(0, 9), (1, 3), (2, 3), (3, 9), (4, 3)], [.string ⟨#[]⟩, .int .i64 0, .int .i64 0, .string ⟨#[]⟩, .int .i64 0], [none, none, none, none, none], some [.str, .int .i64, .int .i64, .str, .int .i64]⟩),
  (41, ⟨5, 56, true, .struct [(0, 9), (1, 3), (2, 3), (3, 9), (4, 3)], [.string ⟨#[]⟩, .int .i64 0, .int .i64 0, .string ⟨#[]⟩, .int .i64 0], [none, none, none, none, none], some [.str, .int .i64, .int .i64, .str, .int .i64]⟩),
  (42, ⟨1, 8, false, .other, [.nilFunc], [none], none⟩),
  (43, ⟨5, 56, true, .struct [(0, 9), (1, 3), (2, 3), (3, 9), (4, 3)], [.string ⟨#[]⟩, .int .i64 0, .int .i64 0, .string ⟨#[]⟩, .int .i64 0], [none, none, none, none, none], some [.str, .int .i64, .int .i64, .str, .int .i64]⟩),
  (44, ⟨1, 8, false, .other, [.nilFunc], [none], none⟩),
  (45, ⟨1, 8, false, .other, [.nilFunc], [none], none⟩),
  (46, ⟨1, 8, false, .ptr, [.pointer none], [none], none⟩),
  (47, ⟨2, 32, true, .struct [(0, 46), (1, 35)], [.pointer none, nilV], [none, some 5], none⟩),
  (48, ⟨2, 32, true, .struct [(0, 46), (1, 35)], [.pointer none, nilV], [none, some 5], none⟩),
  (49, ⟨1, 16, false, .other, [.nilIface], [none], none⟩),
  (50, ⟨1, 16, false, .other, [.nilIface], [none], none⟩),
  (52, ⟨1, 8, false, .other, [.nilFunc], [none], none⟩),
  (53, ⟨1, 24, false, .slice 3, [nilV], [some 3], none⟩),
  (54, ⟨1, 8, false, .other, [.nilFunc], [none], none⟩),
  (55, ⟨1, 8, false, .other, [.nilFunc], [none], none⟩),
  (56, ⟨1, 8, false, .other, [.nilFunc], [none], none⟩),
  (58, ⟨1, 8, false, .other, [.nilFunc], [none], none⟩),
  (59, ⟨2, 24, true, .struct [(0, 9), (1, 3)], [.string ⟨#[]⟩, .int .i64 0], [none, none], some [.str, .int .i64]⟩),
  (60, ⟨2, 24, true, .struct [(0, 9), (1, 3)], [.string ⟨#[]⟩, .int .i64 0], [none, none], some [.str, .int .i64]⟩),
  (62, ⟨1, 8, false, .other, [.nilFunc], [none], none⟩),
  (63, ⟨1, 8, false, .other, [.nilFunc], [none], none⟩),
  (64, ⟨1, 8, false, .ptr, [.pointer none], [none], none⟩),
  (65, ⟨1, 8, false, .other, [.nilFunc], [none], none⟩),
  (66, ⟨1, 8, false, .other, [.nilFunc], [none], none⟩),
  (67, ⟨1, 8, false, .other, [.nilFunc], [none], none⟩),
  (68, ⟨1, 8, false, .other, [.nilFunc], [none], none⟩),
  (69, ⟨1, 8, false, .other, [.nilFunc], [none], none⟩),
  (70, ⟨1, 8, false, .other, [.nilFunc], [none], none⟩),
  (71, ⟨1, 24, false, .slice 9, [nilV], [some 9], none⟩),
  (72, ⟨1, 8, false, .other, [.nilFunc], [none], none⟩),
  (73, ⟨1, 8, false, .ptr, [.pointer none], [none], none⟩),
  (75, ⟨1, 8, false, .other, [.nilFunc], [none], none⟩),
  (76, ⟨1, 8, false, .other, [.nilFunc], [none], none⟩),
  (77, ⟨1, 8, false, .ptr, [.pointer none], [none], none⟩),
  (79, ⟨1, 8, false, .other, [.nilFunc], [none], none⟩),
  (81, ⟨1, 8, false, .other, [.nilFunc], [none], none⟩),
  (83, ⟨1, 8, false, .other, [.nilFunc], [none], none⟩),
  (84, ⟨2, 32, true, .struct [(0, 35), (1, 3)], [nilV, .int .i64 0], [some 5, none], none⟩),
  (85, ⟨2, 32, true, .struct [(0, 35), (1, 3)], [nilV, .int .i64 0], [some 5, none], none⟩),
  (86, ⟨1, 8, false, .other, [.nilFunc], [none], none⟩),
  (87, ⟨1, 8, false, .other, [.nilFunc], [none], none⟩),
  (88, ⟨1, 8, false, .other, [.nilFunc], [none], none⟩),
  (89, ⟨1, 8, false, .other, [.nilFunc], [none], none⟩),
  (90, ⟨1, 8, false, .other, [.pointer none], [none], none⟩),
  (91, ⟨1, 8, false, .other, [.nilFunc], [none], none⟩),
  (92, ⟨1, 8, false, .other, [.nilFunc], [none], none⟩),
  (94, ⟨1, 8, false, .other, [.nilFunc], [none], none⟩),
  (95, ⟨1, 8, false, .other, [.nilFunc], [none], none⟩),
  (97, ⟨1, 8, false, .other, [.nilFunc], [none], none⟩),
  (98, ⟨1, 8, false, .other, [.nilFunc], [none], none⟩),
  (99, ⟨4, 32, true, .array 4 3, [.int .i64 0, .int .i64 0, .int .i64 0, .int .i64 0], [none, none, none, none], none⟩),
  (100, ⟨1, 8, false, .other, [.nilFunc], [none], none⟩),
  (101, ⟨24, 24, true, .array 24 5, [.int .u8 0, .int .u8 0, .int .u8 0, .int .u8 0, .int .u8 0, .int .u8 0, .int .u8 0, .int .u8 0, .int .u8 0, .int .u8 0, .int .u8 0, .int .u8 0, .int .u8 0, .int .u8 0, .int .u8 0, .int .u8 0, .int .u8 0, .int .u8 0, .int .u8 0, .int .u8 0, .int .u8 0, .int .u8 0, .int .u8 0, .int .u8 0], [none, none, none, none, none, none, none, none, none, none, none, none, none, none, none, none, none, none, none, none, none, none, none, none], none⟩),
  (102, ⟨1, 8, false, .int .u64, [.int .u64 0], [none], none⟩),
  (103, ⟨1, 8, false, .other, [.nilFunc], [none], none⟩),
  (104, ⟨1, 8, false, .other, [.nilFunc], [none], none⟩),
  (106, ⟨1, 8, false, .other, [.nilFunc], [none], none⟩),
  (107, ⟨1, 8, false, .other, [.nilFunc], [none], none⟩),
  (108, ⟨1, 8, false, .other, [.nilFunc], [none], none⟩),
  (109, ⟨1, 8, false, .other, [.nilFunc], [none], none⟩),
  (110, ⟨20, 160, true, .array 20 102, [.int .u64 0, .int .u64 0, .int .u64 0, .int .u64 0, .int .u64 0, .int .u64 0, .int .u64 0, .int .u64 0, .int .u64 0, .int .u64 0, .int .u64 0, .int .u64 0, .int .u64 0, .int .u64 0, .int .u64 0, .int .u64 0, .int .u64 0, .int .u64 0, .int .u64 0, .int .u64 0], [none, none, none, none, none, none, none, none, none, none, none, none, none, none, none, none, none, none, none, none], none⟩),
  (111, ⟨1, 4, false, .int .u32, [.int .u32 0], [none], none⟩),
  (112, ⟨65, 65, true, .array 65 5, [.int .u8 0, .int .u8 0, .int .u8 0, .int .u8 0, .int .u8 0, .int .u8 0, .int .u8 0, .int .u8 0, .int .u8 0, .int .u8 0, .int .u8 0, .int .u8 0, .int .u8 0, .int .u8 0, .int .u8 0, .int .u8 0, .int .u8 0, .int .u8 0, .int .u8 0, .int .u8 0, .int .u8 0, .int .u8 0, .int .u8 0, .int .u8 0, .int .u8 0, .int .u8 0, .int .u8 0, .int .u8 0, .int .u8 0, .int .u8 0, .int .u8 0, .int .u8 0, .int .u8 0, .int .u8 0, .int .u8 0, .int .u8 0, .int .u8 0, .int .u8 0, .int .u8 0, .int .u8 0, .int .u8 0, .int .u8 0, .int .u8 0, .int .u8 0, .int .u8 0, .int .u8 0, .int .u8 0, .int .u8 0, .int .u8 0, .int .u8 0, .int .u8 0, .int .u8 0, .int .u8 0, .int .u8 0, .int .u8 0, .int .u8 0, .int .u8 0, .int .u8 0, .int .u8 0, .int .u8 0, .int .u8 0, .int .u8 0, .int .u8 0, .int .u8 0, .int .u8 0], [none, none, none, none, none, none, none, none, none, none, none, none, none, none, none, none, none, none, none, none, none, none, none, none, none, none, none, none, none, none, none, none, none, none, none, none, none, none, none, none, none, none, none, none, none, none, none, none, none, none, none, none, none, none, none, none, none, none, none, none, none, none, none, none, none], none⟩),
  (113, ⟨1, 8, false, .int .u64, [.int .u64 0], [none], none⟩),
  (114, ⟨1, 8, false, .other, [.nilFunc], [none], none⟩),
  (115, ⟨1, 8, false, .int .i64, [.int .i64 0], [none], none⟩),
  (117, ⟨1, 8, false, .other, [.nilFunc], [none], none⟩),
  (118, ⟨1, 8, false, .ptr, [.pointer none], [none], none⟩),
  (119, ⟨1, 8, false, .other, [.nilFunc], [none], none⟩),
  (120, ⟨1, 8, false, .other, [.nilFunc], [none], none⟩),
  (121, ⟨1, 8, false, .other, [.nilFunc], [none], none⟩),
  (123, ⟨1, 8, false, .other, [.nilFunc], [none], none⟩),
  (124, ⟨1, 8, false, .other, [.nilFunc], [none], none⟩),
  (125, ⟨3, 48, true, .struct [(0, 9), (1, 9), (2, 50)], [.string ⟨#[]⟩, .string ⟨#[]⟩, .nilIface], [none, none, none], none⟩),
  (126, ⟨3, 48, true, .struct [(0, 9), (1, 9), (2, 50)], [.string ⟨#[]⟩, .string ⟨#[]⟩, .nilIface], [none, none, none], none⟩),
  (127, ⟨1, 8, false, .other, [.nilFunc], [none], none⟩),
  (128, ⟨32, 32, true, .array 32 5, [.int .u8 0, .int .u8 0, .int .u8 0, .int .u8 0, .int .u8 0, .int .u8 0, .int .u8 0, .int .u8 0, .int .u8 0, .int .u8 0, .int .u8 0, .int .u8 0, .int .u8 0, .int .u8 0, .int .u8 0, .int .u8 0, .int .u8 0, .int .u8 0, .int .u8 0, .int .u8 0, .int .u8 0, .int .u8 0, .int .u8 0, .int .u8 0, .int .u8 0, .int .u8 0, .int .u8 0, .int .u8 0, .int .u8 0, .int .u8 0, .int .u8 0, .int .u8 0], [none, none, none, none, none, none, none, none, none, none, none, none, none, none, none, none, none, none, none, none, none, none, none, none, none, none, none, none, none, none, none, none], none⟩),
  (129, ⟨64, 64, true, .array 64 5, [.int .u8 0, .int .u8 0, .int .u8 0, .int .u8 0, .int .u8 0, .int .u8 0, .int .u8 0, .int .u8 0, .int .u8 0, .int .u8 0, .int .u8 0, .int .u8 0, .int .u8 0, .int .u8 0, .int .u8 0, .int .u8 0, .int .u8 0, .int .u8 0, .int .u8 0, .int .u8 0, .int .u8 0, .int .u8 0, .int .u8 0, .int .u8 0, .int .u8 0, .int .u8 0, .int .u8 0, .int .u8 0, .int .u8 0, .int .u8 0, .int .u8 0, .int .u8 0, .int .u8 0, .int .u8 0, .int .u8 0, .int .u8 0, .int .u8 0, .int .u8 0, .int .u8 0, .int .u8 0, .int .u8 0, .int .u8 0, .int .u8 0, .int .u8 0, .int .u8 0, .int .u8 0, .int .u8 0, .int .u8 0, .int .u8 0, .int .u8 0, .int .u8 0, .int .u8 0, .int .u8 0, .int .u8 0, .int .u8 0, .int .u8 0, .int .u8 0, .int .u8 0, .int .u8 0, .int .u8 0, .int .u8 0, .int .u8 0, .int .u8 0, .int .u8 0], [none, none, none, none, none, none, none, none, none, none, none, none, none, none, none, none, none, none, none, none, none, none, none, none, none, none, none, none, none, none, none, none, none, none, none, none, none, none, none, none, none, none, none, none, none, none, none, none, none, none, none, none, none, none, none, none, none, none, none, none, none, none, none, none], none⟩),
  (130, ⟨1, 8, false, .other, [.nilFunc], [none], none⟩),
  (131, ⟨1, 8, false, .ptr, [.pointer none], [none], none⟩),
  (132, ⟨1, 16, true, .struct [(0, 9)], [.string ⟨#[]⟩], [none], some [.str]⟩),
  (133, ⟨1, 16, true, .struct [(0, 9)], [.string ⟨#[]⟩], [none], some [.str]⟩),
  (134, ⟨4, 40, true, .struct [(0, 17), (1, 17), (2, 17), (3, 9)], [.pointer none, .pointer none, .pointer none, .string ⟨#[]⟩], [none, none, none, none], none⟩),
  (135, ⟨4, 40, true, .struct [(0, 17), (1, 17), (2, 17), (3, 9)], [.pointer none, .pointer none, .pointer none, .string ⟨#[]⟩], [none, none, none, none], none⟩),
  (136, ⟨0, 0, true, .array 0 16, [], [], none⟩),
  (139, ⟨1, 1, false, .int .u8, [.int .u8 0], [none], none⟩),
  (140, ⟨1, 1, false, .int .u8, [.int .u8 0], [none], none⟩),
  (141, ⟨1, 8, false, .other, [.nilFunc], [none], none⟩),
  (142, ⟨1, 4, false, .int .i32, [.int .i32 0], [none], none⟩),
  (143, ⟨1, 4, false, .int .i32, [.int .i32 0], [none], none⟩),
  (144, ⟨11, 48, true, .struct [(0, 12), (1, 12), (2, 111), (3, 139), (4, 5), (5, 5), (6, 140), (7, 141), (8, 73), (9, 142), (10, 143)], [.int .u64 0, .int .u64 0, .int .u32 0, .int .u8 0, .int .u8 0, .int .u8 0, .int .u8 0, .nilFunc, .pointer none, .int .i32 0, .int .i32 0], [none, none, none, none, none, none, none, none, none, none, none], none⟩),
  (145, ⟨11, 48, true, .struct [(0, 12), (1, 12), (2, 111), (3, 139), (4, 5), (5, 5), (6, 140), (7, 141), (8, 73), (9, 142), (10, 143)], [.int .u64 0, .int .u64 0, .int .u32 0, .int .u8 0, .int .u8 0, .int .u8 0, .int .u8 0, .nilFunc, .pointer none, .int .i32 0, .int .i32 0], [none, none, none, none, none, none, none, none, none, none, none], none⟩),
  (146, ⟨1, 8, false, .other, [.nilFunc], [none], none⟩)]
set_option maxRecDepth 100000
theorem tab_ok : tabB Tryd.prog tab = true := by kernel_rfl
theorem mixed : Tryd.prog.follows .mixedOrders = true := by kernel_rfl
def mtab : List (TypeId × String × MI) := [(77, "loop.example/comptoir/impl.batch", .val 30), (77, "loop.example/comptoir/impl.entry", .val 47), (77, "loop.example/comptoir/impl.number", .val 45), (77, "loop.example/comptoir/impl.take", .val 46), (77, "loop.example/comptoir/impl.word", .val 60)]
theorem mtab_ok : mtB Tryd.prog mtab = true := by kernel_rfl
noncomputable def En (m : Nat) (md : FuncId → Nat) (cb : List Nat := []) (vw : List Nat := []) (fz : List Nat := []) (fb : List Nat := []) (ws : List Nat := []) (me : Option TypeId := none) : Env := ⟨Tryd.prog, findT tab, md, m, cb, mtab, vw, fz, fb, ws, me⟩
theorem en_ok (m : Nat) (md : FuncId → Nat) (cb : List Nat := []) (vw : List Nat := []) (fz : List Nat := []) (fb : List Nat := []) (ws : List Nat := []) (me : Option TypeId := none) : EOk (En m md cb vw fz fb ws me) := eok_of tab_ok mtab_ok mixed
def md0 : FuncId → Nat := fun _ => 0
def md1 (l : List FuncId) : FuncId → Nat := fun f => bif l.elem f then 1 else 0
end Go.Proofs.YtncnajcpoacdjaaDoor

namespace Go.Proofs.YtncnajcpoacdjaaDoor
open Go Go.Proofs Ev
set_option maxRecDepth 100000
set_option maxHeartbeats 40000000
set_option linter.unusedSimpArgs false
set_option linter.unusedVariables false
def encO (r : Rn) : List C := [.us 43 (r.ents.map Ent.enc), vi r.mask]
theorem clO (xs : List Rn) : ∀ r ∈ xs.map encO, ClL r := cl_map (f := encO) (fun l => .us (clE l.ents) (.v .nil)) xs
theorem laws_wpEnts (a b : List Ent) (ha : a.length ≤ 1048576) : AFn Tryd.prog 17 [sl (a.map Ent.enc), sl (b.map Ent.enc)] [] (rb (decide (a = b))) [] := by
  refine AFn.introX (E := En 0 md0) (en_ok 0 md0) Tryd.func17 rfl rfl rfl fun _ _ => ?_
  have fin : ∀ {c : Bool}, c = decide (a = b) → rb c = rb (decide (a = b)) := fun h => by rw [h]
  have hal : (a.map Ent.enc).length = a.length := List.length_map ..
  have hbl : (b.map Ent.enc).length = b.length := List.length_map ..
  refine Split.mk fun t ht => ?_
  cases t
  · have hl : a.length = b.length := Int.ofNat_inj.1 (by simpa using ht)
    refine ALoop.mk (fun n s => ∃ i : Nat, i ≤ a.length ∧ n = a.length - i ∧ a.take i = b.take i ∧
      s = ⟨some (sl (a.map Ent.enc)) :: some (sl (b.map Ent.enc)) :: none :: none :: some (av (.bool false)) :: some (av (.int .i64 i)) :: List.replicate 20 none, List.replicate 26 absent⟩)
      ⟨a.length, _, Weak.nrm [true, true, false, false, true, true] [] rfl rfl rfl, 0, Nat.zero_le _, rfl, rfl, rfl⟩ ?_
    rintro n s ⟨i, hi, rfl, hp, rfl⟩
    refine Split.mk fun t ht => ?_
    cases t
    · have hia : i = a.length := by simp at ht; omega
      refine Need.mk ⟨[], _, .same, fin ?_, rfl⟩ trivial
      subst hia
      rw [List.take_length, hl, List.take_length] at hp
      simp [hp]
    · have hia : i < a.length := by simpa using ht
      refine Need.mk (by omega) ?_
      refine Row.mk _ (map_get _ a i hia) ?_
      refine Need.mk (by omega) ?_
      refine Row.mk _ (map_get _ b i (by omega)) ?_
      refine Split.mk fun t ht2 => ?_
      have ht2 : (!decide (a[i] = b[i]'(by omega))) = t := by rw [← ent_beq]; exact ht2
      cases t
      · refine Need.mk rfl ?_
        refine Num.mk _ (wrapS (by omega)) ?_
        refine ⟨a.length - (i + 1), _, by omega, Weak.nrm [true, true, false, false, true, true] [] rfl rfl rfl, i + 1, by omega, rfl, ?_, rfl⟩
        have : a[i] = b[i]'(by omega) := by simpa using ht2
        rw [List.take_succ_eq_append_getElem hia, List.take_succ_eq_append_getElem (by omega), hp, this]
      · refine Need.mk rfl ?_
        refine Need.mk ⟨[], _, .same, fin ?_, rfl⟩ trivial
        have : a[i] ≠ b[i]'(by omega) := by simpa using ht2
        refine (decide_eq_false fun e => this ?_).symm
        subst e; rfl
  · refine Need.mk ⟨[], _, .same, fin ?_, rfl⟩ trivial
    have : a.length ≠ b.length := by
      intro e; simp [e] at ht
    exact (decide_eq_false fun e => this (by rw [e])).symm
theorem l9_Dec0 (k : Nat) (hk : k ≤ 9223372036854775807) : AFn Tryd.prog 21 [av (.int .i64 k)] [] (.one (vs (bt (Lib.decDigits k)))) [] := by
  refine AFn.introX (E := En 0 md0) (en_ok 0 md0) Tryd.func21 rfl rfl rfl fun _ _ => ?_
  refine Split.mk fun t h1 => ?_
  cases t
  case true => cases h1
  refine Split.mk fun t h2 => ?_
  cases t
  case true => cases h2
  refine ALoop.mk (fun m s => ∃ (j : Nat) (out : ByteArray), m = j ∧ j ≤ 9223372036854775807 ∧ bt (Lib.decDigits j ++ tb out) = bt (Lib.decDigits k) ∧ s = ⟨some (av (.int .i64 j)) :: none :: none :: some (av (.string out)) :: List.replicate 27 none, List.replicate 31 absent⟩)
    ⟨_, _, Weak.nrm [true, false, false, true] [] rfl rfl rfl, k, ⟨#[]⟩, rfl, hk, congrArg bt (List.append_nil _), rfl⟩ ?_
  rintro j s ⟨_, out, rfl, hj, hd, hs⟩
  have hsz := dec_size (by omega) hd
  subst hs
  refine Split.mk fun t ht => ?_
  cases t
  · rw [decide_eq_false_iff_not] at ht
    refine Num.mk ((48 + j % 10 : Nat) : Int) (by rw [wrapI] <;> omega) ?_
    refine Num.mk ((48 + j % 10 : Nat) : Int) (by rw [wrapU8] <;> omega) ?_
    refine Need.mk (strFits1 (by omega)) ?_
    refine Need.mk ⟨[], _, .same, ?_, rfl⟩ trivial
    have e1 := (dec_last (out := out) (by omega)).trans hd
    rw [← e1]; rfl
  · rw [decide_eq_true_iff] at ht
    have hj9 : 9 < j := by omega
    refine Need.mk (by decide) ?_
    refine Num.mk ((48 + j % 10 : Nat) : Int) (by rw [show ((j : Int).tmod 10) = ((j % 10 : Nat) : Int) from rfl, wrapI] <;> omega) ?_
    refine Num.mk ((48 + j % 10 : Nat) : Int) (by rw [wrapU8] <;> omega) ?_
    refine Need.mk (strFits1 (by omega)) ?_
    refine Need.mk (by decide) ?_
    refine Num.mk ((j / 10 : Nat) : Int) (by rw [show ((j : Int).tdiv 10) = ((j / 10 : Nat) : Int) from rfl, wrapI] <;> omega) ?_
    exact ⟨j / 10, _, by omega, Weak.nrm [true, false, false, true] [] rfl rfl rfl, j / 10, dig j ++ out, rfl, by omega, (dec_step hj9).trans hd, rfl⟩
theorem l6_Word (s : ByteArray) (p : Nat) (hs : s.size ≤ 1048576) (ha : p ≤ s.size) (w : ByteArray) (z : Int) (hr : wordA s p = (w, z)) : AFn Tryd.prog 57 [av (.string s), av (.int .i64 p)] [] (.tup [.one (vs w), .one (vi z)]) [] := by
  refine AFn.introX (E := En 0 md0) (en_ok 0 md0) Tryd.func57 rfl rfl rfl fun _ _ => ?_
  let S : Nat → St := fun i => ⟨some (av (.string s)) :: some (av (.int .i64 ↑p)) :: none :: none :: none :: none :: some (av (.int .i64 ↑i)) :: List.replicate 17 none, List.replicate 24 absent⟩
  refine ALoop.mk (fun m st => ∃ i : Nat, (p ≤ i ∧ i ≤ s.size) ∧ (∀ j : Nat, p ≤ j → j < i → byteAt s j ≠ 32) ∧ m = s.size - i ∧ st = S i)
    ⟨_, _, Weak.nrm [true, true, false, false, false, false, true] [] rfl rfl rfl, p, ⟨Nat.le_refl _, ha⟩, fun j h1 h2 => absurd h1 (by omega), rfl, rfl⟩ ?_
  rintro m st ⟨i, hi, hn, rfl, hst⟩
  by_cases hlt : i < s.size
  · by_cases hb : byteAt s i = 32
    · have hres : RV.tup [.one (vs (s.extract p i)), .one (vi ((i + 1 : Nat) : Int))] = RV.tup [.one (vs w), .one (vi z)] := by
        have := (wordA_hit hi.1 hlt hb hn).symm.trans hr
        injection this with h1 h2
        rw [h1, h2]
      subst hst
      refine Split.mk fun t h1 => ?_
      cases t
      case false => (exfalso; rw [decide_eq_false_iff_not] at h1; omega)
      rw [decide_eq_true_iff] at h1
      refine Need.mk (by omega) ?_
      refine Split.mk fun t h2 => ?_
      cases t
      case false => (exfalso; rw [beq_eq_false_iff_ne] at h2; omega)
      rw [beq_iff_eq] at h2
      refine Need.mk (by omega) ?_
      refine Num.mk _ (wrapS (by omega)) ?_
      exact Need.mk ⟨[], _, .same, hres, rfl⟩ trivial
    · have hnn : ∀ j : Nat, p ≤ j → j < i + 1 → byteAt s j ≠ 32 := fun j h1 h2 => by
        by_cases he : j = i
        · rw [he]; exact hb
        · exact hn j h1 (by omega)
      subst hst
      refine Split.mk fun t h1 => ?_
      cases t
      case false => (exfalso; rw [decide_eq_false_iff_not] at h1; omega)
      rw [decide_eq_true_iff] at h1
      refine Need.mk (by omega) ?_
      refine Split.mk fun t h2 => ?_
      cases t
      case true => (exfalso; rw [beq_iff_eq] at h2; omega)
      rw [beq_eq_false_iff_ne] at h2
      refine Num.mk _ (wrapS (by omega)) ?_
      exact ⟨_, _, by omega, Weak.nrm [true, true, false, false, false, false, true] [] rfl rfl rfl, i + 1, by omega, hnn, rfl, rfl⟩
  · have hres : RV.tup [.one (vs ⟨#[]⟩), .one (vi (-1))] = RV.tup [.one (vs w), .one (vi z)] := by
      have := (wordA_none fun j h1 h2 => hn j h1 (by omega)).symm.trans hr
      injection this with h1 h2
      rw [h1, h2]
    subst hst
    refine Split.mk fun t h1 => ?_
    cases t
    case true => (exfalso; rw [decide_eq_true_iff] at h1; omega)
    rw [decide_eq_false_iff_not] at h1
    exact Need.mk ⟨[], _, .same, hres, rfl⟩ trivial
theorem l9_DecN (n : Int) (k : Nat) (hn : n = -(k : Int)) (hk : 0 < k) (hm : k ≤ 9223372036854775807) (h0 : AFn Tryd.prog 21 [av (.int .i64 (0 - n))] [] (.one (vs (bt (Lib.decDigits k)))) []) : AFn Tryd.prog 21 [av (.int .i64 n)] [] (.one (vs (bt [45] ++ bt (Lib.decDigits k)))) [] := by
  have hsz : (bt (Lib.decDigits k)).size ≤ 19 := by
    rw [bt_size, Lib.decDigits_length]
    exact nD_le 18 k (by omega)
  refine AFn.introX (E := En 0 md0) (en_ok 0 md0) Tryd.func21 rfl rfl rfl fun _ _ => ?_
  refine Split.mk fun t h1 => ?_
  cases t
  case true => (exfalso; rw [decide_eq_true_iff] at h1; omega)
  rw [decide_eq_false_iff_not] at h1
  refine Split.mk fun t h2 => ?_
  cases t
  case false => (exfalso; rw [decide_eq_false_iff_not] at h2; omega)
  rw [decide_eq_true_iff] at h2
  refine Num.mk _ (wrapI (by omega) (by omega)) ?_
  refine ACall.mk _ _ h0 ?_
  refine Need.mk (strFits1 (by omega)) ?_
  exact Need.mk ⟨[], _, .same, rfl, rfl⟩ trivial
/-- Numbers in decimals. -/
theorem l9_Dec (n : Int) (h1 : -9223372036854775807 ≤ n) (h2 : n ≤ 9223372036854775807) : AFn Tryd.prog 21 [av (.int .i64 n)] [] (.one (vs (bt (Lib.itoa n)))) [] := by
  by_cases h : 0 ≤ n
  · have := l9_Dec0 n.toNat (by omega)
    rw [show ((n.toNat : Nat) : Int) = n by omega] at this
    rw [itoa_pos h]
    exact this
  · have h0 := l9_Dec0 n.natAbs (by omega)
    rw [show ((n.natAbs : Nat) : Int) = 0 - n by omega] at h0
    have := l9_DecN n n.natAbs (by omega) (by omega) (by omega) h0
    rw [itoa_neg (by omega)]
    rw [bt_app] at this
    exact this
theorem l9_NumY (s : ByteArray) (hs : s.size ≤ 1048576) (h0 : s.size = 0 ∨ byteAt s 0 ≠ 45) (n : Int) (c : Bool) (hr : (numP false s = none ∧ n = 0 ∧ c = false) ∨ (numP false s = some n ∧ c = true)) : AFn Tryd.prog 58 [av (.string s)] [] (.tup [.one (vi n), .one (vb c)]) [] := by
  have hN : numP false s = none → RV.tup [.one (vi 0), .one (vb false)] = RV.tup [.one (vi n), .one (vb c)] := fun h => by
    rcases hr with ⟨_, h1, h2⟩ | ⟨h1, _⟩
    · rw [h1, h2]
    · rw [h] at h1; cases h1
  by_cases hz : s.size = 0
  · have hres := hN (by unfold numP; rw [if_pos (.inl hz)])
    refine AFn.introX (E := En 0 md0) (en_ok 0 md0) Tryd.func58 rfl rfl rfl fun _ _ => ?_
    refine Split.mk fun t h1 => ?_
    cases t
    case true => (exfalso; rw [decide_eq_true_iff] at h1; omega)
    rw [decide_eq_false_iff_not] at h1
    refine Split.mk fun t h2 => ?_
    cases t
    case false => (exfalso; rw [beq_eq_false_iff_ne] at h2; omega)
    rw [beq_iff_eq] at h2
    exact Need.mk ⟨[], _, .same, hres, rfl⟩ trivial
  · have hz1 : 0 < s.size := by omega
    have hm : byteAt s 0 ≠ 45 := by omega
    by_cases h17 : 17 < s.size
    · have hres := hN (by unfold numP; rw [if_pos (.inr (.inl h17))])
      refine AFn.introX (E := En 0 md0) (en_ok 0 md0) Tryd.func58 rfl rfl rfl fun _ _ => ?_
      refine Split.mk fun t h1 => ?_
      cases t
      case false => (exfalso; rw [decide_eq_false_iff_not] at h1; omega)
      rw [decide_eq_true_iff] at h1
      refine Need.mk (by omega) ?_
      refine Split.mk fun t h2 => ?_
      cases t
      case true => (exfalso; rw [beq_iff_eq] at h2; omega)
      rw [beq_eq_false_iff_ne] at h2
      refine Split.mk fun t h3 => ?_
      cases t
      case true => (exfalso; rw [beq_iff_eq] at h3; omega)
      rw [beq_eq_false_iff_ne] at h3
      refine Split.mk fun t h4 => ?_
      cases t
      case false => (exfalso; rw [decide_eq_false_iff_not] at h4; omega)
      rw [decide_eq_true_iff] at h4
      exact Need.mk ⟨[], _, .same, hres, rfl⟩ trivial
    · by_cases h48 : byteAt s 0 = 48
      · by_cases hl1 : 1 < s.size
        · have hres := hN (by unfold numP; rw [if_pos (.inr (.inr ⟨h48, .inl hl1⟩))])
          refine AFn.introX (E := En 0 md0) (en_ok 0 md0) Tryd.func58 rfl rfl rfl fun _ _ => ?_
          refine Split.mk fun t h1 => ?_
          cases t
          case false => (exfalso; rw [decide_eq_false_iff_not] at h1; omega)
          rw [decide_eq_true_iff] at h1
          refine Need.mk (by omega) ?_
          refine Split.mk fun t h2 => ?_
          cases t
          case true => (exfalso; rw [beq_iff_eq] at h2; omega)
          rw [beq_eq_false_iff_ne] at h2
          refine Split.mk fun t h3 => ?_
          cases t
          case true => (exfalso; rw [beq_iff_eq] at h3; omega)
          rw [beq_eq_false_iff_ne] at h3
          refine Split.mk fun t h4 => ?_
          cases t
          case true => (exfalso; rw [decide_eq_true_iff] at h4; omega)
          rw [decide_eq_false_iff_not] at h4
          refine Need.mk (by omega) ?_
          refine Split.mk fun t h5 => ?_
          cases t
          case false => (exfalso; rw [beq_eq_false_iff_ne] at h5; omega)
          rw [beq_iff_eq] at h5
          refine Split.mk fun t h6 => ?_
          cases t
          case false => (exfalso; rw [decide_eq_false_iff_not] at h6; omega)
          rw [decide_eq_true_iff] at h6
          exact Need.mk ⟨[], _, .same, hres, rfl⟩ trivial
        · have hno : ¬ (s.size = 0 ∨ 17 < s.size ∨ (byteAt s 0 = 48 ∧ (1 < s.size ∨ false = true))) := by
            simp only [Bool.false_eq_true, or_false, or_true, and_true]
            omega
          have hnp : numP false s = (Lib.decFrom 0 (tb s)).map fun (m : Nat) => bif false then -(m : Int) else (m : Int) := by unfold numP; rw [if_neg hno]
          have hbad : ∀ i : Nat, i < s.size → (byteAt s i < 48 ∨ 57 < byteAt s i) → numP false s = none := fun i h1 h2 => by rw [hnp, dig_bad h1 h2]; rfl
          have hY : ∀ v : Nat, Lib.decFrom 0 (tb s) = some v → RV.tup [.one (vi ((v : Int))), .one (vb true)] = RV.tup [.one (vi n), .one (vb c)] := fun v h => by
            rw [h] at hnp
            rcases hr with ⟨h1, _⟩ | ⟨h1, h2⟩
            · rw [hnp] at h1; cases h1
            · rw [hnp] at h1
              have h3 : (v : Int) = n := by simpa using h1
              rw [h3, h2]
          refine AFn.introX (E := En 0 md0) (en_ok 0 md0) Tryd.func58 rfl rfl rfl fun _ _ => ?_
          refine Split.mk fun t h1 => ?_
          cases t
          case false => (exfalso; rw [decide_eq_false_iff_not] at h1; omega)
          rw [decide_eq_true_iff] at h1
          refine Need.mk (by omega) ?_
          refine Split.mk fun t h2 => ?_
          cases t
          case true => (exfalso; rw [beq_iff_eq] at h2; omega)
          rw [beq_eq_false_iff_ne] at h2
          refine Split.mk fun t h3 => ?_
          cases t
          case true => (exfalso; rw [beq_iff_eq] at h3; omega)
          rw [beq_eq_false_iff_ne] at h3
          refine Split.mk fun t h4 => ?_
          cases t
          case true => (exfalso; rw [decide_eq_true_iff] at h4; omega)
          rw [decide_eq_false_iff_not] at h4
          refine Need.mk (by omega) ?_
          refine Split.mk fun t h5 => ?_
          cases t
          case false => (exfalso; rw [beq_eq_false_iff_ne] at h5; omega)
          rw [beq_iff_eq] at h5
          refine Split.mk fun t h6 => ?_
          cases t
          case true => (exfalso; rw [decide_eq_true_iff] at h6; omega)
          rw [decide_eq_false_iff_not] at h6
          let S : Nat → Nat → St := fun i v => ⟨some (av (.string s)) :: none :: none :: none :: some (av (.bool false)) :: some (av (.int .i64 ↑v)) :: some (av (.int .i64 ↑i)) :: List.replicate 60 none, List.replicate 67 absent⟩
          refine ALoop.mk (fun m st => ∃ i v : Nat, i ≤ s.size ∧ Lib.decFrom 0 ((tb s).take i) = some v ∧ m = s.size - i ∧ st = S i v)
            ⟨_, _, Weak.nrm [true, false, false, false, true, true, true] [] rfl rfl rfl, 0, 0, Nat.zero_le _, rfl, rfl, rfl⟩ ?_
          rintro m st ⟨i, v, hi, hv, rfl, hst⟩
          have hvl := dig_lt (by omega) hi hv
          by_cases hlt : i < s.size
          · by_cases hb1 : byteAt s i < 48
            · have hres := hN (hbad i hlt (.inl hb1))
              subst hst
              refine Split.mk fun t h1 => ?_
              cases t
              case false => (exfalso; rw [decide_eq_false_iff_not] at h1; omega)
              rw [decide_eq_true_iff] at h1
              refine Need.mk (by omega) ?_
              refine Split.mk fun t h2 => ?_
              cases t
              case false => (exfalso; rw [decide_eq_false_iff_not] at h2; omega)
              rw [decide_eq_true_iff] at h2
              exact Need.mk ⟨[], _, .same, hres, rfl⟩ trivial
            · by_cases hb2 : 57 < byteAt s i
              · have hres := hN (hbad i hlt (.inr hb2))
                subst hst
                refine Split.mk fun t h1 => ?_
                cases t
                case false => (exfalso; rw [decide_eq_false_iff_not] at h1; omega)
                rw [decide_eq_true_iff] at h1
                refine Need.mk (by omega) ?_
                refine Split.mk fun t h2 => ?_
                cases t
                case true => (exfalso; rw [decide_eq_true_iff] at h2; omega)
                rw [decide_eq_false_iff_not] at h2
                refine Need.mk (by omega) ?_
                refine Split.mk fun t h3 => ?_
                cases t
                case false => (exfalso; rw [decide_eq_false_iff_not] at h3; omega)
                rw [decide_eq_true_iff] at h3
                exact Need.mk ⟨[], _, .same, hres, rfl⟩ trivial
              · have hv2 := dig_next hlt (by omega) (by omega) hv
                have hz48 : IntKind.u8.wrap (byteAt s i - 48) = (((byteAt s i).toNat - 48 : Nat) : Int) := by rw [show byteAt s i - 48 = (((byteAt s i).toNat - 48 : Nat) : Int) by omega, wrapU8] <;> omega
                subst hst
                refine Split.mk fun t h1 => ?_
                cases t
                case false => (exfalso; rw [decide_eq_false_iff_not] at h1; omega)
                rw [decide_eq_true_iff] at h1
                refine Need.mk (by omega) ?_
                refine Split.mk fun t h2 => ?_
                cases t
                case true => (exfalso; rw [decide_eq_true_iff] at h2; omega)
                rw [decide_eq_false_iff_not] at h2
                refine Need.mk (by omega) ?_
                refine Split.mk fun t h3 => ?_
                cases t
                case true => (exfalso; rw [decide_eq_true_iff] at h3; omega)
                rw [decide_eq_false_iff_not] at h3
                refine Num.mk _ (wrapI (by omega) (by omega)) ?_
                refine Need.mk (by omega) ?_
                refine Num.mk _ hz48 ?_
                refine Num.mk _ (wrapI (by omega) (by omega)) ?_
                refine Num.mk _ (wrapI (by omega) (by omega)) ?_
                refine Num.mk _ (wrapS (by omega)) ?_
                exact ⟨_, _, by omega, Weak.nrm [true, false, false, false, true, true, true] [] rfl rfl rfl, i + 1, v * 10 + ((byteAt s i).toNat - 48), by omega, hv2, rfl, rfl⟩
          · have hie : i = s.size := by omega
            have hres := hY v (by rw [hie, List.take_of_length_le (by rw [tb_len]; exact Nat.le_refl _)] at hv; exact hv)
            subst hst
            refine Split.mk fun t h1 => ?_
            cases t
            case true => (exfalso; rw [decide_eq_true_iff] at h1; omega)
            rw [decide_eq_false_iff_not] at h1
            exact Need.mk ⟨[], _, .same, hres, rfl⟩ trivial
      · have hno : ¬ (s.size = 0 ∨ 17 < s.size ∨ (byteAt s 0 = 48 ∧ (1 < s.size ∨ false = true))) := by
          simp only [Bool.false_eq_true, or_false, or_true, and_true]
          omega
        have hnp : numP false s = (Lib.decFrom 0 (tb s)).map fun (m : Nat) => bif false then -(m : Int) else (m : Int) := by unfold numP; rw [if_neg hno]
        have hbad : ∀ i : Nat, i < s.size → (byteAt s i < 48 ∨ 57 < byteAt s i) → numP false s = none := fun i h1 h2 => by rw [hnp, dig_bad h1 h2]; rfl
        have hY : ∀ v : Nat, Lib.decFrom 0 (tb s) = some v → RV.tup [.one (vi ((v : Int))), .one (vb true)] = RV.tup [.one (vi n), .one (vb c)] := fun v h => by
          rw [h] at hnp
          rcases hr with ⟨h1, _⟩ | ⟨h1, h2⟩
          · rw [hnp] at h1; cases h1
          · rw [hnp] at h1
            have h3 : (v : Int) = n := by simpa using h1
            rw [h3, h2]
        refine AFn.introX (E := En 0 md0) (en_ok 0 md0) Tryd.func58 rfl rfl rfl fun _ _ => ?_
        refine Split.mk fun t h1 => ?_
        cases t
        case false => (exfalso; rw [decide_eq_false_iff_not] at h1; omega)
        rw [decide_eq_true_iff] at h1
        refine Need.mk (by omega) ?_
        refine Split.mk fun t h2 => ?_
        cases t
        case true => (exfalso; rw [beq_iff_eq] at h2; omega)
        rw [beq_eq_false_iff_ne] at h2
        refine Split.mk fun t h3 => ?_
        cases t
        case true => (exfalso; rw [beq_iff_eq] at h3; omega)
        rw [beq_eq_false_iff_ne] at h3
        refine Split.mk fun t h4 => ?_
        cases t
        case true => (exfalso; rw [decide_eq_true_iff] at h4; omega)
        rw [decide_eq_false_iff_not] at h4
        refine Need.mk (by omega) ?_
        refine Split.mk fun t h5 => ?_
        cases t
        case true => (exfalso; rw [beq_iff_eq] at h5; omega)
        rw [beq_eq_false_iff_ne] at h5
        let S : Nat → Nat → St := fun i v => ⟨some (av (.string s)) :: none :: none :: none :: some (av (.bool false)) :: some (av (.int .i64 ↑v)) :: some (av (.int .i64 ↑i)) :: List.replicate 60 none, List.replicate 67 absent⟩
        refine ALoop.mk (fun m st => ∃ i v : Nat, i ≤ s.size ∧ Lib.decFrom 0 ((tb s).take i) = some v ∧ m = s.size - i ∧ st = S i v)
          ⟨_, _, Weak.nrm [true, false, false, false, true, true, true] [] rfl rfl rfl, 0, 0, Nat.zero_le _, rfl, rfl, rfl⟩ ?_
        rintro m st ⟨i, v, hi, hv, rfl, hst⟩
        have hvl := dig_lt (by omega) hi hv
        by_cases hlt : i < s.size
        · by_cases hb1 : byteAt s i < 48
          · have hres := hN (hbad i hlt (.inl hb1))
            subst hst
            refine Split.mk fun t h1 => ?_
            cases t
            case false => (exfalso; rw [decide_eq_false_iff_not] at h1; omega)
            rw [decide_eq_true_iff] at h1
            refine Need.mk (by omega) ?_
            refine Split.mk fun t h2 => ?_
            cases t
            case false => (exfalso; rw [decide_eq_false_iff_not] at h2; omega)
            rw [decide_eq_true_iff] at h2
            exact Need.mk ⟨[], _, .same, hres, rfl⟩ trivial
          · by_cases hb2 : 57 < byteAt s i
            · have hres := hN (hbad i hlt (.inr hb2))
              subst hst
              refine Split.mk fun t h1 => ?_
              cases t
              case false => (exfalso; rw [decide_eq_false_iff_not] at h1; omega)
              rw [decide_eq_true_iff] at h1
              refine Need.mk (by omega) ?_
              refine Split.mk fun t h2 => ?_
              cases t
              case true => (exfalso; rw [decide_eq_true_iff] at h2; omega)
              rw [decide_eq_false_iff_not] at h2
              refine Need.mk (by omega) ?_
              refine Split.mk fun t h3 => ?_
              cases t
              case false => (exfalso; rw [decide_eq_false_iff_not] at h3; omega)
              rw [decide_eq_true_iff] at h3
              exact Need.mk ⟨[], _, .same, hres, rfl⟩ trivial
            · have hv2 := dig_next hlt (by omega) (by omega) hv
              have hz48 : IntKind.u8.wrap (byteAt s i - 48) = (((byteAt s i).toNat - 48 : Nat) : Int) := by rw [show byteAt s i - 48 = (((byteAt s i).toNat - 48 : Nat) : Int) by omega, wrapU8] <;> omega
              subst hst
              refine Split.mk fun t h1 => ?_
              cases t
              case false => (exfalso; rw [decide_eq_false_iff_not] at h1; omega)
              rw [decide_eq_true_iff] at h1
              refine Need.mk (by omega) ?_
              refine Split.mk fun t h2 => ?_
              cases t
              case true => (exfalso; rw [decide_eq_true_iff] at h2; omega)
              rw [decide_eq_false_iff_not] at h2
              refine Need.mk (by omega) ?_
              refine Split.mk fun t h3 => ?_
              cases t
              case true => (exfalso; rw [decide_eq_true_iff] at h3; omega)
              rw [decide_eq_false_iff_not] at h3
              refine Num.mk _ (wrapI (by omega) (by omega)) ?_
              refine Need.mk (by omega) ?_
              refine Num.mk _ hz48 ?_
              refine Num.mk _ (wrapI (by omega) (by omega)) ?_
              refine Num.mk _ (wrapI (by omega) (by omega)) ?_
              refine Num.mk _ (wrapS (by omega)) ?_
              exact ⟨_, _, by omega, Weak.nrm [true, false, false, false, true, true, true] [] rfl rfl rfl, i + 1, v * 10 + ((byteAt s i).toNat - 48), by omega, hv2, rfl, rfl⟩
        · have hie : i = s.size := by omega
          have hres := hY v (by rw [hie, List.take_of_length_le (by rw [tb_len]; exact Nat.le_refl _)] at hv; exact hv)
          subst hst
          refine Split.mk fun t h1 => ?_
          cases t
          case true => (exfalso; rw [decide_eq_true_iff] at h1; omega)
          rw [decide_eq_false_iff_not] at h1
          exact Need.mk ⟨[], _, .same, hres, rfl⟩ trivial
theorem l9_NumN (s : ByteArray) (hs : s.size ≤ 1048576) (h0 : 0 < s.size) (h45 : byteAt s 0 = 45) (n : Int) (c : Bool) (hr : (numP true (s.extract (Int.toNat 1) (s.size : Int).toNat) = none ∧ n = 0 ∧ c = false) ∨ (numP true (s.extract (Int.toNat 1) (s.size : Int).toNat) = some n ∧ c = true)) : AFn Tryd.prog 58 [av (.string s)] [] (.tup [.one (vi n), .one (vb c)]) [] := by
  have hds : (s.extract (Int.toNat 1) (s.size : Int).toNat).size = s.size - 1 := by rw [extract_tb, bt_size, List.length_take, List.length_drop, tb_len]; omega
  have hN : numP true (s.extract (Int.toNat 1) (s.size : Int).toNat) = none → RV.tup [.one (vi 0), .one (vb false)] = RV.tup [.one (vi n), .one (vb c)] := fun h => by
    rcases hr with ⟨_, h1, h2⟩ | ⟨h1, _⟩
    · rw [h1, h2]
    · rw [h] at h1; cases h1
  by_cases hz : (s.extract (Int.toNat 1) (s.size : Int).toNat).size = 0
  · have hres := hN (by unfold numP; rw [if_pos (.inl hz)])
    refine AFn.introX (E := En 0 md0) (en_ok 0 md0) Tryd.func58 rfl rfl rfl fun _ _ => ?_
    refine Split.mk fun t h1 => ?_
    cases t
    case false => (exfalso; rw [decide_eq_false_iff_not] at h1; omega)
    rw [decide_eq_true_iff] at h1
    refine Need.mk (by omega) ?_
    refine Split.mk fun t h2 => ?_
    cases t
    case false => (exfalso; rw [beq_eq_false_iff_ne] at h2; omega)
    rw [beq_iff_eq] at h2
    refine Need.mk (by omega) ?_
    refine Split.mk fun t h3 => ?_
    cases t
    case false => (exfalso; rw [beq_eq_false_iff_ne] at h3; omega)
    rw [beq_iff_eq] at h3
    exact Need.mk ⟨[], _, .same, hres, rfl⟩ trivial
  · have hz1 : 0 < (s.extract (Int.toNat 1) (s.size : Int).toNat).size := by omega
    by_cases h17 : 17 < (s.extract (Int.toNat 1) (s.size : Int).toNat).size
    · have hres := hN (by unfold numP; rw [if_pos (.inr (.inl h17))])
      refine AFn.introX (E := En 0 md0) (en_ok 0 md0) Tryd.func58 rfl rfl rfl fun _ _ => ?_
      refine Split.mk fun t h1 => ?_
      cases t
      case false => (exfalso; rw [decide_eq_false_iff_not] at h1; omega)
      rw [decide_eq_true_iff] at h1
      refine Need.mk (by omega) ?_
      refine Split.mk fun t h2 => ?_
      cases t
      case false => (exfalso; rw [beq_eq_false_iff_ne] at h2; omega)
      rw [beq_iff_eq] at h2
      refine Need.mk (by omega) ?_
      refine Split.mk fun t h3 => ?_
      cases t
      case true => (exfalso; rw [beq_iff_eq] at h3; omega)
      rw [beq_eq_false_iff_ne] at h3
      refine Split.mk fun t h4 => ?_
      cases t
      case false => (exfalso; rw [decide_eq_false_iff_not] at h4; omega)
      rw [decide_eq_true_iff] at h4
      exact Need.mk ⟨[], _, .same, hres, rfl⟩ trivial
    · by_cases h48 : byteAt (s.extract (Int.toNat 1) (s.size : Int).toNat) 0 = 48
      · have hres := hN (by unfold numP; rw [if_pos (.inr (.inr ⟨h48, .inr rfl⟩))])
        refine AFn.introX (E := En 0 md0) (en_ok 0 md0) Tryd.func58 rfl rfl rfl fun _ _ => ?_
        refine Split.mk fun t h1 => ?_
        cases t
        case false => (exfalso; rw [decide_eq_false_iff_not] at h1; omega)
        rw [decide_eq_true_iff] at h1
        refine Need.mk (by omega) ?_
        refine Split.mk fun t h2 => ?_
        cases t
        case false => (exfalso; rw [beq_eq_false_iff_ne] at h2; omega)
        rw [beq_iff_eq] at h2
        refine Need.mk (by omega) ?_
        refine Split.mk fun t h3 => ?_
        cases t
        case true => (exfalso; rw [beq_iff_eq] at h3; omega)
        rw [beq_eq_false_iff_ne] at h3
        refine Split.mk fun t h4 => ?_
        cases t
        case true => (exfalso; rw [decide_eq_true_iff] at h4; omega)
        rw [decide_eq_false_iff_not] at h4
        refine Need.mk (by omega) ?_
        refine Split.mk fun t h5 => ?_
        cases t
        case false => (exfalso; rw [beq_eq_false_iff_ne] at h5; omega)
        rw [beq_iff_eq] at h5
        refine Split.mk fun t h6 => ?_
        cases t
        · skip
          rw [decide_eq_false_iff_not] at h6
          exact Need.mk ⟨[], _, .same, hres, rfl⟩ trivial
        · skip
          rw [decide_eq_true_iff] at h6
          exact Need.mk ⟨[], _, .same, hres, rfl⟩ trivial
      · have hno : ¬ ((s.extract (Int.toNat 1) (s.size : Int).toNat).size = 0 ∨ 17 < (s.extract (Int.toNat 1) (s.size : Int).toNat).size ∨ (byteAt (s.extract (Int.toNat 1) (s.size : Int).toNat) 0 = 48 ∧ (1 < (s.extract (Int.toNat 1) (s.size : Int).toNat).size ∨ true = true))) := by
          simp only [Bool.false_eq_true, or_false, or_true, and_true]
          omega
        have hnp : numP true (s.extract (Int.toNat 1) (s.size : Int).toNat) = (Lib.decFrom 0 (tb (s.extract (Int.toNat 1) (s.size : Int).toNat))).map fun (m : Nat) => bif true then -(m : Int) else (m : Int) := by unfold numP; rw [if_neg hno]
        have hbad : ∀ i : Nat, i < (s.extract (Int.toNat 1) (s.size : Int).toNat).size → (byteAt (s.extract (Int.toNat 1) (s.size : Int).toNat) i < 48 ∨ 57 < byteAt (s.extract (Int.toNat 1) (s.size : Int).toNat) i) → numP true (s.extract (Int.toNat 1) (s.size : Int).toNat) = none := fun i h1 h2 => by rw [hnp, dig_bad h1 h2]; rfl
        have hY : ∀ v : Nat, Lib.decFrom 0 (tb (s.extract (Int.toNat 1) (s.size : Int).toNat)) = some v → RV.tup [.one (vi (-(v : Int))), .one (vb true)] = RV.tup [.one (vi n), .one (vb c)] := fun v h => by
          rw [h] at hnp
          rcases hr with ⟨h1, _⟩ | ⟨h1, h2⟩
          · rw [hnp] at h1; cases h1
          · rw [hnp] at h1
            have h3 : -(v : Int) = n := by simpa using h1
            rw [h3, h2]
        refine AFn.introX (E := En 0 md0) (en_ok 0 md0) Tryd.func58 rfl rfl rfl fun _ _ => ?_
        refine Split.mk fun t h1 => ?_
        cases t
        case false => (exfalso; rw [decide_eq_false_iff_not] at h1; omega)
        rw [decide_eq_true_iff] at h1
        refine Need.mk (by omega) ?_
        refine Split.mk fun t h2 => ?_
        cases t
        case false => (exfalso; rw [beq_eq_false_iff_ne] at h2; omega)
        rw [beq_iff_eq] at h2
        refine Need.mk (by omega) ?_
        refine Split.mk fun t h3 => ?_
        cases t
        case true => (exfalso; rw [beq_iff_eq] at h3; omega)
        rw [beq_eq_false_iff_ne] at h3
        refine Split.mk fun t h4 => ?_
        cases t
        case true => (exfalso; rw [decide_eq_true_iff] at h4; omega)
        rw [decide_eq_false_iff_not] at h4
        refine Need.mk (by omega) ?_
        refine Split.mk fun t h5 => ?_
        cases t
        case true => (exfalso; rw [beq_iff_eq] at h5; omega)
        rw [beq_eq_false_iff_ne] at h5
        let S : Nat → Nat → St := fun i v => ⟨some (av (.string (s.extract (Int.toNat 1) (s.size : Int).toNat))) :: none :: none :: none :: some (av (.bool true)) :: some (av (.int .i64 ↑v)) :: some (av (.int .i64 ↑i)) :: List.replicate 60 none, List.replicate 67 absent⟩
        refine ALoop.mk (fun m st => ∃ i v : Nat, i ≤ (s.extract (Int.toNat 1) (s.size : Int).toNat).size ∧ Lib.decFrom 0 ((tb (s.extract (Int.toNat 1) (s.size : Int).toNat)).take i) = some v ∧ m = (s.extract (Int.toNat 1) (s.size : Int).toNat).size - i ∧ st = S i v)
          ⟨_, _, Weak.nrm [true, false, false, false, true, true, true] [] rfl rfl rfl, 0, 0, Nat.zero_le _, rfl, rfl, rfl⟩ ?_
        rintro m st ⟨i, v, hi, hv, rfl, hst⟩
        have hvl := dig_lt (by omega) hi hv
        by_cases hlt : i < (s.extract (Int.toNat 1) (s.size : Int).toNat).size
        · by_cases hb1 : byteAt (s.extract (Int.toNat 1) (s.size : Int).toNat) i < 48
          · have hres := hN (hbad i hlt (.inl hb1))
            subst hst
            refine Split.mk fun t h1 => ?_
            cases t
            case false => (exfalso; rw [decide_eq_false_iff_not] at h1; omega)
            rw [decide_eq_true_iff] at h1
            refine Need.mk (by omega) ?_
            refine Split.mk fun t h2 => ?_
            cases t
            case false => (exfalso; rw [decide_eq_false_iff_not] at h2; omega)
            rw [decide_eq_true_iff] at h2
            exact Need.mk ⟨[], _, .same, hres, rfl⟩ trivial
          · by_cases hb2 : 57 < byteAt (s.extract (Int.toNat 1) (s.size : Int).toNat) i
            · have hres := hN (hbad i hlt (.inr hb2))
              subst hst
              refine Split.mk fun t h1 => ?_
              cases t
              case false => (exfalso; rw [decide_eq_false_iff_not] at h1; omega)
              rw [decide_eq_true_iff] at h1
              refine Need.mk (by omega) ?_
              refine Split.mk fun t h2 => ?_
              cases t
              case true => (exfalso; rw [decide_eq_true_iff] at h2; omega)
              rw [decide_eq_false_iff_not] at h2
              refine Need.mk (by omega) ?_
              refine Split.mk fun t h3 => ?_
              cases t
              case false => (exfalso; rw [decide_eq_false_iff_not] at h3; omega)
              rw [decide_eq_true_iff] at h3
              exact Need.mk ⟨[], _, .same, hres, rfl⟩ trivial
            · have hv2 := dig_next hlt (by omega) (by omega) hv
              have hz48 : IntKind.u8.wrap (byteAt (s.extract (Int.toNat 1) (s.size : Int).toNat) i - 48) = (((byteAt (s.extract (Int.toNat 1) (s.size : Int).toNat) i).toNat - 48 : Nat) : Int) := by rw [show byteAt (s.extract (Int.toNat 1) (s.size : Int).toNat) i - 48 = (((byteAt (s.extract (Int.toNat 1) (s.size : Int).toNat) i).toNat - 48 : Nat) : Int) by omega, wrapU8] <;> omega
              subst hst
              refine Split.mk fun t h1 => ?_
              cases t
              case false => (exfalso; rw [decide_eq_false_iff_not] at h1; omega)
              rw [decide_eq_true_iff] at h1
              refine Need.mk (by omega) ?_
              refine Split.mk fun t h2 => ?_
              cases t
              case true => (exfalso; rw [decide_eq_true_iff] at h2; omega)
              rw [decide_eq_false_iff_not] at h2
              refine Need.mk (by omega) ?_
              refine Split.mk fun t h3 => ?_
              cases t
              case true => (exfalso; rw [decide_eq_true_iff] at h3; omega)
              rw [decide_eq_false_iff_not] at h3
              refine Num.mk _ (wrapI (by omega) (by omega)) ?_
              refine Need.mk (by omega) ?_
              refine Num.mk _ hz48 ?_
              refine Num.mk _ (wrapI (by omega) (by omega)) ?_
              refine Num.mk _ (wrapI (by omega) (by omega)) ?_
              refine Num.mk _ (wrapS (by omega)) ?_
              exact ⟨_, _, by omega, Weak.nrm [true, false, false, false, true, true, true] [] rfl rfl rfl, i + 1, v * 10 + ((byteAt (s.extract (Int.toNat 1) (s.size : Int).toNat) i).toNat - 48), by omega, hv2, rfl, rfl⟩
        · have hie : i = (s.extract (Int.toNat 1) (s.size : Int).toNat).size := by omega
          have hres := hY v (by rw [hie, List.take_of_length_le (by rw [tb_len]; exact Nat.le_refl _)] at hv; exact hv)
          subst hst
          refine Split.mk fun t h1 => ?_
          cases t
          case true => (exfalso; rw [decide_eq_true_iff] at h1; omega)
          rw [decide_eq_false_iff_not] at h1
          refine Num.mk (-(v : Int)) (by rw [wrapI (by omega) (by omega)]; omega) ?_
          exact Need.mk ⟨[], _, .same, hres, rfl⟩ trivial
/-- Numbers as they are written. -/
theorem l9_Num (s : ByteArray) (hs : s.size ≤ 1048576) (n : Int) (c : Bool) (hr : (numS (tb s) = none ∧ n = 0 ∧ c = false) ∨ (numS (tb s) = some n ∧ c = true)) : AFn Tryd.prog 58 [av (.string s)] [] (.tup [.one (vi n), .one (vb c)]) [] := by
  by_cases h : 0 < s.size ∧ byteAt s 0 = 45
  · rw [numS_neg h.1 h.2] at hr
    exact l9_NumN s hs h.1 h.2 n c hr
  · have h0 : s.size = 0 ∨ byteAt s 0 ≠ 45 := by omega
    rw [numS_pos h0] at hr
    exact l9_NumY s hs h0 n c hr
theorem l6_NumB (s : ByteArray) (p : Int) (hp : p < 0) : AFn Tryd.prog 43 [av (.string s), av (.int .i64 p)] [] (.tup [.one (vi 0), .one (vi (-1))]) [] := by
  refine AFn.introX (E := En 0 md0) (en_ok 0 md0) Tryd.func43 rfl rfl rfl fun _ _ => ?_
  refine Split.mk fun t h1 => ?_
  cases t
  case false => (exfalso; rw [decide_eq_false_iff_not] at h1; omega)
  rw [decide_eq_true_iff] at h1
  exact Need.mk ⟨[], _, .same, rfl, rfl⟩ trivial
theorem l6_NumN (s : ByteArray) (p : Nat) (hs : s.size ≤ 1048576) (ha : p ≤ s.size) (w : ByteArray) (z : Int) (hw : wordA s p = (w, z)) (hws : w.size ≤ 1048576) (hr : numS (tb w) = none) : AFn Tryd.prog 43 [av (.string s), av (.int .i64 p)] [] (.tup [.one (vi 0), .one (vi (-1))]) [] := by
  have hW := l6_Word s p hs ha w z hw
  have hN := l9_Num w hws 0 false (.inl ⟨hr, rfl, rfl⟩)
  refine AFn.introX (E := En 0 md0) (en_ok 0 md0) Tryd.func43 rfl rfl rfl fun _ _ => ?_
  refine Split.mk fun t h1 => ?_
  cases t
  case true => cases h1
  refine ACall.mk _ _ hW ?_
  refine ACall.mk _ _ hN ?_
  refine Split.mk fun t h2 => ?_
  cases t
  case true => cases h2
  exact Need.mk ⟨[], _, .same, rfl, rfl⟩ trivial
theorem l6_NumY (s : ByteArray) (p : Nat) (hs : s.size ≤ 1048576) (ha : p ≤ s.size) (w : ByteArray) (z n : Int) (hw : wordA s p = (w, z)) (hws : w.size ≤ 1048576) (hr : numS (tb w) = some n) : AFn Tryd.prog 43 [av (.string s), av (.int .i64 p)] [] (.tup [.one (vi n), .one (vi z)]) [] := by
  have hW := l6_Word s p hs ha w z hw
  have hN := l9_Num w hws n true (.inr ⟨hr, rfl⟩)
  refine AFn.introX (E := En 0 md0) (en_ok 0 md0) Tryd.func43 rfl rfl rfl fun _ _ => ?_
  refine Split.mk fun t h1 => ?_
  cases t
  case true => cases h1
  refine ACall.mk _ _ hW ?_
  refine ACall.mk _ _ hN ?_
  refine Split.mk fun t h2 => ?_
  cases t
  case false => cases h2
  exact Need.mk ⟨[], _, .same, rfl, rfl⟩ trivial
theorem l6_EntryB (s : ByteArray) (p : Nat) (hs : s.size ≤ 1048576) (w : ByteArray) (z0 z1 z2 z3 z4 a b c d : Int) (hW : AFn Tryd.prog 57 [av (.string s), av (.int .i64 p)] [] (.tup [.one (vs w), .one (vi z0)]) [])
    (h1 : AFn Tryd.prog 43 [av (.string s), av (.int .i64 z0)] [] (.tup [.one (vi a), .one (vi z1)]) []) (h2 : AFn Tryd.prog 43 [av (.string s), av (.int .i64 z1)] [] (.tup [.one (vi b), .one (vi z2)]) [])
    (h3 : AFn Tryd.prog 43 [av (.string s), av (.int .i64 z2)] [] (.tup [.one (vi c), .one (vi z3)]) []) (h4 : AFn Tryd.prog 43 [av (.string s), av (.int .i64 z3)] [] (.tup [.one (vi d), .one (vi z4)]) [])
    (hz : z4 ≤ s.size) (hb : z4 < 0 ∨ d < 0 ∨ (s.size : Int) - z4 < d) :
    AFn Tryd.prog 59 [av (.string s), av (.int .i64 p)] [] (.tup [.agg ent0.enc, .one (vi (-1))]) [] := by
  by_cases hn : z4 < 0
  · refine AFn.introX (E := En 0 md0) (en_ok 0 md0) Tryd.func59 rfl rfl rfl fun _ _ => ?_
    refine ACall.mk _ _ hW ?_
    refine ACall.mk _ _ h1 ?_
    refine ACall.mk _ _ h2 ?_
    refine ACall.mk _ _ h3 ?_
    refine ACall.mk _ _ h4 ?_
    refine Split.mk fun t h1 => ?_
    cases t
    case false => (exfalso; rw [decide_eq_false_iff_not] at h1; omega)
    rw [decide_eq_true_iff] at h1
    exact Need.mk ⟨[], _, .same, rfl, rfl⟩ trivial
  · by_cases hd : d < 0
    · refine AFn.introX (E := En 0 md0) (en_ok 0 md0) Tryd.func59 rfl rfl rfl fun _ _ => ?_
      refine ACall.mk _ _ hW ?_
      refine ACall.mk _ _ h1 ?_
      refine ACall.mk _ _ h2 ?_
      refine ACall.mk _ _ h3 ?_
      refine ACall.mk _ _ h4 ?_
      refine Split.mk fun t h1 => ?_
      cases t
      case true => (exfalso; rw [decide_eq_true_iff] at h1; omega)
      rw [decide_eq_false_iff_not] at h1
      refine Split.mk fun t h2 => ?_
      cases t
      case false => (exfalso; rw [decide_eq_false_iff_not] at h2; omega)
      rw [decide_eq_true_iff] at h2
      exact Need.mk ⟨[], _, .same, rfl, rfl⟩ trivial
    · have hd2 : (s.size : Int) - z4 < d := by omega
      refine AFn.introX (E := En 0 md0) (en_ok 0 md0) Tryd.func59 rfl rfl rfl fun _ _ => ?_
      refine ACall.mk _ _ hW ?_
      refine ACall.mk _ _ h1 ?_
      refine ACall.mk _ _ h2 ?_
      refine ACall.mk _ _ h3 ?_
      refine ACall.mk _ _ h4 ?_
      refine Split.mk fun t h1 => ?_
      cases t
      case true => (exfalso; rw [decide_eq_true_iff] at h1; omega)
      rw [decide_eq_false_iff_not] at h1
      refine Split.mk fun t h2 => ?_
      cases t
      case true => (exfalso; rw [decide_eq_true_iff] at h2; omega)
      rw [decide_eq_false_iff_not] at h2
      refine Num.mk _ (wrapI (by omega) (by omega)) ?_
      refine Split.mk fun t h3 => ?_
      cases t
      case false => (exfalso; rw [decide_eq_false_iff_not] at h3; omega)
      rw [decide_eq_true_iff] at h3
      exact Need.mk ⟨[], _, .same, rfl, rfl⟩ trivial
theorem l6_EntryG (s : ByteArray) (p : Nat) (hs : s.size ≤ 1048576) (w : ByteArray) (z0 z1 z2 z3 a b c : Int) (z4 d : Nat) (hW : AFn Tryd.prog 57 [av (.string s), av (.int .i64 p)] [] (.tup [.one (vs w), .one (vi z0)]) [])
    (h1 : AFn Tryd.prog 43 [av (.string s), av (.int .i64 z0)] [] (.tup [.one (vi a), .one (vi z1)]) []) (h2 : AFn Tryd.prog 43 [av (.string s), av (.int .i64 z1)] [] (.tup [.one (vi b), .one (vi z2)]) [])
    (h3 : AFn Tryd.prog 43 [av (.string s), av (.int .i64 z2)] [] (.tup [.one (vi c), .one (vi z3)]) []) (h4 : AFn Tryd.prog 43 [av (.string s), av (.int .i64 z3)] [] (.tup [.one (vi d), .one (vi z4)]) [])
    (hz : z4 ≤ s.size) (hb : d ≤ s.size - z4) (e : Ent) (he : e = ⟨w, a, b, s.extract z4 (z4 + d), c⟩) :
    AFn Tryd.prog 59 [av (.string s), av (.int .i64 p)] [] (.tup [.agg e.enc, .one (vi ((z4 + d : Nat) : Int))]) [] := by
  subst he
  refine AFn.introX (E := En 0 md0) (en_ok 0 md0) Tryd.func59 rfl rfl rfl fun _ _ => ?_
  refine ACall.mk _ _ hW ?_
  refine ACall.mk _ _ h1 ?_
  refine ACall.mk _ _ h2 ?_
  refine ACall.mk _ _ h3 ?_
  refine ACall.mk _ _ h4 ?_
  refine Split.mk fun t h1 => ?_
  cases t
  case true => cases h1
  refine Split.mk fun t h2 => ?_
  cases t
  case true => cases h2
  refine Num.mk _ (wrapI (by omega) (by omega)) ?_
  refine Split.mk fun t h3 => ?_
  cases t
  case true => (exfalso; rw [decide_eq_true_iff] at h3; omega)
  rw [decide_eq_false_iff_not] at h3
  refine Num.mk _ (wrapI (by omega) (by omega)) ?_
  refine Need.mk (by omega) ?_
  refine Num.mk _ (wrapI (by omega) (by omega)) ?_
  exact Need.mk ⟨[], _, .same, rfl, rfl⟩ trivial
theorem l6_Num (s : ByteArray) (z : Int) (hs : s.size ≤ 1048576) (hz : z ≤ s.size) : AFn Tryd.prog 43 [av (.string s), av (.int .i64 z)] [] (.tup [.one (vi (numA s z).1), .one (vi (numA s z).2)]) [] := by
  by_cases h : z < 0
  · rw [numA_neg h]
    exact l6_NumB s z h
  · have hr := wordA_rng s z.toNat (by omega)
    have e1 : ((z.toNat : Nat) : Int) = z := by omega
    cases hn : numS (tb (wordA s z.toNat).1) with
    | none =>
      have h1 := l6_NumN s z.toNat hs (by omega) (wordA s z.toNat).1 (wordA s z.toNat).2 rfl (by omega) hn
      rw [e1] at h1
      have h2 : numA s z = (0, -1) := by unfold numA; rw [if_neg h, hn]
      rw [h2]
      exact h1
    | some n =>
      have h1 := l6_NumY s z.toNat hs (by omega) (wordA s z.toNat).1 (wordA s z.toNat).2 n rfl (by omega) hn
      rw [e1] at h1
      have h2 : numA s z = (n, (wordA s z.toNat).2) := by unfold numA; rw [if_neg h, hn]
      rw [h2]
      exact h1
theorem l6_Entry (s : ByteArray) (p : Nat) (hs : s.size ≤ 1048576) (hp : p ≤ s.size) : AFn Tryd.prog 59 [av (.string s), av (.int .i64 p)] [] (.tup [.agg (entA s p).1.enc, .one (vi (entA s p).2)]) [] := by
  have hW := l6_Word s p hs hp (wordA s p).1 (wordA s p).2 rfl
  have r0 := wordA_rng s p hp
  have h1 := l6_Num s (wordA s p).2 hs (by omega)
  have r1 := numA_rng s (wordA s p).2 (by omega)
  have h2 := l6_Num s (numA s (wordA s p).2).2 hs (by omega)
  have r2 := numA_rng s (numA s (wordA s p).2).2 (by omega)
  have h3 := l6_Num s (numA s (numA s (wordA s p).2).2).2 hs (by omega)
  have r3 := numA_rng s (numA s (numA s (wordA s p).2).2).2 (by omega)
  have h4 := l6_Num s (numA s (numA s (numA s (wordA s p).2).2).2).2 hs (by omega)
  have r4 := numA_rng s (numA s (numA s (numA s (wordA s p).2).2).2).2 (by omega)
  unfold entA
  generalize wordA s p = W at *
  generalize numA s W.2 = A at *
  generalize numA s A.2 = B at *
  generalize numA s B.2 = C at *
  generalize numA s C.2 = D at *
  by_cases hc : D.2 < 0 ∨ D.1 < 0 ∨ (s.size : Int) - D.2 < D.1
  · rw [if_pos hc]
    exact l6_EntryB s p hs _ _ _ _ _ _ _ _ _ _ hW h1 h2 h3 h4 (by omega) hc
  · rw [if_neg hc]
    have e1 : ((D.2.toNat : Nat) : Int) = D.2 := by omega
    have e2 : ((D.1.toNat : Nat) : Int) = D.1 := by omega
    have h4' : AFn Tryd.prog 43 [av (.string s), av (.int .i64 C.2)] [] (.tup [.one (vi (D.1.toNat : Nat)), .one (vi (D.2.toNat : Nat))]) [] := by
      rw [e1, e2]; exact h4
    have h5 := l6_EntryG s p hs _ _ _ _ _ _ _ _ D.2.toNat D.1.toNat hW h1 h2 h3 h4' (by omega) (by omega) _ rfl
    have e3 : ((D.2.toNat + D.1.toNat : Nat) : Int) = D.2 + D.1 := by omega
    have e4 : D.2.toNat + D.1.toNat = (D.2 + D.1).toNat := by omega
    rw [e3, e4] at h5
    exact h5
theorem entA_rng (s : ByteArray) (p : Nat) (hp : p ≤ s.size) : -1 ≤ (entA s p).2 ∧ (entA s p).2 ≤ s.size := by
  cases h : RS.ent ((tb s).drop p) with
  | none => rw [entA_no hp h]; exact ⟨Int.le_refl _, by show (-1 : Int) ≤ s.size; omega⟩
  | some q =>
    obtain ⟨p', h1, h2, h3, h4⟩ := entA_some (e := q.1) (r := q.2) hp h
    rw [h4]
    exact ⟨by show (-1 : Int) ≤ p'; omega, by show (p' : Int) ≤ s.size; omega⟩
theorem l6_Body (s : ByteArray) (hs : s.size ≤ 1048576) : AFn Tryd.prog 44 [av (.string s)] [] (.one (.us 43 ((bodyA s).map Ent.enc))) [] := by
  refine AFn.introX (E := En 0 md0) (en_ok 0 md0) Tryd.func44 rfl rfl rfl fun _ _ => ?_
  let S : Int → List Ent → St := fun z out => ⟨some (av (.string s)) :: none :: none :: some (.one (.ref 3 0 (.cell 0))) :: some (av (.int .i64 z)) :: List.replicate 27 none, absent :: absent :: absent :: ⟨0, 1, some [.us 43 (out.map Ent.enc)]⟩ :: List.replicate 28 absent⟩
  refine ALoop.mk (fun m s' => ∃ (z : Int) (out : List Ent), (-1 ≤ z ∧ z ≤ s.size) ∧ out.length + m = 13 ∧ bodyN s m z out = bodyA s ∧ s' = S z out)
    ⟨_, _, Weak.trans (Weak.nrm [true, false, false, true, true] [(6, 3)] rfl rfl rfl) Weak.one, 0, [], by omega, rfl, rfl, rfl⟩ ?_
  rintro m st ⟨z, out, hz, hl, hB, hst⟩
  have hol : (out.map Ent.enc).length = out.length := List.length_map ..
  by_cases hz0 : z < 0
  · have hres : RV.one (.us 43 (out.map Ent.enc)) = RV.one (.us 43 ((bodyA s).map Ent.enc)) := by
      rw [← hB, bodyN_neg _ _ _ hz0]
    subst hst
    refine Split.mk fun t h1 => ?_
    cases t
    case true => (exfalso; rw [decide_eq_true_iff] at h1; omega)
    rw [decide_eq_false_iff_not] at h1
    exact Need.mk ⟨[], _, .same, hres, rfl⟩ trivial
  · by_cases hz1 : (s.size : Int) ≤ z
    · have hres : RV.one (.us 43 (out.map Ent.enc)) = RV.one (.us 43 ((bodyA s).map Ent.enc)) := by
        rw [← hB]
        cases m with
        | zero => rfl
        | succ m => rw [bodyN, if_pos (.inr hz1)]
      subst hst
      refine Split.mk fun t h1 => ?_
      cases t
      case false => (exfalso; rw [decide_eq_false_iff_not] at h1; omega)
      rw [decide_eq_true_iff] at h1
      refine Split.mk fun t h2 => ?_
      cases t
      case true => (exfalso; rw [decide_eq_true_iff] at h2; omega)
      rw [decide_eq_false_iff_not] at h2
      exact Need.mk ⟨[], _, .same, hres, rfl⟩ trivial
    · cases m with
      | zero =>
        have hres : RV.one (.us 43 (out.map Ent.enc)) = RV.one (.us 43 ((bodyA s).map Ent.enc)) := by
          rw [← hB, bodyN]
        subst hst
        refine Split.mk fun t h1 => ?_
        cases t
        case false => (exfalso; rw [decide_eq_false_iff_not] at h1; omega)
        rw [decide_eq_true_iff] at h1
        refine Split.mk fun t h2 => ?_
        cases t
        case false => (exfalso; rw [decide_eq_false_iff_not] at h2; omega)
        rw [decide_eq_true_iff] at h2
        refine Split.mk fun t h3 => ?_
        cases t
        case true => (exfalso; rw [decide_eq_true_iff] at h3; omega)
        rw [decide_eq_false_iff_not] at h3
        exact Need.mk ⟨[], _, .same, hres, rfl⟩ trivial
      | succ m =>
        rw [bodyN, if_neg (by omega)] at hB
        have hE := l6_Entry s z.toNat hs (by omega)
        have hr := entA_rng s z.toNat (by omega)
        have e1 : ((z.toNat : Nat) : Int) = z := by omega
        rw [e1] at hE
        have hex : ∃ q, entA s z.toNat = q := ⟨_, rfl⟩
        obtain ⟨⟨e, z2⟩, hq⟩ := hex
        rw [hq] at hE hr hB
        have hE2 : AFn Tryd.prog 59 [av (.string s), av (.int .i64 z)] [] (.tup [.agg e.enc, .one (vi z2)]) [] := hE
        have hol2 : (out ++ [e]).length = out.length + 1 := by simp
        have hB2 : bodyN s m z2 (out ++ [e]) = bodyA s := hB
        have hr2 : -1 ≤ z2 ∧ z2 ≤ s.size := hr
        have happ : out.map Ent.enc ++ [e.enc] = (out ++ [e]).map Ent.enc := by rw [List.map_append]; rfl
        clear hE hB hr hq
        subst hst
        refine Split.mk fun t h1 => ?_
        cases t
        case false => (exfalso; rw [decide_eq_false_iff_not] at h1; omega)
        rw [decide_eq_true_iff] at h1
        refine Split.mk fun t h2 => ?_
        cases t
        case false => (exfalso; rw [decide_eq_false_iff_not] at h2; omega)
        rw [decide_eq_true_iff] at h2
        refine Split.mk fun t h3 => ?_
        cases t
        case false => (exfalso; rw [decide_eq_false_iff_not] at h3; omega)
        rw [decide_eq_true_iff] at h3
        refine ACall.mk _ _ hE2 ?_
        refine Need.mk (appEq (A' := _) (B' := [e.enc]) rfl rfl (by simp only [List.length_append, List.length_map, List.length_take, List.length_drop, List.length_cons, List.length_nil, List.length_reverse, List.length_replicate, List.length_set]; omega) (by decide)) ?_
        exact ⟨_, _, by omega, Weak.nrm [true, false, false, true, true] [(30, 3)] rfl rfl rfl, z2, out ++ [e], hr2, by omega, hB2, congrArg (fun R => (⟨some (av (.string s)) :: none :: none :: some (.one (.ref 3 0 (.cell 0))) :: some (av (.int .i64 z2)) :: List.replicate 27 none, absent :: absent :: absent :: ⟨0, 1, some [.us 43 R]⟩ :: List.replicate 28 absent⟩ : St)) happ⟩
theorem impl_KeyOk (s : ByteArray) (hs : s.size ≤ maxLen) : AFn Tryd.prog 54 [av (.string s)] [] (rb (keyOk s)) [] := by
  refine AFn.introX (E := En 0 md0) (en_ok 0 md0) Tryd.func54 rfl rfl rfl fun _ _ => ?_
  unfold maxLen at hs
  have fin : ∀ {c : Bool}, c = keyOk s → rb c = rb (keyOk s) := fun h => by rw [h]
  refine Split.mk fun t ht => ?_
  cases t
  case true => exact Need.mk ⟨[], _, .same, fin (keyOk_len (by simp at ht; omega)).symm, rfl⟩ trivial
  refine Split.mk fun t ht2 => ?_
  cases t
  case true => exact Need.mk ⟨[], _, .same, fin (keyOk_len (by simp at ht2; omega)).symm, rfl⟩ trivial
  have hsz : 1 ≤ s.size ∧ s.size ≤ 8 := by simp at ht ht2; omega
  refine ALoop.mk (fun m s' => ∃ i : Nat, i ≤ s.size ∧ m = s.size - i ∧ (∀ j : Nat, j < i → okc (byteAt s j) = true) ∧
      s' = ⟨some (av (.string s)) :: none :: some (av (.bool false)) :: none :: none :: none :: none :: none :: none :: none :: none :: none :: none :: none :: some (av (.int .i64 s.size)) :: some (av (.int .i64 i)) :: List.replicate 25 none, List.replicate 41 absent⟩)
    ⟨s.size, _, Weak.nrm [true, false, true, false, false, false, false, false, false, false, false, false, false, false, true, true] [] rfl rfl rfl, 0, Nat.zero_le _, rfl, by intro j hj; omega, rfl⟩ ?_
  rintro m s' ⟨i, hi, rfl, hall, rfl⟩
  refine Split.mk fun t ht => ?_
  cases t
  · have hin : i = s.size := by simp at ht; omega
    subst hin
    exact Need.mk ⟨[], _, .same, fin (by rw [keyOk_all hall]; simp [hsz]), rfl⟩ trivial
  have hia : i < s.size := by simpa using ht
  have more : okc (byteAt s i) = true → ∀ j : Nat, j < i + 1 → okc (byteAt s j) = true := fun hc j hj => by
    by_cases hji : j = i
    · rw [hji]; exact hc
    · exact hall j (by omega)
  refine Need.mk ⟨by omega, by omega⟩ ?_
  refine Split.mk fun t h1 => ?_
  cases t
  · refine Split.mk fun t h3 => ?_
    cases t
    · refine Split.mk fun t h5 => ?_
      cases t
      · have hc : okc (byteAt s i) = false := by simp at h1 h3 h5; simp [okc]; omega
        exact Need.mk ⟨[], _, .same, fin (keyOk_bad hia hc).symm, rfl⟩ trivial
      · have hc : okc (byteAt s i) = true := by simp at h1 h3 h5; simp [okc]; omega
        refine Num.mk _ (wrapS (by omega)) ?_
        exact ⟨s.size - (i + 1), _, by omega, Weak.nrm [true, false, true, false, false, false, false, false, false, false, false, false, false, false, true, true] [] rfl rfl rfl, i + 1, by omega, rfl, more hc, rfl⟩
    · refine Split.mk fun t h4 => ?_
      cases t
      · refine Split.mk fun t h5 => ?_
        cases t
        · have hc : okc (byteAt s i) = false := by simp at h1 h3 h4 h5; simp [okc]; omega
          exact Need.mk ⟨[], _, .same, fin (keyOk_bad hia hc).symm, rfl⟩ trivial
        · have hc : okc (byteAt s i) = true := by simp at h1 h3 h4 h5; simp [okc]; omega
          refine Num.mk _ (wrapS (by omega)) ?_
          exact ⟨s.size - (i + 1), _, by omega, Weak.nrm [true, false, true, false, false, false, false, false, false, false, false, false, false, false, true, true] [] rfl rfl rfl, i + 1, by omega, rfl, more hc, rfl⟩
      · have hc : okc (byteAt s i) = true := by simp at h1 h3 h4; simp [okc]; omega
        refine Num.mk _ (wrapS (by omega)) ?_
        exact ⟨s.size - (i + 1), _, by omega, Weak.nrm [true, false, true, false, false, false, false, false, false, false, false, false, false, false, true, true] [] rfl rfl rfl, i + 1, by omega, rfl, more hc, rfl⟩
  · refine Split.mk fun t h2 => ?_
    cases t
    · refine Split.mk fun t h3 => ?_
      cases t
      · refine Split.mk fun t h5 => ?_
        cases t
        · have hc : okc (byteAt s i) = false := by simp at h1 h2 h3 h5; simp [okc]; omega
          exact Need.mk ⟨[], _, .same, fin (keyOk_bad hia hc).symm, rfl⟩ trivial
        · have hc : okc (byteAt s i) = true := by simp at h1 h2 h3 h5; simp [okc]; omega
          refine Num.mk _ (wrapS (by omega)) ?_
          exact ⟨s.size - (i + 1), _, by omega, Weak.nrm [true, false, true, false, false, false, false, false, false, false, false, false, false, false, true, true] [] rfl rfl rfl, i + 1, by omega, rfl, more hc, rfl⟩
      · refine Split.mk fun t h4 => ?_
        cases t
        · refine Split.mk fun t h5 => ?_
          cases t
          · have hc : okc (byteAt s i) = false := by simp at h1 h2 h3 h4 h5; simp [okc]; omega
            exact Need.mk ⟨[], _, .same, fin (keyOk_bad hia hc).symm, rfl⟩ trivial
          · have hc : okc (byteAt s i) = true := by simp at h1 h2 h3 h4 h5; simp [okc]; omega
            refine Num.mk _ (wrapS (by omega)) ?_
            exact ⟨s.size - (i + 1), _, by omega, Weak.nrm [true, false, true, false, false, false, false, false, false, false, false, false, false, false, true, true] [] rfl rfl rfl, i + 1, by omega, rfl, more hc, rfl⟩
        · have hc : okc (byteAt s i) = true := by simp at h1 h2 h3 h4; simp [okc]; omega
          refine Num.mk _ (wrapS (by omega)) ?_
          exact ⟨s.size - (i + 1), _, by omega, Weak.nrm [true, false, true, false, false, false, false, false, false, false, false, false, false, false, true, true] [] rfl rfl rfl, i + 1, by omega, rfl, more hc, rfl⟩
    · have hc : okc (byteAt s i) = true := by simp at h1 h2; simp [okc]; omega
      refine Num.mk _ (wrapS (by omega)) ?_
      exact ⟨s.size - (i + 1), _, by omega, Weak.nrm [true, false, true, false, false, false, false, false, false, false, false, false, false, false, true, true] [] rfl rfl rfl, i + 1, by omega, rfl, more hc, rfl⟩
theorem spec_KeyOk (s : ByteArray) (hs : s.size ≤ maxLen) : AFn Tryd.prog 52 [av (.string s)] [] (rb (keyOk s)) [] := by
  refine AFn.introX (E := En 0 md0) (en_ok 0 md0) Tryd.func52 rfl rfl rfl fun _ _ => ?_
  unfold maxLen at hs
  have fin : ∀ {c : Bool}, c = keyOk s → rb c = rb (keyOk s) := fun h => by rw [h]
  refine ALoop.mk (fun m s' => ∃ i : Nat, i ≤ s.size ∧ m = s.size - i ∧ (∀ j : Nat, j < i → okc (byteAt s j) = true) ∧
      s' = ⟨some (av (.string s)) :: none :: some (av (.bool false)) :: some (av (.int .i64 i)) :: List.replicate 36 none, List.replicate 40 absent⟩)
    ⟨s.size, _, Weak.nrm [true, false, true, true] [] rfl rfl rfl, 0, Nat.zero_le _, rfl, by intro j hj; omega, rfl⟩ ?_
  rintro m s' ⟨i, hi, rfl, hall, rfl⟩
  refine Split.mk fun t ht => ?_
  cases t
  · have hin : i = s.size := by simp at ht; omega
    subst hin
    refine Split.mk fun t h1 => ?_
    cases t
    · exact Need.mk ⟨[], _, .same, fin (by rw [keyOk_all hall]; simp at h1; simp; omega), rfl⟩ trivial
    · refine Split.mk fun t h2 => ?_
      cases t
      · exact Need.mk ⟨[], _, .same, fin (by rw [keyOk_all hall]; simp at h1 h2; simp; omega), rfl⟩ trivial
      · exact Need.mk ⟨[], _, .same, fin (by rw [keyOk_all hall]; simp at h1 h2; simp; omega), rfl⟩ trivial
  have hia : i < s.size := by simpa using ht
  have more : okc (byteAt s i) = true → ∀ j : Nat, j < i + 1 → okc (byteAt s j) = true := fun hc j hj => by
    by_cases hji : j = i
    · rw [hji]; exact hc
    · exact hall j (by omega)
  refine Need.mk ⟨by omega, by omega⟩ ?_
  refine Split.mk fun t h1 => ?_
  cases t
  · refine Need.mk ⟨by omega, by omega⟩ ?_
    refine Split.mk fun t h2 => ?_
    cases t
    · have hc : okc (byteAt s i) = true := by simp at h1 h2; simp [okc]; omega
      refine Num.mk _ (wrapS (by omega)) ?_
      exact ⟨s.size - (i + 1), _, by omega, Weak.nrm [true, false, true, true] [] rfl rfl rfl, i + 1, by omega, rfl, more hc, rfl⟩
    · refine Need.mk ⟨by omega, by omega⟩ ?_
      refine Split.mk fun t h3 => ?_
      cases t
      · refine Need.mk ⟨by omega, by omega⟩ ?_
        refine Split.mk fun t h4 => ?_
        cases t
        · have hc : okc (byteAt s i) = true := by simp at h1 h2 h3 h4; simp [okc]; omega
          refine Num.mk _ (wrapS (by omega)) ?_
          exact ⟨s.size - (i + 1), _, by omega, Weak.nrm [true, false, true, true] [] rfl rfl rfl, i + 1, by omega, rfl, more hc, rfl⟩
        · have hc : okc (byteAt s i) = false := by simp at h1 h2 h3 h4; simp [okc]; omega
          exact Need.mk ⟨[], _, .same, fin (keyOk_bad hia hc).symm, rfl⟩ trivial
      · have hc : okc (byteAt s i) = false := by simp at h1 h2 h3; simp [okc]; omega
        exact Need.mk ⟨[], _, .same, fin (keyOk_bad hia hc).symm, rfl⟩ trivial
  · refine Need.mk ⟨by omega, by omega⟩ ?_
    refine Split.mk fun t h3 => ?_
    cases t
    · refine Need.mk ⟨by omega, by omega⟩ ?_
      refine Split.mk fun t h4 => ?_
      cases t
      · have hc : okc (byteAt s i) = true := by simp at h1 h3 h4; simp [okc]; omega
        refine Num.mk _ (wrapS (by omega)) ?_
        exact ⟨s.size - (i + 1), _, by omega, Weak.nrm [true, false, true, true] [] rfl rfl rfl, i + 1, by omega, rfl, more hc, rfl⟩
      · have hc : okc (byteAt s i) = false := by simp at h1 h3 h4; simp [okc]; omega
        exact Need.mk ⟨[], _, .same, fin (keyOk_bad hia hc).symm, rfl⟩ trivial
    · have hc : okc (byteAt s i) = false := by simp at h1 h3; simp [okc]; omega
      exact Need.mk ⟨[], _, .same, fin (keyOk_bad hia hc).symm, rfl⟩ trivial
theorem spec_l3Sum (n : Int) : AFn Tryd.prog 53 [av (.int .i64 n)] [] (rb (sumOk n)) [] := by
  refine AFn.introX (E := En 0 md0) (en_ok 0 md0) Tryd.func53 rfl rfl rfl fun _ _ => ?_
  have fin : ∀ {c : Bool}, c = sumOk n → rb c = rb (sumOk n) := fun h => by rw [h]
  refine Split.mk fun t h1 => ?_
  cases t
  · exact Need.mk ⟨[], _, .same, fin (by simp at h1; simp [sumOk]; omega), rfl⟩ trivial
  · refine Split.mk fun t h2 => ?_
    cases t
    · exact Need.mk ⟨[], _, .same, fin (by simp at h1 h2; simp [sumOk]; omega), rfl⟩ trivial
    · exact Need.mk ⟨[], _, .same, fin (by simp at h1 h2; simp [sumOk]; omega), rfl⟩ trivial
theorem impl_EntryOk (e : Ent) (he : e.Ok) : AFn Tryd.prog 40 [.agg (e.enc.map .c)] [] (rb (entOk e)) [] := by
  refine AFn.introX (E := En 0 md0) (en_ok 0 md0) Tryd.func40 rfl rfl rfl fun _ _ => ?_
  have fin : ∀ {c : Bool}, c = entOk e → rb c = rb (entOk e) := fun h => by rw [h]
  refine ACall.mk _ _ (impl_KeyOk e.key he.1) ?_
  refine Split.mk fun t h_k => ?_
  cases t
  · have f_k : keyOk e.key = false := by exact h_k
    exact Need.mk ⟨[], _, .same, fin (by simp [entOk, f_k]), rfl⟩ trivial
  · refine Split.mk fun t h_s1 => ?_
    cases t
    · refine Split.mk fun t h_s2 => ?_
      cases t
      · refine Split.mk fun t h_tx => ?_
        cases t
        · refine Split.mk fun t h_n1 => ?_
          cases t
          · refine Split.mk fun t h_n2 => ?_
            cases t
            · refine Split.mk fun t h_c1 => ?_
              cases t
              · refine Split.mk fun t h_c2 => ?_
                cases t
                · refine Split.mk fun t h_c3 => ?_
                  cases t
                  · have f_k : keyOk e.key = true := by exact h_k
                    have f_s1 : decide (1 ≤ e.seq) = true := by simp at h_s1; simp; omega
                    have f_s2 : decide (e.seq ≤ 100000) = true := by simp at h_s2; simp; omega
                    have f_tx : decide (e.text.size ≤ 60) = true := by simp at h_tx; simp; omega
                    have f_c1 : decide (e.kind = 1) = false := by simp at h_c1; simp; omega
                    have f_c2 : decide (e.kind = 2) = false := by simp at h_c2; simp; omega
                    have f_c3 : decide (e.kind = 3) = false := by simp at h_c3; simp; omega
                    have f_su : sumOk e.n = true := by simp at h_n1 h_n2; simp [sumOk]; omega
                    exact Need.mk ⟨[], _, .same, fin (by simp [entOk, f_k, f_s1, f_s2, f_tx, f_c1, f_c2, f_c3, f_su]), rfl⟩ trivial
                  · refine Split.mk fun t h_t => ?_
                    rw [bytes_beq] at h_t
                    cases t
                    · have f_k : keyOk e.key = true := by exact h_k
                      have f_s1 : decide (1 ≤ e.seq) = true := by simp at h_s1; simp; omega
                      have f_s2 : decide (e.seq ≤ 100000) = true := by simp at h_s2; simp; omega
                      have f_tx : decide (e.text.size ≤ 60) = true := by simp at h_tx; simp; omega
                      have f_c1 : decide (e.kind = 1) = false := by simp at h_c1; simp; omega
                      have f_c2 : decide (e.kind = 2) = false := by simp at h_c2; simp; omega
                      have f_c3 : decide (e.kind = 3) = true := by simp at h_c3; simp; omega
                      have f_t : decide (e.text = ⟨#[]⟩) = false := by exact h_t
                      have f_su : sumOk e.n = true := by simp at h_n1 h_n2; simp [sumOk]; omega
                      exact Need.mk ⟨[], _, .same, fin (by simp [entOk, f_k, f_s1, f_s2, f_tx, f_c1, f_c2, f_c3, f_t, f_su]), rfl⟩ trivial
                    · have f_k : keyOk e.key = true := by exact h_k
                      have f_s1 : decide (1 ≤ e.seq) = true := by simp at h_s1; simp; omega
                      have f_s2 : decide (e.seq ≤ 100000) = true := by simp at h_s2; simp; omega
                      have f_tx : decide (e.text.size ≤ 60) = true := by simp at h_tx; simp; omega
                      have f_c1 : decide (e.kind = 1) = false := by simp at h_c1; simp; omega
                      have f_c2 : decide (e.kind = 2) = false := by simp at h_c2; simp; omega
                      have f_c3 : decide (e.kind = 3) = true := by simp at h_c3; simp; omega
                      have f_t : decide (e.text = ⟨#[]⟩) = true := by exact h_t
                      have f_su : sumOk e.n = true := by simp at h_n1 h_n2; simp [sumOk]; omega
                      exact Need.mk ⟨[], _, .same, fin (by simp [entOk, f_k, f_s1, f_s2, f_tx, f_c1, f_c2, f_c3, f_t, f_su]), rfl⟩ trivial
                · refine Split.mk fun t h_t => ?_
                  rw [bytes_beq] at h_t
                  cases t
                  · have f_k : keyOk e.key = true := by exact h_k
                    have f_s1 : decide (1 ≤ e.seq) = true := by simp at h_s1; simp; omega
                    have f_s2 : decide (e.seq ≤ 100000) = true := by simp at h_s2; simp; omega
                    have f_tx : decide (e.text.size ≤ 60) = true := by simp at h_tx; simp; omega
                    have f_c1 : decide (e.kind = 1) = false := by simp at h_c1; simp; omega
                    have f_c2 : decide (e.kind = 2) = true := by simp at h_c2; simp; omega
                    have f_t : decide (e.text = ⟨#[]⟩) = false := by exact h_t
                    have f_su : sumOk e.n = true := by simp at h_n1 h_n2; simp [sumOk]; omega
                    exact Need.mk ⟨[], _, .same, fin (by simp [entOk, f_k, f_s1, f_s2, f_tx, f_c1, f_c2, f_t, f_su]), rfl⟩ trivial
                  · refine Split.mk fun t h_z => ?_
                    cases t
                    · have f_k : keyOk e.key = true := by exact h_k
                      have f_s1 : decide (1 ≤ e.seq) = true := by simp at h_s1; simp; omega
                      have f_s2 : decide (e.seq ≤ 100000) = true := by simp at h_s2; simp; omega
                      have f_tx : decide (e.text.size ≤ 60) = true := by simp at h_tx; simp; omega
                      have f_c1 : decide (e.kind = 1) = false := by simp at h_c1; simp; omega
                      have f_c2 : decide (e.kind = 2) = true := by simp at h_c2; simp; omega
                      have f_t : decide (e.text = ⟨#[]⟩) = true := by exact h_t
                      have f_z : decide (e.n = 0) = false := by simp at h_z; simp; omega
                      have f_c3 : decide (e.kind = 3) = false := by simp at h_c2; simp; omega
                      have f_su : sumOk e.n = true := by simp at h_n1 h_n2; simp [sumOk]; omega
                      exact Need.mk ⟨[], _, .same, fin (by simp [entOk, f_k, f_s1, f_s2, f_tx, f_c1, f_c2, f_t, f_z, f_c3, f_su]), rfl⟩ trivial
                    · have f_k : keyOk e.key = true := by exact h_k
                      have f_s1 : decide (1 ≤ e.seq) = true := by simp at h_s1; simp; omega
                      have f_s2 : decide (e.seq ≤ 100000) = true := by simp at h_s2; simp; omega
                      have f_tx : decide (e.text.size ≤ 60) = true := by simp at h_tx; simp; omega
                      have f_c1 : decide (e.kind = 1) = false := by simp at h_c1; simp; omega
                      have f_c2 : decide (e.kind = 2) = true := by simp at h_c2; simp; omega
                      have f_t : decide (e.text = ⟨#[]⟩) = true := by exact h_t
                      have f_z : decide (e.n = 0) = true := by simp at h_z; simp; omega
                      have f_su : sumOk e.n = true := by simp at h_n1 h_n2; simp [sumOk]; omega
                      exact Need.mk ⟨[], _, .same, fin (by simp [entOk, f_k, f_s1, f_s2, f_tx, f_c1, f_c2, f_t, f_z, f_su]), rfl⟩ trivial
              · have f_k : keyOk e.key = true := by exact h_k
                have f_s1 : decide (1 ≤ e.seq) = true := by simp at h_s1; simp; omega
                have f_s2 : decide (e.seq ≤ 100000) = true := by simp at h_s2; simp; omega
                have f_tx : decide (e.text.size ≤ 60) = true := by simp at h_tx; simp; omega
                have f_c1 : decide (e.kind = 1) = true := by simp at h_c1; simp; omega
                have f_su : sumOk e.n = true := by simp at h_n1 h_n2; simp [sumOk]; omega
                exact Need.mk ⟨[], _, .same, fin (by simp [entOk, f_k, f_s1, f_s2, f_tx, f_c1, f_su]), rfl⟩ trivial
            · have f_k : keyOk e.key = true := by exact h_k
              have f_s1 : decide (1 ≤ e.seq) = true := by simp at h_s1; simp; omega
              have f_s2 : decide (e.seq ≤ 100000) = true := by simp at h_s2; simp; omega
              have f_tx : decide (e.text.size ≤ 60) = true := by simp at h_tx; simp; omega
              have f_su : sumOk e.n = false := by simp at h_n1 h_n2; simp [sumOk]; omega
              exact Need.mk ⟨[], _, .same, fin (by simp [entOk, f_k, f_s1, f_s2, f_tx, f_su]), rfl⟩ trivial
          · have f_k : keyOk e.key = true := by exact h_k
            have f_s1 : decide (1 ≤ e.seq) = true := by simp at h_s1; simp; omega
            have f_s2 : decide (e.seq ≤ 100000) = true := by simp at h_s2; simp; omega
            have f_tx : decide (e.text.size ≤ 60) = true := by simp at h_tx; simp; omega
            have f_su : sumOk e.n = false := by simp at h_n1; simp [sumOk]; omega
            exact Need.mk ⟨[], _, .same, fin (by simp [entOk, f_k, f_s1, f_s2, f_tx, f_su]), rfl⟩ trivial
        · have f_k : keyOk e.key = true := by exact h_k
          have f_s1 : decide (1 ≤ e.seq) = true := by simp at h_s1; simp; omega
          have f_s2 : decide (e.seq ≤ 100000) = true := by simp at h_s2; simp; omega
          have f_tx : decide (e.text.size ≤ 60) = false := by simp at h_tx; simp; omega
          exact Need.mk ⟨[], _, .same, fin (by simp [entOk, f_k, f_s1, f_s2, f_tx]), rfl⟩ trivial
      · have f_k : keyOk e.key = true := by exact h_k
        have f_s1 : decide (1 ≤ e.seq) = true := by simp at h_s1; simp; omega
        have f_s2 : decide (e.seq ≤ 100000) = false := by simp at h_s2; simp; omega
        exact Need.mk ⟨[], _, .same, fin (by simp [entOk, f_k, f_s1, f_s2]), rfl⟩ trivial
    · have f_k : keyOk e.key = true := by exact h_k
      have f_s1 : decide (1 ≤ e.seq) = false := by simp at h_s1; simp; omega
      exact Need.mk ⟨[], _, .same, fin (by simp [entOk, f_k, f_s1]), rfl⟩ trivial
theorem spec_EntryOk (e : Ent) (he : e.Ok) : AFn Tryd.prog 39 [.agg (e.enc.map .c)] [] (rb (entOk e)) [] := by
  refine AFn.introX (E := En 0 md0) (en_ok 0 md0) Tryd.func39 rfl rfl rfl fun _ _ => ?_
  have fin : ∀ {c : Bool}, c = entOk e → rb c = rb (entOk e) := fun h => by rw [h]
  refine ACall.mk _ _ (spec_KeyOk e.key he.1) ?_
  refine Split.mk fun t h_k => ?_
  cases t
  · have f_k : keyOk e.key = false := by exact h_k
    exact Need.mk ⟨[], _, .same, fin (by simp [entOk, f_k]), rfl⟩ trivial
  · refine Split.mk fun t h_s1 => ?_
    cases t
    · refine Split.mk fun t h_s2 => ?_
      cases t
      · refine ACall.mk _ _ (spec_l3Sum e.n) ?_
        refine Split.mk fun t h_su => ?_
        cases t
        · have f_k : keyOk e.key = true := by exact h_k
          have f_s1 : decide (1 ≤ e.seq) = true := by simp at h_s1; simp; omega
          have f_s2 : decide (e.seq ≤ 100000) = true := by simp at h_s2; simp; omega
          have f_su : sumOk e.n = false := by exact h_su
          exact Need.mk ⟨[], _, .same, fin (by simp [entOk, f_k, f_s1, f_s2, f_su]), rfl⟩ trivial
        · refine Split.mk fun t h_tx => ?_
          cases t
          · refine Split.mk fun t h_c1 => ?_
            cases t
            · refine Split.mk fun t h_c2 => ?_
              cases t
              · refine Split.mk fun t h_c3 => ?_
                cases t
                · have f_k : keyOk e.key = true := by exact h_k
                  have f_s1 : decide (1 ≤ e.seq) = true := by simp at h_s1; simp; omega
                  have f_s2 : decide (e.seq ≤ 100000) = true := by simp at h_s2; simp; omega
                  have f_su : sumOk e.n = true := by exact h_su
                  have f_tx : decide (e.text.size ≤ 60) = true := by simp at h_tx; simp; omega
                  have f_c1 : decide (e.kind = 1) = false := by simp at h_c1; simp; omega
                  have f_c2 : decide (e.kind = 2) = false := by simp at h_c2; simp; omega
                  have f_c3 : decide (e.kind = 3) = false := by simp at h_c3; simp; omega
                  exact Need.mk ⟨[], _, .same, fin (by simp [entOk, f_k, f_s1, f_s2, f_su, f_tx, f_c1, f_c2, f_c3]), rfl⟩ trivial
                · refine Split.mk fun t h_t => ?_
                  rw [bytes_beq] at h_t
                  cases t
                  · have f_k : keyOk e.key = true := by exact h_k
                    have f_s1 : decide (1 ≤ e.seq) = true := by simp at h_s1; simp; omega
                    have f_s2 : decide (e.seq ≤ 100000) = true := by simp at h_s2; simp; omega
                    have f_su : sumOk e.n = true := by exact h_su
                    have f_tx : decide (e.text.size ≤ 60) = true := by simp at h_tx; simp; omega
                    have f_c1 : decide (e.kind = 1) = false := by simp at h_c1; simp; omega
                    have f_c2 : decide (e.kind = 2) = false := by simp at h_c2; simp; omega
                    have f_c3 : decide (e.kind = 3) = true := by simp at h_c3; simp; omega
                    have f_t : decide (e.text = ⟨#[]⟩) = false := by exact h_t
                    exact Need.mk ⟨[], _, .same, fin (by simp [entOk, f_k, f_s1, f_s2, f_su, f_tx, f_c1, f_c2, f_c3, f_t]), rfl⟩ trivial
                  · have f_k : keyOk e.key = true := by exact h_k
                    have f_s1 : decide (1 ≤ e.seq) = true := by simp at h_s1; simp; omega
                    have f_s2 : decide (e.seq ≤ 100000) = true := by simp at h_s2; simp; omega
                    have f_su : sumOk e.n = true := by exact h_su
                    have f_tx : decide (e.text.size ≤ 60) = true := by simp at h_tx; simp; omega
                    have f_c1 : decide (e.kind = 1) = false := by simp at h_c1; simp; omega
                    have f_c2 : decide (e.kind = 2) = false := by simp at h_c2; simp; omega
                    have f_c3 : decide (e.kind = 3) = true := by simp at h_c3; simp; omega
                    have f_t : decide (e.text = ⟨#[]⟩) = true := by exact h_t
                    exact Need.mk ⟨[], _, .same, fin (by simp [entOk, f_k, f_s1, f_s2, f_su, f_tx, f_c1, f_c2, f_c3, f_t]), rfl⟩ trivial
              · refine Split.mk fun t h_t => ?_
                rw [bytes_beq] at h_t
                cases t
                · have f_k : keyOk e.key = true := by exact h_k
                  have f_s1 : decide (1 ≤ e.seq) = true := by simp at h_s1; simp; omega
                  have f_s2 : decide (e.seq ≤ 100000) = true := by simp at h_s2; simp; omega
                  have f_su : sumOk e.n = true := by exact h_su
                  have f_tx : decide (e.text.size ≤ 60) = true := by simp at h_tx; simp; omega
                  have f_c1 : decide (e.kind = 1) = false := by simp at h_c1; simp; omega
                  have f_c2 : decide (e.kind = 2) = true := by simp at h_c2; simp; omega
                  have f_t : decide (e.text = ⟨#[]⟩) = false := by exact h_t
                  exact Need.mk ⟨[], _, .same, fin (by simp [entOk, f_k, f_s1, f_s2, f_su, f_tx, f_c1, f_c2, f_t]), rfl⟩ trivial
                · refine Split.mk fun t h_z => ?_
                  cases t
                  · have f_k : keyOk e.key = true := by exact h_k
                    have f_s1 : decide (1 ≤ e.seq) = true := by simp at h_s1; simp; omega
                    have f_s2 : decide (e.seq ≤ 100000) = true := by simp at h_s2; simp; omega
                    have f_su : sumOk e.n = true := by exact h_su
                    have f_tx : decide (e.text.size ≤ 60) = true := by simp at h_tx; simp; omega
                    have f_c1 : decide (e.kind = 1) = false := by simp at h_c1; simp; omega
                    have f_c2 : decide (e.kind = 2) = true := by simp at h_c2; simp; omega
                    have f_t : decide (e.text = ⟨#[]⟩) = true := by exact h_t
                    have f_z : decide (e.n = 0) = false := by simp at h_z; simp; omega
                    have f_c3 : decide (e.kind = 3) = false := by simp at h_c2; simp; omega
                    exact Need.mk ⟨[], _, .same, fin (by simp [entOk, f_k, f_s1, f_s2, f_su, f_tx, f_c1, f_c2, f_t, f_z, f_c3]), rfl⟩ trivial
                  · have f_k : keyOk e.key = true := by exact h_k
                    have f_s1 : decide (1 ≤ e.seq) = true := by simp at h_s1; simp; omega
                    have f_s2 : decide (e.seq ≤ 100000) = true := by simp at h_s2; simp; omega
                    have f_su : sumOk e.n = true := by exact h_su
                    have f_tx : decide (e.text.size ≤ 60) = true := by simp at h_tx; simp; omega
                    have f_c1 : decide (e.kind = 1) = false := by simp at h_c1; simp; omega
                    have f_c2 : decide (e.kind = 2) = true := by simp at h_c2; simp; omega
                    have f_t : decide (e.text = ⟨#[]⟩) = true := by exact h_t
                    have f_z : decide (e.n = 0) = true := by simp at h_z; simp; omega
                    exact Need.mk ⟨[], _, .same, fin (by simp [entOk, f_k, f_s1, f_s2, f_su, f_tx, f_c1, f_c2, f_t, f_z]), rfl⟩ trivial
            · have f_k : keyOk e.key = true := by exact h_k
              have f_s1 : decide (1 ≤ e.seq) = true := by simp at h_s1; simp; omega
              have f_s2 : decide (e.seq ≤ 100000) = true := by simp at h_s2; simp; omega
              have f_su : sumOk e.n = true := by exact h_su
              have f_tx : decide (e.text.size ≤ 60) = true := by simp at h_tx; simp; omega
              have f_c1 : decide (e.kind = 1) = true := by simp at h_c1; simp; omega
              exact Need.mk ⟨[], _, .same, fin (by simp [entOk, f_k, f_s1, f_s2, f_su, f_tx, f_c1]), rfl⟩ trivial
          · have f_k : keyOk e.key = true := by exact h_k
            have f_s1 : decide (1 ≤ e.seq) = true := by simp at h_s1; simp; omega
            have f_s2 : decide (e.seq ≤ 100000) = true := by simp at h_s2; simp; omega
            have f_su : sumOk e.n = true := by exact h_su
            have f_tx : decide (e.text.size ≤ 60) = false := by simp at h_tx; simp; omega
            exact Need.mk ⟨[], _, .same, fin (by simp [entOk, f_k, f_s1, f_s2, f_su, f_tx]), rfl⟩ trivial
      · have f_k : keyOk e.key = true := by exact h_k
        have f_s1 : decide (1 ≤ e.seq) = true := by simp at h_s1; simp; omega
        have f_s2 : decide (e.seq ≤ 100000) = false := by simp at h_s2; simp; omega
        exact Need.mk ⟨[], _, .same, fin (by simp [entOk, f_k, f_s1, f_s2]), rfl⟩ trivial
    · have f_k : keyOk e.key = true := by exact h_k
      have f_s1 : decide (1 ≤ e.seq) = false := by simp at h_s1; simp; omega
      exact Need.mk ⟨[], _, .same, fin (by simp [entOk, f_k, f_s1]), rfl⟩ trivial
theorem spec_l6Batch (b : List Ent) (hb : OkE b) (hl : b.length ≤ 1048576) : AFn Tryd.prog 20 [.one (.c (.sl (b.map Ent.enc)))] [] (rb (batOk b)) [] := by
  have hol : (b.map Ent.enc).length = b.length := List.length_map ..
  refine AFn.introX (E := En 0 md0) (en_ok 0 md0) Tryd.func20 rfl rfl rfl fun _ _ => ?_
  let S : Nat → St := fun i => ⟨some (.one (.c (.sl (b.map Ent.enc)))) :: none :: none :: some (av (.int .i64 i)) :: List.replicate 39 none, List.replicate 43 absent⟩
  refine ALoop.mk (fun m s' => ∃ i : Nat, (i ≤ b.length ∧ m = b.length - i) ∧ (∀ (j : Nat) (e : Ent), j < i → b[j]? = some e → entOk e = true) ∧ (∀ (j : Nat) (x y : Ent), j + 1 < i → b[j]? = some x → b[j + 1]? = some y → y.seq = x.seq + 1) ∧ s' = S i)
    ⟨_, _, Weak.nrm [true, false, false, true] [] rfl rfl rfl, 0, ⟨Nat.zero_le _, rfl⟩, fun j e h => absurd h (Nat.not_lt_zero _), fun j x y h => absurd h (Nat.not_lt_zero _), rfl⟩ ?_
  rintro m st ⟨i, ⟨hi, rfl⟩, hok, hco, hst⟩
  by_cases hlt : i < b.length
  · obtain ⟨e, he⟩ : ∃ e, b[i]? = some e := ⟨_, List.getElem?_eq_getElem hlt⟩
    have hrow : (b.map Ent.enc)[i]? = some e.enc := by rw [List.getElem?_map, he]; rfl
    have hE := spec_EntryOk e (hb e (List.mem_of_getElem? he))
    by_cases hbad : entOk e = true
    · rw [hbad] at hE
      have hok2 : ∀ (j : Nat) (e' : Ent), j < i + 1 → b[j]? = some e' → entOk e' = true := fun j e' hj hje => by
        by_cases hji : j = i
        · subst hji; rw [he] at hje; injection hje with hje; rw [← hje]; exact hbad
        · exact hok j e' (by omega) hje
      by_cases h0 : i = 0
      · subst h0
        subst hst
        refine Split.mk fun t h1 => ?_
        cases t
        case false => (exfalso; rw [decide_eq_false_iff_not] at h1; omega)
        rw [decide_eq_true_iff] at h1
        refine Need.mk (by omega) ?_
        refine Row.mk _ hrow ?_
        refine ACall.mk _ _ hE ?_
        refine Split.mk fun t h2 => ?_
        cases t
        case false => cases h2
        refine Split.mk fun t h3 => ?_
        cases t
        case true => cases h3
        refine Need.mk (rfl) ?_
        refine Num.mk _ (wrapS (by omega)) ?_
        exact ⟨_, _, by omega, Weak.nrm [true, false, false, true] [] rfl rfl rfl, 0 + 1, ⟨by omega, rfl⟩, hok2, fun j x y hj => absurd hj (by omega), rfl⟩
      · obtain ⟨x, hx⟩ : ∃ x, b[i - 1]? = some x := ⟨_, List.getElem?_eq_getElem (by omega)⟩
        have hrow1 : (b.map Ent.enc)[i - 1]? = some x.enc := by rw [List.getElem?_map, hx]; rfl
        have hxs := (entOk_p (hok (i - 1) x (by omega) hx)).2.1
        have hsub : IntKind.i64.wrap ((i : Int) - 1) = ((i - 1 : Nat) : Int) := wrapI' (by omega) (by omega)
        by_cases hne : e.seq = x.seq + 1
        · have hco2 : ∀ (j : Nat) (x y : Ent), j + 1 < i + 1 → b[j]? = some x → b[j + 1]? = some y → y.seq = x.seq + 1 := fun j x' y hj hjx hjy => by
            by_cases hji : j + 1 = i
            · have e1 : j = i - 1 := by omega
              subst e1
              rw [hx] at hjx; injection hjx with hjx
              rw [hji, he] at hjy; injection hjy with hjy
              rw [← hjx, ← hjy]; exact hne
            · exact hco j x' y (by omega) hjx hjy
          subst hst
          refine Split.mk fun t h1 => ?_
          cases t
          case false => (exfalso; rw [decide_eq_false_iff_not] at h1; omega)
          rw [decide_eq_true_iff] at h1
          refine Need.mk (by omega) ?_
          refine Row.mk _ hrow ?_
          refine ACall.mk _ _ hE ?_
          refine Split.mk fun t h2 => ?_
          cases t
          case false => cases h2
          refine Split.mk fun t h3 => ?_
          cases t
          case false => (exfalso; rw [decide_eq_false_iff_not] at h3; omega)
          rw [decide_eq_true_iff] at h3
          refine Need.mk (by omega) ?_
          refine Row.mk _ hrow ?_
          refine Num.mk _ hsub ?_
          refine Need.mk (by omega) ?_
          refine Row.mk _ hrow1 ?_
          refine Num.mk _ (wrapI (by omega) (by omega)) ?_
          refine Split.mk fun t h4 => ?_
          cases t
          case true => (exfalso; rw [bne_iff_ne] at h4; omega)
          rw [bne_eq_false_iff_eq] at h4
          refine Need.mk (rfl) ?_
          refine Num.mk _ (wrapS (by omega)) ?_
          exact ⟨_, _, by omega, Weak.nrm [true, false, false, true] [] rfl rfl rfl, i + 1, ⟨by omega, rfl⟩, hok2, hco2, rfl⟩
        · have hres : rb false = rb (batOk b) := by rw [bat_bad2 hx (by rw [show i - 1 + 1 = i by omega]; exact he) hne]
          subst hst
          refine Split.mk fun t h1 => ?_
          cases t
          case false => (exfalso; rw [decide_eq_false_iff_not] at h1; omega)
          rw [decide_eq_true_iff] at h1
          refine Need.mk (by omega) ?_
          refine Row.mk _ hrow ?_
          refine ACall.mk _ _ hE ?_
          refine Split.mk fun t h2 => ?_
          cases t
          case false => cases h2
          refine Split.mk fun t h3 => ?_
          cases t
          case false => (exfalso; rw [decide_eq_false_iff_not] at h3; omega)
          rw [decide_eq_true_iff] at h3
          refine Need.mk (by omega) ?_
          refine Row.mk _ hrow ?_
          refine Num.mk _ hsub ?_
          refine Need.mk (by omega) ?_
          refine Row.mk _ hrow1 ?_
          refine Num.mk _ (wrapI (by omega) (by omega)) ?_
          refine Split.mk fun t h4 => ?_
          cases t
          case false => (exfalso; rw [bne_eq_false_iff_eq] at h4; omega)
          rw [bne_iff_ne] at h4
          refine Need.mk (rfl) ?_
          exact Need.mk ⟨[], _, .same, hres, rfl⟩ trivial
    · have hbad2 : entOk e = false := by simpa using hbad
      rw [hbad2] at hE
      have hres : rb false = rb (batOk b) := by rw [bat_bad1 he hbad2]
      by_cases h0 : i = 0
      · subst h0
        subst hst
        refine Split.mk fun t h1 => ?_
        cases t
        case false => (exfalso; rw [decide_eq_false_iff_not] at h1; omega)
        rw [decide_eq_true_iff] at h1
        refine Need.mk (by omega) ?_
        refine Row.mk _ hrow ?_
        refine ACall.mk _ _ hE ?_
        refine Split.mk fun t h2 => ?_
        cases t
        case true => cases h2
        refine Need.mk (rfl) ?_
        exact Need.mk ⟨[], _, .same, hres, rfl⟩ trivial
      · subst hst
        refine Split.mk fun t h1 => ?_
        cases t
        case false => (exfalso; rw [decide_eq_false_iff_not] at h1; omega)
        rw [decide_eq_true_iff] at h1
        refine Need.mk (by omega) ?_
        refine Row.mk _ hrow ?_
        refine ACall.mk _ _ hE ?_
        refine Split.mk fun t h2 => ?_
        cases t
        case true => cases h2
        refine Need.mk (rfl) ?_
        exact Need.mk ⟨[], _, .same, hres, rfl⟩ trivial
  · have hres : ∀ t1 t2 : Bool, decide (1 ≤ b.length) = t1 → decide (b.length ≤ 12) = t2 → rb (t1 && t2) = rb (batOk b) := fun t1 t2 e1 e2 => by
      rw [bat_good (fun j e hj => hok j e (by have := (List.getElem?_eq_some_iff.1 hj).1; omega) hj) (fun j x y hx hy => hco j x y (by have := (List.getElem?_eq_some_iff.1 hy).1; omega) hx hy), e1, e2]
    by_cases h1 : 1 ≤ b.length
    · by_cases h2 : b.length ≤ 12
      · have hres : rb true = rb (batOk b) := hres true true (decide_eq_true h1) (decide_eq_true h2)
        subst hst
        refine Split.mk fun t h1 => ?_
        cases t
        case true => (exfalso; rw [decide_eq_true_iff] at h1; omega)
        rw [decide_eq_false_iff_not] at h1
        refine Split.mk fun t h2 => ?_
        cases t
        case false => (exfalso; rw [decide_eq_false_iff_not] at h2; omega)
        rw [decide_eq_true_iff] at h2
        refine Split.mk fun t h3 => ?_
        cases t
        case false => (exfalso; rw [decide_eq_false_iff_not] at h3; omega)
        rw [decide_eq_true_iff] at h3
        exact Need.mk ⟨[], _, .same, hres, rfl⟩ trivial
      · have hres : rb false = rb (batOk b) := hres true false (decide_eq_true h1) (decide_eq_false h2)
        subst hst
        refine Split.mk fun t h1 => ?_
        cases t
        case true => (exfalso; rw [decide_eq_true_iff] at h1; omega)
        rw [decide_eq_false_iff_not] at h1
        refine Split.mk fun t h2 => ?_
        cases t
        case false => (exfalso; rw [decide_eq_false_iff_not] at h2; omega)
        rw [decide_eq_true_iff] at h2
        refine Split.mk fun t h3 => ?_
        cases t
        case true => (exfalso; rw [decide_eq_true_iff] at h3; omega)
        rw [decide_eq_false_iff_not] at h3
        exact Need.mk ⟨[], _, .same, hres, rfl⟩ trivial
    · have hres : rb false = rb (batOk b) := hres false (decide (b.length ≤ 12)) (decide_eq_false h1) rfl
      subst hst
      refine Split.mk fun t h1 => ?_
      cases t
      case true => (exfalso; rw [decide_eq_true_iff] at h1; omega)
      rw [decide_eq_false_iff_not] at h1
      refine Split.mk fun t h2 => ?_
      cases t
      case true => (exfalso; rw [decide_eq_true_iff] at h2; omega)
      rw [decide_eq_false_iff_not] at h2
      exact Need.mk ⟨[], _, .same, hres, rfl⟩ trivial
theorem sz32 : (⟨#[32]⟩ : ByteArray).size = 1 := rfl
theorem sz10 : (⟨#[10]⟩ : ByteArray).size = 1 := rfl
theorem itoaB {n : Int} (h1 : -10000000 < n) (h2 : n < 100000000) : (bt (Lib.itoa n)).size ≤ 8 := by
  rw [bt_size]; exact itoa_len8 h1 h2
theorem spec_FrameText0 (b : List Ent) (hb : OkE b) (hl : b.length ≤ 1048576) (h : batOk b = false) : AFn Tryd.prog 7 [.one (.c (.sl (b.map Ent.enc)))] [] (.one (vs (bt (frameT b)))) [] := by
  have hB := spec_l6Batch b hb hl
  rw [h] at hB
  have hres : RV.one (vs ⟨#[]⟩) = RV.one (vs (bt (frameT b))) := by rw [frameT_neg (by rw [h]; decide)]; rfl
  refine AFn.introX (E := En 0 md0) (en_ok 0 md0) Tryd.func7 rfl rfl rfl fun _ _ => ?_
  refine ACall.mk _ _ hB ?_
  refine Split.mk fun t h1 => ?_
  cases t
  case true => cases h1
  exact Need.mk ⟨[], _, .same, hres, rfl⟩ trivial
theorem spec_FrameText1 (b : List Ent) (hb : OkE b) (hl : b.length ≤ 1048576) (h : batOk b = true) : AFn Tryd.prog 7 [.one (.c (.sl (b.map Ent.enc)))] [] (.one (vs (bt (frameT b)))) [] := by
  have hB := spec_l6Batch b hb hl
  rw [h] at hB
  have hol : (b.map Ent.enc).length = b.length := List.length_map ..
  have hb12 := (batOk_p h).2.1
  have hround : ∀ i : Nat, i < b.length → ∃ (e : Ent) (o d1 d2 d3 d4 : ByteArray), (b.map Ent.enc)[i]? = some e.enc ∧ bt (bodyT (b.take i)) = o ∧ (o.size ≤ 1260 ∧ e.key.size ≤ 8 ∧ d1.size ≤ 8 ∧ d2.size ≤ 8 ∧ d3.size ≤ 8 ∧ d4.size ≤ 8 ∧ e.text.size ≤ 60) ∧
      AFn Tryd.prog 21 [av (.int .i64 e.seq)] [] (.one (vs d1)) [] ∧ AFn Tryd.prog 21 [av (.int .i64 e.kind)] [] (.one (vs d2)) [] ∧ AFn Tryd.prog 21 [av (.int .i64 e.n)] [] (.one (vs d3)) [] ∧ AFn Tryd.prog 21 [av (.int .i64 (e.text.size : Int))] [] (.one (vs d4)) [] ∧
      o ++ e.key ++ bt [32] ++ d1 ++ bt [32] ++ d2 ++ bt [32] ++ d3 ++ bt [32] ++ d4 ++ bt [32] ++ e.text = bt (bodyT (b.take (i + 1))) := by
    intro i hlt
    have hob := body_lt h i
    rw [← bt_size] at hob
    obtain ⟨e, he⟩ : ∃ e, b[i]? = some e := ⟨_, List.getElem?_eq_getElem hlt⟩
    have hrow : (b.map Ent.enc)[i]? = some e.enc := by rw [List.getElem?_map, he]; rfl
    obtain ⟨p1, p2, p3, p4, p5⟩ := entOk_p (bat_get h he)
    have p0 := (keyOk_no32 p1).2
    rw [tb_len] at p0
    have hT := ent_text (bodyT (b.take i)) e
    rw [← body_step he] at hT
    exact ⟨e, _, _, _, _, _, hrow, rfl, ⟨hob, p0, itoaB (by omega) (by omega), itoaB (by omega) (by omega), itoaB (by omega) (by omega), itoaB (by omega) (by omega), p3⟩, l9_Dec e.seq (by omega) (by omega), l9_Dec e.kind (by omega) (by omega), l9_Dec e.n (by omega) (by omega), l9_Dec (e.text.size : Int) (by omega) (by omega), hT⟩
  have hlast : ∀ i : Nat, ¬ i < b.length → ∃ o d : ByteArray, bt (bodyT (b.take i)) = o ∧ (o.size ≤ 1260 ∧ d.size ≤ 8) ∧ AFn Tryd.prog 21 [av (.int .i64 (o.size : Int))] [] (.one (vs d)) [] ∧ RV.one (vs (d ++ bt [32] ++ o ++ bt [10])) = RV.one (vs (bt (frameT b))) := by
    intro i hlt
    have hob := body_lt h i
    have hieq : b.take i = b := List.take_of_length_le (by omega)
    rw [hieq] at hob ⊢
    rw [← bt_size] at hob
    exact ⟨_, _, rfl, ⟨hob, itoaB (by omega) (by omega)⟩, l9_Dec ((bt (bodyT b)).size : Int) (by omega) (by omega), by rw [frame_text h]⟩
  refine AFn.introX (E := En 0 md0) (en_ok 0 md0) Tryd.func7 rfl rfl rfl fun _ _ => ?_
  refine ACall.mk _ _ hB ?_
  refine Split.mk fun t h1 => ?_
  cases t
  case false => cases h1
  let S : Nat → ByteArray → St := fun i o => ⟨some (.one (.c (.sl (b.map Ent.enc)))) :: none :: none :: some (av (.string o)) :: some (av (.int .i64 i)) :: List.replicate 50 none, List.replicate 55 absent⟩
  refine ALoop.mk (fun m s => ∃ i : Nat, (i ≤ b.length ∧ m = b.length - i) ∧ s = S i (bt (bodyT (b.take i))))
    ⟨_, _, Weak.nrm [true, false, false, true, true] [] rfl rfl rfl, 0, ⟨Nat.zero_le _, rfl⟩, rfl⟩ ?_
  rintro m s ⟨i, ⟨hi, rfl⟩, hst⟩
  by_cases hlt : i < b.length
  · refine Exists.elim (hround i hlt) fun e hx => ?_
    refine Exists.elim hx fun o hx => ?_
    refine Exists.elim hx fun d1 hx => ?_
    refine Exists.elim hx fun d2 hx => ?_
    refine Exists.elim hx fun d3 hx => ?_
    refine Exists.elim hx fun d4 hx => ?_
    have hrow := hx.1
    have ho := hx.2.1
    have hz := hx.2.2.1
    have hD1 := hx.2.2.2.1
    have hD2 := hx.2.2.2.2.1
    have hD3 := hx.2.2.2.2.2.1
    have hD4 := hx.2.2.2.2.2.2.1
    have hT := hx.2.2.2.2.2.2.2
    clear hx
    rw [ho] at hst
    subst hst
    refine Split.mk fun t h1 => ?_
    cases t
    case false => (exfalso; rw [decide_eq_false_iff_not] at h1; omega)
    rw [decide_eq_true_iff] at h1
    refine Need.mk (by omega) ?_
    refine Row.mk _ hrow ?_
    refine Need.mk (strFits (by omega)) ?_
    refine Need.mk (strFits (by simp only [ByteArray.size_append, sz32, sz10]; omega)) ?_
    refine ACall.mk _ _ hD1 ?_
    refine Need.mk (strFits (by simp only [ByteArray.size_append, sz32, sz10]; omega)) ?_
    refine Need.mk (strFits (by simp only [ByteArray.size_append, sz32, sz10]; omega)) ?_
    refine ACall.mk _ _ hD2 ?_
    refine Need.mk (strFits (by simp only [ByteArray.size_append, sz32, sz10]; omega)) ?_
    refine Need.mk (strFits (by simp only [ByteArray.size_append, sz32, sz10]; omega)) ?_
    refine ACall.mk _ _ hD3 ?_
    refine Need.mk (strFits (by simp only [ByteArray.size_append, sz32, sz10]; omega)) ?_
    refine Need.mk (strFits (by simp only [ByteArray.size_append, sz32, sz10]; omega)) ?_
    refine ACall.mk _ _ hD4 ?_
    refine Need.mk (strFits (by simp only [ByteArray.size_append, sz32, sz10]; omega)) ?_
    refine Need.mk (strFits (by simp only [ByteArray.size_append, sz32, sz10]; omega)) ?_
    refine Need.mk (strFits (by simp only [ByteArray.size_append, sz32, sz10]; omega)) ?_
    refine Need.mk (rfl) ?_
    refine Num.mk _ (wrapS (by omega)) ?_
    exact ⟨_, _, by omega, Weak.nrm [true, false, false, true, true] [] rfl rfl rfl, i + 1, ⟨by omega, rfl⟩, congrArg (S (i + 1)) hT⟩
  · refine Exists.elim (hlast i hlt) fun o hx => ?_
    refine Exists.elim hx fun d hx => ?_
    have ho := hx.1
    have hz := hx.2.1
    have hD := hx.2.2.1
    have hres := hx.2.2.2
    clear hx
    rw [ho] at hst
    subst hst
    refine Split.mk fun t h1 => ?_
    cases t
    case true => (exfalso; rw [decide_eq_true_iff] at h1; omega)
    rw [decide_eq_false_iff_not] at h1
    refine ACall.mk _ _ hD ?_
    refine Need.mk (strFits (by simp only [ByteArray.size_append, sz32, sz10]; omega)) ?_
    refine Need.mk (strFits (by simp only [ByteArray.size_append, sz32, sz10]; omega)) ?_
    refine Need.mk (strFits (by simp only [ByteArray.size_append, sz32, sz10]; omega)) ?_
    exact Need.mk ⟨[], _, .same, hres, rfl⟩ trivial
end Go.Proofs.YtncnajcpoacdjaaDoor
