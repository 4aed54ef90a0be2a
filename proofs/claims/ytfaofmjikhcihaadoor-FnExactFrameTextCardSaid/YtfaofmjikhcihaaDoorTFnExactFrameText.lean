/-
  Contracts of functions, part 1.
-/
import Derived.Test.YtfaofmjikhcihaaDoorEvD
import Derived.Test.YtfaofmjikhcihaaDoorProg
import Derived.KernelRfl
set_option linter.unusedVariables false
set_option linter.unusedSimpArgs false
namespace Go.Proofs.YtfaofmjikhcihaaDoor
open Go Go.Proofs Ev
def tab : List (TypeId × TI) := [
  (2, ⟨1, 8, false, .int .i64, [.int .i64 0], [none], none⟩),
  (3, ⟨1, 8, false, .int .i64, [.int .i64 0], [none], none⟩),
  (4, ⟨1, 1, false, .bool, [.bool false], [none], none⟩),
  (5, ⟨1, 1, false, .int .u8, [.int .u8 0], [none], none⟩),
  (9, ⟨1, 16, false, .str, [.string ⟨#[]⟩], [none], none⟩),
  (12, ⟨1, 8, false, .int .u64, [.int .u64 0], [none], none⟩),
  (20, ⟨1, 16, false, .other, [.nilIface], [none], none⟩),
  (21, ⟨1, 4, false, .int .i32, [.int .i32 0], [none], none⟩),
  (22, ⟨1, 24, false, .slice 31, [nilV], [some 31], none⟩),
  (23, ⟨1, 8, false, .other, [.nilFunc], [none], none⟩),
  (24, ⟨1, 8, false, .other, [.nilFunc], [none], none⟩),
  (25, ⟨1, 24, false, .slice 33, [nilV], [some 33], none⟩),
  (26, ⟨1, 8, false, .other, [.nilFunc], [none], none⟩),
  (27, ⟨1, 8, false, .other, [.nilFunc], [none], none⟩),
  (28, ⟨1, 8, false, .other, [.nilFunc], [none], none⟩),
  (29, ⟨1, 8, false, .other, [.nilFunc], [none], none⟩),
  (30, ⟨5, 56, true, .struct [(0, 9), (1, 3), (2, 3), (3, 9), (4, 3)], [.string ⟨#[]⟩, .int .i64 0, .int .i64 0, .string ⟨#[]⟩, .int .i64 0], [none, none, none, none, none], some [.str, .int .i64, .int .i64, .str, .int .i64]⟩),
  (31, ⟨5, 56, true, .struct [(0, 9), (1, 3), (2, 3), (3, 9), (4, 3)], [.string ⟨#[]⟩, .int .i64 0, .int .i64 0, .string ⟨#[]⟩, .int .i64 0], [none, none, none, none, none], some [.str, .int .i64, .int .i64, .str, .int .i64]⟩),
  (32, ⟨1, 8, false, .other, [.nilFunc], [none], none⟩),
  (33, ⟨5, 56, true, .struct [(0, 9), (1, 3), (2, 3), (3, 9), (4, 3)], [.string ⟨#[]⟩, .int .i64 0, .int .i64 0, .string ⟨#[]⟩, .int .i64 0], [none, none, none, none, none], some [.str, .int .i64, .int .i64, .str, .int .i64]⟩),
  (34, ⟨1, 8, false, .other, [.nilFunc], [none], none⟩),
  (35, ⟨1, 8, false, .other, [.nilFunc], [none], none⟩),
  (36, ⟨1, 8, false, .ptr, [.pointer none], [none], none⟩),
  (37, ⟨1, 24, false, .slice 5, [nilV], [some 5], none⟩),
  (38, ⟨2, 32, true, .struct [(0, 36), (1, 37)], [.pointer none, nilV], [none, some 5], none⟩),
  (39, ⟨2, 32, true, .struct [(0, 36), (1, 37)], [.pointer none, nilV], [none, some 5], none⟩),
  (40, ⟨1, 16, false, .other, [.nilIface], [none], none⟩),
  (41, ⟨1, 16, false, .other, [.nilIface], [none], none⟩),
  (43, ⟨1, 8, false, .other, [.nilFunc], [none], none⟩),
  (44, ⟨1, 24, false, .slice 3, [nilV], [some 3], none⟩),
  (45, ⟨1, 8, false, .other, [.nilFunc], [none], none⟩),
  (46, ⟨1, 8, false, .other, [.nilFunc], [none], none⟩),
  (47, ⟨1, 8, false, .other, [.nilFunc], [none], none⟩),
  (48, ⟨1, 8, false, .other, [.nilFunc], [none], none⟩),
  (49, ⟨1, 8, false, .ptr, [.pointer none], [none], none⟩),
  (50, ⟨1, 8, false, .other, [.nilFunc], [none], none⟩),
  (51, ⟨1, 8, false, .other, [.nilFunc], [none], none⟩),
  (52, ⟨1, 8, false, .other, [.pointer none], [none], none⟩),
  (53, ⟨1, 8, false, .other, [.nilFunc], [none], none⟩),
  (54, ⟨1, 8, false, .other, [.nilFunc], [none], none⟩),
  (55, ⟨24, 24, true, .array 24 5, [.int .u8 0, .int .u8 0, .int .u8 0, .int .u8 0, .int .u8 0, .int .u8 0, .int .u8 0, .int .u8 0, .int .u8 0, .int .u8 0, .int .u8 0, .int .u8 0, .int .u8 0, .int .u8 0, .int .u8 0, .int .u8 0, .int .u8 0, .int .u8 0, .int .u8 0, .int .u8 0, .int .u8 0, .int .u8 0, .int .u8 0, .int .u8 0], [none, none, none, none, none, none, none, none, none, none, none, none, none, none, none, none, none, none, none, none, none, none, none, none], none⟩),
  (56, ⟨1, 8, false, .int .u64, [.int .u64 0], [none], none⟩),
  (57, ⟨1, 8, false, .other, [.nilFunc], [none], none⟩),
  (58, ⟨1, 8, false, .other, [.nilFunc], [none], none⟩),
  (60, ⟨1, 8, false, .other, [.nilFunc], [none], none⟩),
  (61, ⟨1, 8, false, .other, [.nilFunc], [none], none⟩),
  (62, ⟨1, 8, false, .other, [.nilFunc], [none], none⟩),
  (63, ⟨20, 160, true, .array 20 56, [.int .u64 0, .int .u64 0, .int .u64 0, .int .u64 0, .int .u64 0, .int .u64 0, .int .u64 0, .int .u64 0, .int .u64 0, .int .u64 0, .int .u64 0, .int .u64 0, .int .u64 0, .int .u64 0, .int .u64 0, .int .u64 0, .int .u64 0, .int .u64 0, .int .u64 0, .int .u64 0], [none, none, none, none, none, none, none, none, none, none, none, none, none, none, none, none, none, none, none, none], none⟩),
  (64, ⟨1, 4, false, .int .u32, [.int .u32 0], [none], none⟩),
  (65, ⟨65, 65, true, .array 65 5, [.int .u8 0, .int .u8 0, .int .u8 0, .int .u8 0, .int .u8 0, .int .u8 0, .int .u8 0, .int .u8 0, .int .u8 0, .int .u8 0, .int .u8 0, .int .u8 0, .int .u8 0, .int .u8 0, .int .u8 0, .int .u8 0, .int .u8 0, .int .u8 0, .int .u8 0, .int .u8 0, .int .u8 0, .int .u8 0, .int .u8 0, .int .u8 0, .int .u8 0, .int .u8 0, .int .u8 0, .int .u8 0, .int .u8 0, .int .u8 0, .int .u8 0, .int .u8 0, .int .u8 0, .int .u8 0, .int .u8 0, .int .u8 0, .int .u8 0, .int .u8 0, .int .u8 0, .int .u8 0, .int .u8 0, .int .u8 0, .int .u8 0, .int .u8 0, .int .u8 0, .int .u8 0, .int .u8 0, .int .u8 0, .int .u8 0, .int .u8 0, .int .u8 0, .int .u8 0, .int .u8 0, .int .u8 0, .int .u8 0, .int .u8 0, .int .u8 0, .int .u8 0, .int .u8 0, .int .u8 0, .int .u8 0, .int .u8 0, .int .u8 0, .int .u8 0, .int .u8 0], [none, none, none, none, none, none, none, none, none, none, none, none, none, none, none, none, none, none, none, none, none, none, none, none, none, none, none, none, none, none, none, none, none, none, none, none, none, none, none, none, none, none, none, none, none, none, none, none, none, none, none, none, none, none, none, none, none, none, none, none, none, none, none, none, none], none⟩),
  (66, ⟨1, 8, false, .int .u64, [.int .u64 0], [none], none⟩),
  (67, ⟨1, 8, false, .other, [.nilFunc], [none], none⟩),
  (68, ⟨1, 8, false, .other, [.nilFunc], [none], none⟩),
  (69, ⟨32, 32, true, .array 32 5, [.int .u8 0, .int .u8 0, .int .u8 0, .int .u8 0, .int .u8 0, .int .u8 0, .int .u8 0, .int .u8 0, .int .u8 0, .int .u8 0, .int .u8 0, .int .u8 0, .int .u8 0, .int .u8 0, .int .u8 0, .int .u8 0, .int .u8 0, .int .u8 0, .int .u8 0, .int .u8 0, .int .u8 0, .int .u8 0, .int .u8 0, .int .u8 0, .int .u8 0, .int .u8 0, .int .u8 0, .int .u8 0, .int .u8 0, .int .u8 0, .int .u8 0, .int .u8 0], [none, none, none, none, none, none, none, none, none, none, none, none, none, none, none, none, none, none, none, none, none, none, none, none, none, none, none, none, none, none, none, none], none⟩),
  (70, ⟨64, 64, true, .array 64 5, [.int .u8 0, .int .u8 0, .int .u8 0, .int .u8 0, .int .u8 0, .int .u8 0, .int .u8 0, .int .u8 0, .int .u8 0, .int .u8 0, .int .u8 0, .int .u8 0, .int .u8 0, .int .u8 0, .int .u8 0, .int .u8 0, .int .u8 0, .int .u8 0, .int .u8 0, .int .u8 0, .int .u8 0, .int .u8 0, .int .u8 0, .int .u8 0, .int .u8 0, .int .u8 0, .int .u8 0, .int .u8 0, .int .u8 0, .int .u8 0, .int .u8 0, .int .u8 0, .int .u8 0, .int .u8 0, .int .u8 0, .int .u8 0, .int .u8 0, .int .u8 0, .int .u8 0, .int .u8 0, .int .u8 0, .int .u8 0, .int .u8 0, .int .u8 0, .int .u8 0, .int .u8 0, .int .u8 0, .int .u8 0, .int .u8 0, .int .u8 0, .int .u8 0, .int .u8 0, .int .u8 0, .int .u8 0, .int .u8 0, .int .u8 0, .int .u8 0, .int .u8 0, .int .u8 0, .int .u8 0, .int .u8 0, .int .u8 0, .int .u8 0, .int .u8 0], [none, none, none, none, none, none, none, none, none, none, none, none, none, none, none, none, none, none, none, none, none, none, none, none, none, none, none, none, none, none, none, none, none, none, none, none, none, none, none, none, none, none, none, none, none, none, none, none, none, none, none, none, none, none, none, none, none, none, none, none, none, none, none, none], none⟩),
  (71, ⟨4, 40, true, .struct [(0, 17), (1, 17), (2, 17), (3, 9)], [.pointer none, .pointer none, .pointer none, .string ⟨#[]⟩], [none, none, none, none], none⟩),
  (72, ⟨4, 40, true, .struct [(0, 17), (1, 17), (2, 17), (3, 9)], [.pointer none, .pointer none, .pointer none, .string ⟨#[]⟩], [none, none, none, none], none⟩),
  (73, ⟨0, 0, true, .array 0 16, [], [], none⟩),
  (76, ⟨1, 1, false, .int .u8, [.int .u8 0], [none], none⟩),
  (77, ⟨1, 1, false, .int .u8, [.int .u8 0], [none], none⟩),
  (78, ⟨1, 8, false, .other, [.nilFunc], [none], none⟩),
  (79, ⟨1, 4, false, .int .i32, [.int .i32 0], [none], none⟩),
  (80, ⟨1, 4, false, .int .i32, [.int .i32 0], [none], none⟩),
  (81, ⟨11, 48, true, .struct [(0, 12), (1, 12), (2, 64), (3, 76), (4, 5), (5, 5), (6, 77), (7, 78), (8, 49), (9, 79), (10, 80)], [.int .u64 0, .int .u64 0, .int .u32 0, .int .u8 0, .int .u8 0, .int .u8 0, .int .u8 0, .nilFunc, .pointer none, .int .i32 0, .int .i32 0], [none, none, none, none, none, none, none, none, none, none, none], none⟩),
  (82, ⟨11, 48, true, .struct [(0, 12), (1, 12), (2, 64), (3, 76), (4, 5), (5, 5), (6, 77), (7, 78), (8, 49), (9, 79), (10, 80)], [.int .u64 0, .int .u64 0, .int .u32 0, .int .u8 0, .int .u8 0, .int .u8 0, .int .u8 0, .nilFunc, .pointer none, .int .i32 0, .int .i32 0], [none, none, none, none, none, none, none, none, none, none, none], none⟩)]
set_option maxRecDepth 100000
theorem tab_ok : tabB Tryd.prog tab = true := by kernel_rfl
theorem mixed : Tryd.prog.follows .mixedOrders = true := by kernel_rfl
def mtab : List (TypeId × String × MI) := []
theorem mtab_ok : mtB Tryd.prog mtab = true := by kernel_rfl
noncomputable def En (m : Nat) (md : FuncId → Nat) (cb : List Nat := []) (vw : List Nat := []) (fz : List Nat := []) (fb : List Nat := []) (ws : List Nat := []) (me : Option TypeId := none) : Env := ⟨Tryd.prog, findT tab, md, m, cb, mtab, vw, fz, fb, ws, me⟩
theorem en_ok (m : Nat) (md : FuncId → Nat) (cb : List Nat := []) (vw : List Nat := []) (fz : List Nat := []) (fb : List Nat := []) (ws : List Nat := []) (me : Option TypeId := none) : EOk (En m md cb vw fz fb ws me) := eok_of tab_ok mtab_ok mixed
def md0 : FuncId → Nat := fun _ => 0
def md1 (l : List FuncId) : FuncId → Nat := fun f => bif l.elem f then 1 else 0
end Go.Proofs.YtfaofmjikhcihaaDoor

namespace Go.Proofs.YtfaofmjikhcihaaDoor
open Go Go.Proofs Ev
set_option maxRecDepth 100000
set_option maxHeartbeats 40000000
set_option linter.unusedSimpArgs false
set_option linter.unusedVariables false
theorem l9_Dec0 (k : Nat) (hk : k ≤ 9223372036854775807) : AFn Tryd.prog 11 [av (.int .i64 k)] [] (.one (vs (bt (Lib.decDigits k)))) [] := by
  refine AFn.introX (E := En 0 md0) (en_ok 0 md0) Tryd.func11 rfl rfl rfl fun _ _ => ?_
  refine Split.mk fun t h1 => ?_
  cases t
  case true => cases h1
  refine Split.mk fun t h2 => ?_
  cases t
  case true => cases h2
  refine ALoop.mk (fun m s => ∃ (j : Nat) (out : ByteArray), m = j ∧ j ≤ 9223372036854775807 ∧ bt (Lib.decDigits j ++ tb out) = bt (Lib.decDigits k) ∧ s = ⟨some (av (.int .i64 j)) :: none :: none :: some (av (.string out)) :: List.replicate 27 none, List.replicate 31 absent⟩)
    ⟨_, _, Weak.nrm [true, false, false, true] [] rfl rfl rfl, k, ⟨#[]⟩, rfl, hk, congrArg bt (List.append_nil _), rfl⟩ ?_
  rintro j s ⟨_, out, rfl, hj, hd, hs⟩
  have hsz := dec_size (by omega) hd
  subst hs
  refine Split.mk fun t ht => ?_
  cases t
  · rw [decide_eq_false_iff_not] at ht
    refine Num.mk ((48 + j % 10 : Nat) : Int) (by rw [wrapI] <;> omega) ?_
    refine Num.mk ((48 + j % 10 : Nat) : Int) (by rw [wrapU8] <;> omega) ?_
    refine Need.mk (strFits1 (by omega)) ?_
    refine Need.mk ⟨[], _, .same, ?_, rfl⟩ trivial
    have e1 := (dec_last (out := out) (by omega)).trans hd
    rw [← e1]; rfl
  · rw [decide_eq_true_iff] at ht
    have hj9 : 9 < j := by omega
    refine Need.mk (by decide) ?_
    refine Num.mk ((48 + j % 10 : Nat) : Int) (by rw [show ((j : Int).tmod 10) = ((j % 10 : Nat) : Int) from rfl, wrapI] <;> omega) ?_
    refine Num.mk ((48 + j % 10 : Nat) : Int) (by rw [wrapU8] <;> omega) ?_
    refine Need.mk (strFits1 (by omega)) ?_
    refine Need.mk (by decide) ?_
    refine Num.mk ((j / 10 : Nat) : Int) (by rw [show ((j : Int).tdiv 10) = ((j / 10 : Nat) : Int) from rfl, wrapI] <;> omega) ?_
    exact ⟨j / 10, _, by omega, Weak.nrm [true, false, false, true] [] rfl rfl rfl, j / 10, dig j ++ out, rfl, by omega, (dec_step hj9).trans hd, rfl⟩
theorem l9_DecN (n : Int) (k : Nat) (hn : n = -(k : Int)) (hk : 0 < k) (hm : k ≤ 9223372036854775807) (h0 : AFn Tryd.prog 11 [av (.int .i64 (0 - n))] [] (.one (vs (bt (Lib.decDigits k)))) []) : AFn Tryd.prog 11 [av (.int .i64 n)] [] (.one (vs (bt [45] ++ bt (Lib.decDigits k)))) [] := by
  have hsz : (bt (Lib.decDigits k)).size ≤ 19 := by
    rw [bt_size, Lib.decDigits_length]
    exact nD_le 18 k (by omega)
  refine AFn.introX (E := En 0 md0) (en_ok 0 md0) Tryd.func11 rfl rfl rfl fun _ _ => ?_
  refine Split.mk fun t h1 => ?_
  cases t
  case true => (exfalso; rw [decide_eq_true_iff] at h1; omega)
  rw [decide_eq_false_iff_not] at h1
  refine Split.mk fun t h2 => ?_
  cases t
  case false => (exfalso; rw [decide_eq_false_iff_not] at h2; omega)
  rw [decide_eq_true_iff] at h2
  refine Num.mk _ (wrapI (by omega) (by omega)) ?_
  refine ACall.mk _ _ h0 ?_
  refine Need.mk (strFits1 (by omega)) ?_
  exact Need.mk ⟨[], _, .same, rfl, rfl⟩ trivial
/-- Numbers in decimals. -/
theorem l9_Dec (n : Int) (h1 : -9223372036854775807 ≤ n) (h2 : n ≤ 9223372036854775807) : AFn Tryd.prog 11 [av (.int .i64 n)] [] (.one (vs (bt (Lib.itoa n)))) [] := by
  by_cases h : 0 ≤ n
  · have := l9_Dec0 n.toNat (by omega)
    rw [show ((n.toNat : Nat) : Int) = n by omega] at this
    rw [itoa_pos h]
    exact this
  · have h0 := l9_Dec0 n.natAbs (by omega)
    rw [show ((n.natAbs : Nat) : Int) = 0 - n by omega] at h0
    have := l9_DecN n n.natAbs (by omega) (by omega) (by omega) h0
    rw [itoa_neg (by omega)]
    rw [bt_app] at this
    exact this
theorem entA_rng (s : ByteArray) (p : Nat) (hp : p ≤ s.size) : -1 ≤ (entA s p).2 ∧ (entA s p).2 ≤ s.size := by
  cases h : RS.ent ((tb s).drop p) with
  | none => rw [entA_no hp h]; exact ⟨Int.le_refl _, by show (-1 : Int) ≤ s.size; omega⟩
  | some q =>
    obtain ⟨p', h1, h2, h3, h4⟩ := entA_some (e := q.1) (r := q.2) hp h
    rw [h4]
    exact ⟨by show (-1 : Int) ≤ p'; omega, by show (p' : Int) ≤ s.size; omega⟩
theorem impl_KeyOk (s : ByteArray) (hs : s.size ≤ maxLen) : AFn Tryd.prog 25 [av (.string s)] [] (rb (keyOk s)) [] := by
  refine AFn.introX (E := En 0 md0) (en_ok 0 md0) Tryd.func25 rfl rfl rfl fun _ _ => ?_
  unfold maxLen at hs
  have fin : ∀ {c : Bool}, c = keyOk s → rb c = rb (keyOk s) := fun h => by rw [h]
  refine Split.mk fun t ht => ?_
  cases t
  case true => exact Need.mk ⟨[], _, .same, fin (keyOk_len (by simp at ht; omega)).symm, rfl⟩ trivial
  refine Split.mk fun t ht2 => ?_
  cases t
  case true => exact Need.mk ⟨[], _, .same, fin (keyOk_len (by simp at ht2; omega)).symm, rfl⟩ trivial
  have hsz : 1 ≤ s.size ∧ s.size ≤ 8 := by simp at ht ht2; omega
  refine ALoop.mk (fun m s' => ∃ i : Nat, i ≤ s.size ∧ m = s.size - i ∧ (∀ j : Nat, j < i → okc (byteAt s j) = true) ∧
      s' = ⟨some (av (.string s)) :: none :: some (av (.bool false)) :: none :: none :: none :: none :: none :: none :: none :: none :: none :: none :: none :: some (av (.int .i64 s.size)) :: some (av (.int .i64 i)) :: List.replicate 25 none, List.replicate 41 absent⟩)
    ⟨s.size, _, Weak.nrm [true, false, true, false, false, false, false, false, false, false, false, false, false, false, true, true] [] rfl rfl rfl, 0, Nat.zero_le _, rfl, by intro j hj; omega, rfl⟩ ?_
  rintro m s' ⟨i, hi, rfl, hall, rfl⟩
  refine Split.mk fun t ht => ?_
  cases t
  · have hin : i = s.size := by simp at ht; omega
    subst hin
    exact Need.mk ⟨[], _, .same, fin (by rw [keyOk_all hall]; simp [hsz]), rfl⟩ trivial
  have hia : i < s.size := by simpa using ht
  have more : okc (byteAt s i) = true → ∀ j : Nat, j < i + 1 → okc (byteAt s j) = true := fun hc j hj => by
    by_cases hji : j = i
    · rw [hji]; exact hc
    · exact hall j (by omega)
  refine Need.mk ⟨by omega, by omega⟩ ?_
  refine Split.mk fun t h1 => ?_
  cases t
  · refine Split.mk fun t h3 => ?_
    cases t
    · refine Split.mk fun t h5 => ?_
      cases t
      · have hc : okc (byteAt s i) = false := by simp at h1 h3 h5; simp [okc]; omega
        exact Need.mk ⟨[], _, .same, fin (keyOk_bad hia hc).symm, rfl⟩ trivial
      · have hc : okc (byteAt s i) = true := by simp at h1 h3 h5; simp [okc]; omega
        refine Num.mk _ (wrapS (by omega)) ?_
        exact ⟨s.size - (i + 1), _, by omega, Weak.nrm [true, false, true, false, false, false, false, false, false, false, false, false, false, false, true, true] [] rfl rfl rfl, i + 1, by omega, rfl, more hc, rfl⟩
    · refine Split.mk fun t h4 => ?_
      cases t
      · refine Split.mk fun t h5 => ?_
        cases t
        · have hc : okc (byteAt s i) = false := by simp at h1 h3 h4 h5; simp [okc]; omega
          exact Need.mk ⟨[], _, .same, fin (keyOk_bad hia hc).symm, rfl⟩ trivial
        · have hc : okc (byteAt s i) = true := by simp at h1 h3 h4 h5; simp [okc]; omega
          refine Num.mk _ (wrapS (by omega)) ?_
          exact ⟨s.size - (i + 1), _, by omega, Weak.nrm [true, false, true, false, false, false, false, false, false, false, false, false, false, false, true, true] [] rfl rfl rfl, i + 1, by omega, rfl, more hc, rfl⟩
      · have hc : okc (byteAt s i) = true := by simp at h1 h3 h4; simp [okc]; omega
        refine Num.mk _ (wrapS (by omega)) ?_
        exact ⟨s.size - (i + 1), _, by omega, Weak.nrm [true, false, true, false, false, false, false, false, false, false, false, false, false, false, true, true] [] rfl rfl rfl, i + 1, by omega, rfl, more hc, rfl⟩
  · refine Split.mk fun t h2 => ?_
    cases t
    · refine Split.mk fun t h3 => ?_
      cases t
      · refine Split.mk fun t h5 => ?_
        cases t
        · have hc : okc (byteAt s i) = false := by simp at h1 h2 h3 h5; simp [okc]; omega
          exact Need.mk ⟨[], _, .same, fin (keyOk_bad hia hc).symm, rfl⟩ trivial
        · have hc : okc (byteAt s i) = true := by simp at h1 h2 h3 h5; simp [okc]; omega
          refine Num.mk _ (wrapS (by omega)) ?_
          exact ⟨s.size - (i + 1), _, by omega, Weak.nrm [true, false, true, false, false, false, false, false, false, false, false, false, false, false, true, true] [] rfl rfl rfl, i + 1, by omega, rfl, more hc, rfl⟩
      · refine Split.mk fun t h4 => ?_
        cases t
        · refine Split.mk fun t h5 => ?_
          cases t
          · have hc : okc (byteAt s i) = false := by simp at h1 h2 h3 h4 h5; simp [okc]; omega
            exact Need.mk ⟨[], _, .same, fin (keyOk_bad hia hc).symm, rfl⟩ trivial
          · have hc : okc (byteAt s i) = true := by simp at h1 h2 h3 h4 h5; simp [okc]; omega
            refine Num.mk _ (wrapS (by omega)) ?_
            exact ⟨s.size - (i + 1), _, by omega, Weak.nrm [true, false, true, false, false, false, false, false, false, false, false, false, false, false, true, true] [] rfl rfl rfl, i + 1, by omega, rfl, more hc, rfl⟩
        · have hc : okc (byteAt s i) = true := by simp at h1 h2 h3 h4; simp [okc]; omega
          refine Num.mk _ (wrapS (by omega)) ?_
          exact ⟨s.size - (i + 1), _, by omega, Weak.nrm [true, false, true, false, false, false, false, false, false, false, false, false, false, false, true, true] [] rfl rfl rfl, i + 1, by omega, rfl, more hc, rfl⟩
    · have hc : okc (byteAt s i) = true := by simp at h1 h2; simp [okc]; omega
      refine Num.mk _ (wrapS (by omega)) ?_
      exact ⟨s.size - (i + 1), _, by omega, Weak.nrm [true, false, true, false, false, false, false, false, false, false, false, false, false, false, true, true] [] rfl rfl rfl, i + 1, by omega, rfl, more hc, rfl⟩
theorem spec_KeyOk (s : ByteArray) (hs : s.size ≤ maxLen) : AFn Tryd.prog 23 [av (.string s)] [] (rb (keyOk s)) [] := by
  refine AFn.introX (E := En 0 md0) (en_ok 0 md0) Tryd.func23 rfl rfl rfl fun _ _ => ?_
  unfold maxLen at hs
  have fin : ∀ {c : Bool}, c = keyOk s → rb c = rb (keyOk s) := fun h => by rw [h]
  refine ALoop.mk (fun m s' => ∃ i : Nat, i ≤ s.size ∧ m = s.size - i ∧ (∀ j : Nat, j < i → okc (byteAt s j) = true) ∧
      s' = ⟨some (av (.string s)) :: none :: some (av (.bool false)) :: some (av (.int .i64 i)) :: List.replicate 36 none, List.replicate 40 absent⟩)
    ⟨s.size, _, Weak.nrm [true, false, true, true] [] rfl rfl rfl, 0, Nat.zero_le _, rfl, by intro j hj; omega, rfl⟩ ?_
  rintro m s' ⟨i, hi, rfl, hall, rfl⟩
  refine Split.mk fun t ht => ?_
  cases t
  · have hin : i = s.size := by simp at ht; omega
    subst hin
    refine Split.mk fun t h1 => ?_
    cases t
    · exact Need.mk ⟨[], _, .same, fin (by rw [keyOk_all hall]; simp at h1; simp; omega), rfl⟩ trivial
    · refine Split.mk fun t h2 => ?_
      cases t
      · exact Need.mk ⟨[], _, .same, fin (by rw [keyOk_all hall]; simp at h1 h2; simp; omega), rfl⟩ trivial
      · exact Need.mk ⟨[], _, .same, fin (by rw [keyOk_all hall]; simp at h1 h2; simp; omega), rfl⟩ trivial
  have hia : i < s.size := by simpa using ht
  have more : okc (byteAt s i) = true → ∀ j : Nat, j < i + 1 → okc (byteAt s j) = true := fun hc j hj => by
    by_cases hji : j = i
    · rw [hji]; exact hc
    · exact hall j (by omega)
  refine Need.mk ⟨by omega, by omega⟩ ?_
  refine Split.mk fun t h1 => ?_
  cases t
  · refine Need.mk ⟨by omega, by omega⟩ ?_
    refine Split.mk fun t h2 => ?_
    cases t
    · have hc : okc (byteAt s i) = true := by simp at h1 h2; simp [okc]; omega
      refine Num.mk _ (wrapS (by omega)) ?_
      exact ⟨s.size - (i + 1), _, by omega, Weak.nrm [true, false, true, true] [] rfl rfl rfl, i + 1, by omega, rfl, more hc, rfl⟩
    · refine Need.mk ⟨by omega, by omega⟩ ?_
      refine Split.mk fun t h3 => ?_
      cases t
      · refine Need.mk ⟨by omega, by omega⟩ ?_
        refine Split.mk fun t h4 => ?_
        cases t
        · have hc : okc (byteAt s i) = true := by simp at h1 h2 h3 h4; simp [okc]; omega
          refine Num.mk _ (wrapS (by omega)) ?_
          exact ⟨s.size - (i + 1), _, by omega, Weak.nrm [true, false, true, true] [] rfl rfl rfl, i + 1, by omega, rfl, more hc, rfl⟩
        · have hc : okc (byteAt s i) = false := by simp at h1 h2 h3 h4; simp [okc]; omega
          exact Need.mk ⟨[], _, .same, fin (keyOk_bad hia hc).symm, rfl⟩ trivial
      · have hc : okc (byteAt s i) = false := by simp at h1 h2 h3; simp [okc]; omega
        exact Need.mk ⟨[], _, .same, fin (keyOk_bad hia hc).symm, rfl⟩ trivial
  · refine Need.mk ⟨by omega, by omega⟩ ?_
    refine Split.mk fun t h3 => ?_
    cases t
    · refine Need.mk ⟨by omega, by omega⟩ ?_
      refine Split.mk fun t h4 => ?_
      cases t
      · have hc : okc (byteAt s i) = true := by simp at h1 h3 h4; simp [okc]; omega
        refine Num.mk _ (wrapS (by omega)) ?_
        exact ⟨s.size - (i + 1), _, by omega, Weak.nrm [true, false, true, true] [] rfl rfl rfl, i + 1, by omega, rfl, more hc, rfl⟩
      · have hc : okc (byteAt s i) = false := by simp at h1 h3 h4; simp [okc]; omega
        exact Need.mk ⟨[], _, .same, fin (keyOk_bad hia hc).symm, rfl⟩ trivial
    · have hc : okc (byteAt s i) = false := by simp at h1 h3; simp [okc]; omega
      exact Need.mk ⟨[], _, .same, fin (keyOk_bad hia hc).symm, rfl⟩ trivial
theorem spec_l3Sum (n : Int) : AFn Tryd.prog 24 [av (.int .i64 n)] [] (rb (sumOk n)) [] := by
  refine AFn.introX (E := En 0 md0) (en_ok 0 md0) Tryd.func24 rfl rfl rfl fun _ _ => ?_
  have fin : ∀ {c : Bool}, c = sumOk n → rb c = rb (sumOk n) := fun h => by rw [h]
  refine Split.mk fun t h1 => ?_
  cases t
  · exact Need.mk ⟨[], _, .same, fin (by simp at h1; simp [sumOk]; omega), rfl⟩ trivial
  · refine Split.mk fun t h2 => ?_
    cases t
    · exact Need.mk ⟨[], _, .same, fin (by simp at h1 h2; simp [sumOk]; omega), rfl⟩ trivial
    · exact Need.mk ⟨[], _, .same, fin (by simp at h1 h2; simp [sumOk]; omega), rfl⟩ trivial
theorem impl_EntryOk (e : Ent) (he : e.Ok) : AFn Tryd.prog 20 [.agg (e.enc.map .c)] [] (rb (entOk e)) [] := by
  refine AFn.introX (E := En 0 md0) (en_ok 0 md0) Tryd.func20 rfl rfl rfl fun _ _ => ?_
  have fin : ∀ {c : Bool}, c = entOk e → rb c = rb (entOk e) := fun h => by rw [h]
  refine ACall.mk _ _ (impl_KeyOk e.key he.1) ?_
  refine Split.mk fun t h_k => ?_
  cases t
  · have f_k : keyOk e.key = false := by exact h_k
    exact Need.mk ⟨[], _, .same, fin (by simp [entOk, f_k]), rfl⟩ trivial
  · refine Split.mk fun t h_s1 => ?_
    cases t
    · refine Split.mk fun t h_s2 => ?_
      cases t
      · refine Split.mk fun t h_tx => ?_
        cases t
        · refine Split.mk fun t h_n1 => ?_
          cases t
          · refine Split.mk fun t h_n2 => ?_
            cases t
            · refine Split.mk fun t h_c1 => ?_
              cases t
              · refine Split.mk fun t h_c2 => ?_
                cases t
                · refine Split.mk fun t h_c3 => ?_
                  cases t
                  · have f_k : keyOk e.key = true := by exact h_k
                    have f_s1 : decide (1 ≤ e.seq) = true := by simp at h_s1; simp; omega
                    have f_s2 : decide (e.seq ≤ 100000) = true := by simp at h_s2; simp; omega
                    have f_tx : decide (e.text.size ≤ 60) = true := by simp at h_tx; simp; omega
                    have f_c1 : decide (e.kind = 1) = false := by simp at h_c1; simp; omega
                    have f_c2 : decide (e.kind = 2) = false := by simp at h_c2; simp; omega
                    have f_c3 : decide (e.kind = 3) = false := by simp at h_c3; simp; omega
                    have f_su : sumOk e.n = true := by simp at h_n1 h_n2; simp [sumOk]; omega
                    exact Need.mk ⟨[], _, .same, fin (by simp [entOk, f_k, f_s1, f_s2, f_tx, f_c1, f_c2, f_c3, f_su]), rfl⟩ trivial
                  · refine Split.mk fun t h_t => ?_
                    rw [bytes_beq] at h_t
                    cases t
                    · have f_k : keyOk e.key = true := by exact h_k
                      have f_s1 : decide (1 ≤ e.seq) = true := by simp at h_s1; simp; omega
                      have f_s2 : decide (e.seq ≤ 100000) = true := by simp at h_s2; simp; omega
                      have f_tx : decide (e.text.size ≤ 60) = true := by simp at h_tx; simp; omega
                      have f_c1 : decide (e.kind = 1) = false := by simp at h_c1; simp; omega
                      have f_c2 : decide (e.kind = 2) = false := by simp at h_c2; simp; omega
                      have f_c3 : decide (e.kind = 3) = true := by simp at h_c3; simp; omega
                      have f_t : decide (e.text = ⟨#[]⟩) = false := by exact h_t
                      have f_su : sumOk e.n = true := by simp at h_n1 h_n2; simp [sumOk]; omega
                      exact Need.mk ⟨[], _, .same, fin (by simp [entOk, f_k, f_s1, f_s2, f_tx, f_c1, f_c2, f_c3, f_t, f_su]), rfl⟩ trivial
                    · have f_k : keyOk e.key = true := by exact h_k
                      have f_s1 : decide (1 ≤ e.seq) = true := by simp at h_s1; simp; omega
                      have f_s2 : decide (e.seq ≤ 100000) = true := by simp at h_s2; simp; omega
                      have f_tx : decide (e.text.size ≤ 60) = true := by simp at h_tx; simp; omega
                      have f_c1 : decide (e.kind = 1) = false := by simp at h_c1; simp; omega
                      have f_c2 : decide (e.kind = 2) = false := by simp at h_c2; simp; omega
                      have f_c3 : decide (e.kind = 3) = true := by simp at h_c3; simp; omega
                      have f_t : decide (e.text = ⟨#[]⟩) = true := by exact h_t
                      have f_su : sumOk e.n = true := by simp at h_n1 h_n2; simp [sumOk]; omega
                      exact Need.mk ⟨[], _, .same, fin (by simp [entOk, f_k, f_s1, f_s2, f_tx, f_c1, f_c2, f_c3, f_t, f_su]), rfl⟩ trivial
                · refine Split.mk fun t h_t => ?_
                  rw [bytes_beq] at h_t
                  cases t
                  · have f_k : keyOk e.key = true := by exact h_k
                    have f_s1 : decide (1 ≤ e.seq) = true := by simp at h_s1; simp; omega
                    have f_s2 : decide (e.seq ≤ 100000) = true := by simp at h_s2; simp; omega
                    have f_tx : decide (e.text.size ≤ 60) = true := by simp at h_tx; simp; omega
                    have f_c1 : decide (e.kind = 1) = false := by simp at h_c1; simp; omega
                    have f_c2 : decide (e.kind = 2) = true := by simp at h_c2; simp; omega
                    have f_t : decide (e.text = ⟨#[]⟩) = false := by exact h_t
                    have f_su : sumOk e.n = true := by simp at h_n1 h_n2; simp [sumOk]; omega
                    exact Need.mk ⟨[], _, .same, fin (by simp [entOk, f_k, f_s1, f_s2, f_tx, f_c1, f_c2, f_t, f_su]), rfl⟩ trivial
                  · refine Split.mk fun t h_z => ?_
                    cases t
                    · have f_k : keyOk e.key = true := by exact h_k
                      have f_s1 : decide (1 ≤ e.seq) = true := by simp at h_s1; simp; omega
                      have f_s2 : decide (e.seq ≤ 100000) = true := by simp at h_s2; simp; omega
                      have f_tx : decide (e.text.size ≤ 60) = true := by simp at h_tx; simp; omega
                      have f_c1 : decide (e.kind = 1) = false := by simp at h_c1; simp; omega
                      have f_c2 : decide (e.kind = 2) = true := by simp at h_c2; simp; omega
                      have f_t : decide (e.text = ⟨#[]⟩) = true := by exact h_t
                      have f_z : decide (e.n = 0) = false := by simp at h_z; simp; omega
                      have f_c3 : decide (e.kind = 3) = false := by simp at h_c2; simp; omega
                      have f_su : sumOk e.n = true := by simp at h_n1 h_n2; simp [sumOk]; omega
                      exact Need.mk ⟨[], _, .same, fin (by simp [entOk, f_k, f_s1, f_s2, f_tx, f_c1, f_c2, f_t, f_z, f_c3, f_su]), rfl⟩ trivial
                    · have f_k : keyOk e.key = true := by exact h_k
                      have f_s1 : decide (1 ≤ e.seq) = true := by simp at h_s1; simp; omega
                      have f_s2 : decide (e.seq ≤ 100000) = true := by simp at h_s2; simp; omega
                      have f_tx : decide (e.text.size ≤ 60) = true := by simp at h_tx; simp; omega
                      have f_c1 : decide (e.kind = 1) = false := by simp at h_c1; simp; omega
                      have f_c2 : decide (e.kind = 2) = true := by simp at h_c2; simp; omega
                      have f_t : decide (e.text = ⟨#[]⟩) = true := by exact h_t
                      have f_z : decide (e.n = 0) = true := by simp at h_z; simp; omega
                      have f_su : sumOk e.n = true := by simp at h_n1 h_n2; simp [sumOk]; omega
                      exact Need.mk ⟨[], _, .same, fin (by simp [entOk, f_k, f_s1, f_s2, f_tx, f_c1, f_c2, f_t, f_z, f_su]), rfl⟩ trivial
              · have f_k : keyOk e.key = true := by exact h_k
                have f_s1 : decide (1 ≤ e.seq) = true := by simp at h_s1; simp; omega
                have f_s2 : decide (e.seq ≤ 100000) = true := by simp at h_s2; simp; omega
                have f_tx : decide (e.text.size ≤ 60) = true := by simp at h_tx; simp; omega
                have f_c1 : decide (e.kind = 1) = true := by simp at h_c1; simp; omega
                have f_su : sumOk e.n = true := by simp at h_n1 h_n2; simp [sumOk]; omega
                exact Need.mk ⟨[], _, .same, fin (by simp [entOk, f_k, f_s1, f_s2, f_tx, f_c1, f_su]), rfl⟩ trivial
            · have f_k : keyOk e.key = true := by exact h_k
              have f_s1 : decide (1 ≤ e.seq) = true := by simp at h_s1; simp; omega
              have f_s2 : decide (e.seq ≤ 100000) = true := by simp at h_s2; simp; omega
              have f_tx : decide (e.text.size ≤ 60) = true := by simp at h_tx; simp; omega
              have f_su : sumOk e.n = false := by simp at h_n1 h_n2; simp [sumOk]; omega
              exact Need.mk ⟨[], _, .same, fin (by simp [entOk, f_k, f_s1, f_s2, f_tx, f_su]), rfl⟩ trivial
          · have f_k : keyOk e.key = true := by exact h_k
            have f_s1 : decide (1 ≤ e.seq) = true := by simp at h_s1; simp; omega
            have f_s2 : decide (e.seq ≤ 100000) = true := by simp at h_s2; simp; omega
            have f_tx : decide (e.text.size ≤ 60) = true := by simp at h_tx; simp; omega
            have f_su : sumOk e.n = false := by simp at h_n1; simp [sumOk]; omega
            exact Need.mk ⟨[], _, .same, fin (by simp [entOk, f_k, f_s1, f_s2, f_tx, f_su]), rfl⟩ trivial
        · have f_k : keyOk e.key = true := by exact h_k
          have f_s1 : decide (1 ≤ e.seq) = true := by simp at h_s1; simp; omega
          have f_s2 : decide (e.seq ≤ 100000) = true := by simp at h_s2; simp; omega
          have f_tx : decide (e.text.size ≤ 60) = false := by simp at h_tx; simp; omega
          exact Need.mk ⟨[], _, .same, fin (by simp [entOk, f_k, f_s1, f_s2, f_tx]), rfl⟩ trivial
      · have f_k : keyOk e.key = true := by exact h_k
        have f_s1 : decide (1 ≤ e.seq) = true := by simp at h_s1; simp; omega
        have f_s2 : decide (e.seq ≤ 100000) = false := by simp at h_s2; simp; omega
        exact Need.mk ⟨[], _, .same, fin (by simp [entOk, f_k, f_s1, f_s2]), rfl⟩ trivial
    · have f_k : keyOk e.key = true := by exact h_k
      have f_s1 : decide (1 ≤ e.seq) = false := by simp at h_s1; simp; omega
      exact Need.mk ⟨[], _, .same, fin (by simp [entOk, f_k, f_s1]), rfl⟩ trivial
theorem spec_EntryOk (e : Ent) (he : e.Ok) : AFn Tryd.prog 19 [.agg (e.enc.map .c)] [] (rb (entOk e)) [] := by
  refine AFn.introX (E := En 0 md0) (en_ok 0 md0) Tryd.func19 rfl rfl rfl fun _ _ => ?_
  have fin : ∀ {c : Bool}, c = entOk e → rb c = rb (entOk e) := fun h => by rw [h]
  refine ACall.mk _ _ (spec_KeyOk e.key he.1) ?_
  refine Split.mk fun t h_k => ?_
  cases t
  · have f_k : keyOk e.key = false := by exact h_k
    exact Need.mk ⟨[], _, .same, fin (by simp [entOk, f_k]), rfl⟩ trivial
  · refine Split.mk fun t h_s1 => ?_
    cases t
    · refine Split.mk fun t h_s2 => ?_
      cases t
      · refine ACall.mk _ _ (spec_l3Sum e.n) ?_
        refine Split.mk fun t h_su => ?_
        cases t
        · have f_k : keyOk e.key = true := by exact h_k
          have f_s1 : decide (1 ≤ e.seq) = true := by simp at h_s1; simp; omega
          have f_s2 : decide (e.seq ≤ 100000) = true := by simp at h_s2; simp; omega
          have f_su : sumOk e.n = false := by exact h_su
          exact Need.mk ⟨[], _, .same, fin (by simp [entOk, f_k, f_s1, f_s2, f_su]), rfl⟩ trivial
        · refine Split.mk fun t h_tx => ?_
          cases t
          · refine Split.mk fun t h_c1 => ?_
            cases t
            · refine Split.mk fun t h_c2 => ?_
              cases t
              · refine Split.mk fun t h_c3 => ?_
                cases t
                · have f_k : keyOk e.key = true := by exact h_k
                  have f_s1 : decide (1 ≤ e.seq) = true := by simp at h_s1; simp; omega
                  have f_s2 : decide (e.seq ≤ 100000) = true := by simp at h_s2; simp; omega
                  have f_su : sumOk e.n = true := by exact h_su
                  have f_tx : decide (e.text.size ≤ 60) = true := by simp at h_tx; simp; omega
                  have f_c1 : decide (e.kind = 1) = false := by simp at h_c1; simp; omega
                  have f_c2 : decide (e.kind = 2) = false := by simp at h_c2; simp; omega
                  have f_c3 : decide (e.kind = 3) = false := by simp at h_c3; simp; omega
                  exact Need.mk ⟨[], _, .same, fin (by simp [entOk, f_k, f_s1, f_s2, f_su, f_tx, f_c1, f_c2, f_c3]), rfl⟩ trivial
                · refine Split.mk fun t h_t => ?_
                  rw [bytes_beq] at h_t
                  cases t
                  · have f_k : keyOk e.key = true := by exact h_k
                    have f_s1 : decide (1 ≤ e.seq) = true := by simp at h_s1; simp; omega
                    have f_s2 : decide (e.seq ≤ 100000) = true := by simp at h_s2; simp; omega
                    have f_su : sumOk e.n = true := by exact h_su
                    have f_tx : decide (e.text.size ≤ 60) = true := by simp at h_tx; simp; omega
                    have f_c1 : decide (e.kind = 1) = false := by simp at h_c1; simp; omega
                    have f_c2 : decide (e.kind = 2) = false := by simp at h_c2; simp; omega
                    have f_c3 : decide (e.kind = 3) = true := by simp at h_c3; simp; omega
                    have f_t : decide (e.text = ⟨#[]⟩) = false := by exact h_t
                    exact Need.mk ⟨[], _, .same, fin (by simp [entOk, f_k, f_s1, f_s2, f_su, f_tx, f_c1, f_c2, f_c3, f_t]), rfl⟩ trivial
                  · have f_k : keyOk e.key = true := by exact h_k
                    have f_s1 : decide (1 ≤ e.seq) = true := by simp at h_s1; simp; omega
                    have f_s2 : decide (e.seq ≤ 100000) = true := by simp at h_s2; simp; omega
                    have f_su : sumOk e.n = true := by exact h_su
                    have f_tx : decide (e.text.size ≤ 60) = true := by simp at h_tx; simp; omega
                    have f_c1 : decide (e.kind = 1) = false := by simp at h_c1; simp; omega
                    have f_c2 : decide (e.kind = 2) = false := by simp at h_c2; simp; omega
                    have f_c3 : decide (e.kind = 3) = true := by simp at h_c3; simp; omega
                    have f_t : decide (e.text = ⟨#[]⟩) = true := by exact h_t
                    exact Need.mk ⟨[], _, .same, fin (by simp [entOk, f_k, f_s1, f_s2, f_su, f_tx, f_c1, f_c2, f_c3, f_t]), rfl⟩ trivial
              · refine Split.mk fun t h_t => ?_
                rw [bytes_beq] at h_t
                cases t
                · have f_k : keyOk e.key = true := by exact h_k
                  have f_s1 : decide (1 ≤ e.seq) = true := by simp at h_s1; simp; omega
                  have f_s2 : decide (e.seq ≤ 100000) = true := by simp at h_s2; simp; omega
                  have f_su : sumOk e.n = true := by exact h_su
                  have f_tx : decide (e.text.size ≤ 60) = true := by simp at h_tx; simp; omega
                  have f_c1 : decide (e.kind = 1) = false := by simp at h_c1; simp; omega
                  have f_c2 : decide (e.kind = 2) = true := by simp at h_c2; simp; omega
                  have f_t : decide (e.text = ⟨#[]⟩) = false := by exact h_t
                  exact Need.mk ⟨[], _, .same, fin (by simp [entOk, f_k, f_s1, f_s2, f_su, f_tx, f_c1, f_c2, f_t]), rfl⟩ trivial
                · refine Split.mk fun t h_z => ?_
                  cases t
                  · have f_k : keyOk e.key = true := by exact h_k
                    have f_s1 : decide (1 ≤ e.seq) = true := by simp at h_s1; simp; omega
                    have f_s2 : decide (e.seq ≤ 100000) = true := by simp at h_s2; simp; omega
                    have f_su : sumOk e.n = true := by exact h_su
                    have f_tx : decide (e.text.size ≤ 60) = true := by simp at h_tx; simp; omega
                    have f_c1 : decide (e.kind = 1) = false := by simp at h_c1; simp; omega
                    have f_c2 : decide (e.kind = 2) = true := by simp at h_c2; simp; omega
                    have f_t : decide (e.text = ⟨#[]⟩) = true := by exact h_t
                    have f_z : decide (e.n = 0) = false := by simp at h_z; simp; omega
                    have f_c3 : decide (e.kind = 3) = false := by simp at h_c2; simp; omega
                    exact Need.mk ⟨[], _, .same, fin (by simp [entOk, f_k, f_s1, f_s2, f_su, f_tx, f_c1, f_c2, f_t, f_z, f_c3]), rfl⟩ trivial
                  · have f_k : keyOk e.key = true := by exact h_k
                    have f_s1 : decide (1 ≤ e.seq) = true := by simp at h_s1; simp; omega
                    have f_s2 : decide (e.seq ≤ 100000) = true := by simp at h_s2; simp; omega
                    have f_su : sumOk e.n = true := by exact h_su
                    have f_tx : decide (e.text.size ≤ 60) = true := by simp at h_tx; simp; omega
                    have f_c1 : decide (e.kind = 1) = false := by simp at h_c1; simp; omega
                    have f_c2 : decide (e.kind = 2) = true := by simp at h_c2; simp; omega
                    have f_t : decide (e.text = ⟨#[]⟩) = true := by exact h_t
                    have f_z : decide (e.n = 0) = true := by simp at h_z; simp; omega
                    exact Need.mk ⟨[], _, .same, fin (by simp [entOk, f_k, f_s1, f_s2, f_su, f_tx, f_c1, f_c2, f_t, f_z]), rfl⟩ trivial
            · have f_k : keyOk e.key = true := by exact h_k
              have f_s1 : decide (1 ≤ e.seq) = true := by simp at h_s1; simp; omega
              have f_s2 : decide (e.seq ≤ 100000) = true := by simp at h_s2; simp; omega
              have f_su : sumOk e.n = true := by exact h_su
              have f_tx : decide (e.text.size ≤ 60) = true := by simp at h_tx; simp; omega
              have f_c1 : decide (e.kind = 1) = true := by simp at h_c1; simp; omega
              exact Need.mk ⟨[], _, .same, fin (by simp [entOk, f_k, f_s1, f_s2, f_su, f_tx, f_c1]), rfl⟩ trivial
          · have f_k : keyOk e.key = true := by exact h_k
            have f_s1 : decide (1 ≤ e.seq) = true := by simp at h_s1; simp; omega
            have f_s2 : decide (e.seq ≤ 100000) = true := by simp at h_s2; simp; omega
            have f_su : sumOk e.n = true := by exact h_su
            have f_tx : decide (e.text.size ≤ 60) = false := by simp at h_tx; simp; omega
            exact Need.mk ⟨[], _, .same, fin (by simp [entOk, f_k, f_s1, f_s2, f_su, f_tx]), rfl⟩ trivial
      · have f_k : keyOk e.key = true := by exact h_k
        have f_s1 : decide (1 ≤ e.seq) = true := by simp at h_s1; simp; omega
        have f_s2 : decide (e.seq ≤ 100000) = false := by simp at h_s2; simp; omega
        exact Need.mk ⟨[], _, .same, fin (by simp [entOk, f_k, f_s1, f_s2]), rfl⟩ trivial
    · have f_k : keyOk e.key = true := by exact h_k
      have f_s1 : decide (1 ≤ e.seq) = false := by simp at h_s1; simp; omega
      exact Need.mk ⟨[], _, .same, fin (by simp [entOk, f_k, f_s1]), rfl⟩ trivial
theorem spec_l6Batch (b : List Ent) (hb : OkE b) (hl : b.length ≤ 1048576) : AFn Tryd.prog 10 [.one (.c (.sl (b.map Ent.enc)))] [] (rb (batOk b)) [] := by
  have hol : (b.map Ent.enc).length = b.length := List.length_map ..
  refine AFn.introX (E := En 0 md0) (en_ok 0 md0) Tryd.func10 rfl rfl rfl fun _ _ => ?_
  let S : Nat → St := fun i => ⟨some (.one (.c (.sl (b.map Ent.enc)))) :: none :: none :: some (av (.int .i64 i)) :: List.replicate 39 none, List.replicate 43 absent⟩
  refine ALoop.mk (fun m s' => ∃ i : Nat, (i ≤ b.length ∧ m = b.length - i) ∧ (∀ (j : Nat) (e : Ent), j < i → b[j]? = some e → entOk e = true) ∧ (∀ (j : Nat) (x y : Ent), j + 1 < i → b[j]? = some x → b[j + 1]? = some y → y.seq = x.seq + 1) ∧ s' = S i)
    ⟨_, _, Weak.nrm [true, false, false, true] [] rfl rfl rfl, 0, ⟨Nat.zero_le _, rfl⟩, fun j e h => absurd h (Nat.not_lt_zero _), fun j x y h => absurd h (Nat.not_lt_zero _), rfl⟩ ?_
  rintro m st ⟨i, ⟨hi, rfl⟩, hok, hco, hst⟩
  by_cases hlt : i < b.length
  · obtain ⟨e, he⟩ : ∃ e, b[i]? = some e := ⟨_, List.getElem?_eq_getElem hlt⟩
    have hrow : (b.map Ent.enc)[i]? = some e.enc := by rw [List.getElem?_map, he]; rfl
    have hE := spec_EntryOk e (hb e (List.mem_of_getElem? he))
    by_cases hbad : entOk e = true
    · rw [hbad] at hE
      have hok2 : ∀ (j : Nat) (e' : Ent), j < i + 1 → b[j]? = some e' → entOk e' = true := fun j e' hj hje => by
        by_cases hji : j = i
        · subst hji; rw [he] at hje; injection hje with hje; rw [← hje]; exact hbad
        · exact hok j e' (by omega) hje
      by_cases h0 : i = 0
      · subst h0
        subst hst
        refine Split.mk fun t h1 => ?_
        cases t
        case false => (exfalso; rw [decide_eq_false_iff_not] at h1; omega)
        rw [decide_eq_true_iff] at h1
        refine Need.mk (by omega) ?_
        refine Row.mk _ hrow ?_
        refine ACall.mk _ _ hE ?_
        refine Split.mk fun t h2 => ?_
        cases t
        case false => cases h2
        refine Split.mk fun t h3 => ?_
        cases t
        case true => cases h3
        refine Need.mk (rfl) ?_
        refine Num.mk _ (wrapS (by omega)) ?_
        exact ⟨_, _, by omega, Weak.nrm [true, false, false, true] [] rfl rfl rfl, 0 + 1, ⟨by omega, rfl⟩, hok2, fun j x y hj => absurd hj (by omega), rfl⟩
      · obtain ⟨x, hx⟩ : ∃ x, b[i - 1]? = some x := ⟨_, List.getElem?_eq_getElem (by omega)⟩
        have hrow1 : (b.map Ent.enc)[i - 1]? = some x.enc := by rw [List.getElem?_map, hx]; rfl
        have hxs := (entOk_p (hok (i - 1) x (by omega) hx)).2.1
        have hsub : IntKind.i64.wrap ((i : Int) - 1) = ((i - 1 : Nat) : Int) := wrapI' (by omega) (by omega)
        by_cases hne : e.seq = x.seq + 1
        · have hco2 : ∀ (j : Nat) (x y : Ent), j + 1 < i + 1 → b[j]? = some x → b[j + 1]? = some y → y.seq = x.seq + 1 := fun j x' y hj hjx hjy => by
            by_cases hji : j + 1 = i
            · have e1 : j = i - 1 := by omega
              subst e1
              rw [hx] at hjx; injection hjx with hjx
              rw [hji, he] at hjy; injection hjy with hjy
              rw [← hjx, ← hjy]; exact hne
            · exact hco j x' y (by omega) hjx hjy
          subst hst
          refine Split.mk fun t h1 => ?_
          cases t
          case false => (exfalso; rw [decide_eq_false_iff_not] at h1; omega)
          rw [decide_eq_true_iff] at h1
          refine Need.mk (by omega) ?_
          refine Row.mk _ hrow ?_
          refine ACall.mk _ _ hE ?_
          refine Split.mk fun t h2 => ?_
          cases t
          case false => cases h2
          refine Split.mk fun t h3 => ?_
          cases t
          case false => (exfalso; rw [decide_eq_false_iff_not] at h3; omega)
          rw [decide_eq_true_iff] at h3
          refine Need.mk (by omega) ?_
          refine Row.mk _ hrow ?_
          refine Num.mk _ hsub ?_
          refine Need.mk (by omega) ?_
          refine Row.mk _ hrow1 ?_
          refine Num.mk _ (wrapI (by omega) (by omega)) ?_
          refine Split.mk fun t h4 => ?_
          cases t
          case true => (exfalso; rw [bne_iff_ne] at h4; omega)
          rw [bne_eq_false_iff_eq] at h4
          refine Need.mk (rfl) ?_
          refine Num.mk _ (wrapS (by omega)) ?_
          exact ⟨_, _, by omega, Weak.nrm [true, false, false, true] [] rfl rfl rfl, i + 1, ⟨by omega, rfl⟩, hok2, hco2, rfl⟩
        · have hres : rb false = rb (batOk b) := by rw [bat_bad2 hx (by rw [show i - 1 + 1 = i by omega]; exact he) hne]
          subst hst
          refine Split.mk fun t h1 => ?_
          cases t
          case false => (exfalso; rw [decide_eq_false_iff_not] at h1; omega)
          rw [decide_eq_true_iff] at h1
          refine Need.mk (by omega) ?_
          refine Row.mk _ hrow ?_
          refine ACall.mk _ _ hE ?_
          refine Split.mk fun t h2 => ?_
          cases t
          case false => cases h2
          refine Split.mk fun t h3 => ?_
          cases t
          case false => (exfalso; rw [decide_eq_false_iff_not] at h3; omega)
          rw [decide_eq_true_iff] at h3
          refine Need.mk (by omega) ?_
          refine Row.mk _ hrow ?_
          refine Num.mk _ hsub ?_
          refine Need.mk (by omega) ?_
          refine Row.mk _ hrow1 ?_
          refine Num.mk _ (wrapI (by omega) (by omega)) ?_
          refine Split.mk fun t h4 => ?_
          cases t
          case false => (exfalso; rw [bne_eq_false_iff_eq] at h4; omega)
          rw [bne_iff_ne] at h4
          refine Need.mk (rfl) ?_
          exact Need.mk ⟨[], _, .same, hres, rfl⟩ trivial
    · have hbad2 : entOk e = false := by simpa using hbad
      rw [hbad2] at hE
      have hres : rb false = rb (batOk b) := by rw [bat_bad1 he hbad2]
      by_cases h0 : i = 0
      · subst h0
        subst hst
        refine Split.mk fun t h1 => ?_
        cases t
        case false => (exfalso; rw [decide_eq_false_iff_not] at h1; omega)
        rw [decide_eq_true_iff] at h1
        refine Need.mk (by omega) ?_
        refine Row.mk _ hrow ?_
        refine ACall.mk _ _ hE ?_
        refine Split.mk fun t h2 => ?_
        cases t
        case true => cases h2
        refine Need.mk (rfl) ?_
        exact Need.mk ⟨[], _, .same, hres, rfl⟩ trivial
      · subst hst
        refine Split.mk fun t h1 => ?_
        cases t
        case false => (exfalso; rw [decide_eq_false_iff_not] at h1; omega)
        rw [decide_eq_true_iff] at h1
        refine Need.mk (by omega) ?_
        refine Row.mk _ hrow ?_
        refine ACall.mk _ _ hE ?_
        refine Split.mk fun t h2 => ?_
        cases t
        case true => cases h2
        refine Need.mk (rfl) ?_
        exact Need.mk ⟨[], _, .same, hres, rfl⟩ trivial
  · have hres : ∀ t1 t2 : Bool, decide (1 ≤ b.length) = t1 → decide (b.length ≤ 12) = t2 → rb (t1 && t2) = rb (batOk b) := fun t1 t2 e1 e2 => by
      rw [bat_good (fun j e hj => hok j e (by have := (List.getElem?_eq_some_iff.1 hj).1; omega) hj) (fun j x y hx hy => hco j x y (by have := (List.getElem?_eq_some_iff.1 hy).1; omega) hx hy), e1, e2]
    by_cases h1 : 1 ≤ b.length
    · by_cases h2 : b.length ≤ 12
      · have hres : rb true = rb (batOk b) := hres true true (decide_eq_true h1) (decide_eq_true h2)
        subst hst
        refine Split.mk fun t h1 => ?_
        cases t
        case true => (exfalso; rw [decide_eq_true_iff] at h1; omega)
        rw [decide_eq_false_iff_not] at h1
        refine Split.mk fun t h2 => ?_
        cases t
        case false => (exfalso; rw [decide_eq_false_iff_not] at h2; omega)
        rw [decide_eq_true_iff] at h2
        refine Split.mk fun t h3 => ?_
        cases t
        case false => (exfalso; rw [decide_eq_false_iff_not] at h3; omega)
        rw [decide_eq_true_iff] at h3
        exact Need.mk ⟨[], _, .same, hres, rfl⟩ trivial
      · have hres : rb false = rb (batOk b) := hres true false (decide_eq_true h1) (decide_eq_false h2)
        subst hst
        refine Split.mk fun t h1 => ?_
        cases t
        case true => (exfalso; rw [decide_eq_true_iff] at h1; omega)
        rw [decide_eq_false_iff_not] at h1
        refine Split.mk fun t h2 => ?_
        cases t
        case false => (exfalso; rw [decide_eq_false_iff_not] at h2; omega)
        rw [decide_eq_true_iff] at h2
        refine Split.mk fun t h3 => ?_
        cases t
        case true => (exfalso; rw [decide_eq_true_iff] at h3; omega)
        rw [decide_eq_false_iff_not] at h3
        exact Need.mk ⟨[], _, .same, hres, rfl⟩ trivial
    · have hres : rb false = rb (batOk b) := hres false (decide (b.length ≤ 12)) (decide_eq_false h1) rfl
      subst hst
      refine Split.mk fun t h1 => ?_
      cases t
      case true => (exfalso; rw [decide_eq_true_iff] at h1; omega)
      rw [decide_eq_false_iff_not] at h1
      refine Split.mk fun t h2 => ?_
      cases t
      case true => (exfalso; rw [decide_eq_true_iff] at h2; omega)
      rw [decide_eq_false_iff_not] at h2
      exact Need.mk ⟨[], _, .same, hres, rfl⟩ trivial
theorem sz32 : (⟨#[32]⟩ : ByteArray).size = 1 := rfl
theorem sz10 : (⟨#[10]⟩ : ByteArray).size = 1 := rfl
theorem itoaB {n : Int} (h1 : -10000000 < n) (h2 : n < 100000000) : (bt (Lib.itoa n)).size ≤ 8 := by
  rw [bt_size]; exact itoa_len8 h1 h2
theorem spec_FrameText0 (b : List Ent) (hb : OkE b) (hl : b.length ≤ 1048576) (h : batOk b = false) : AFn Tryd.prog 5 [.one (.c (.sl (b.map Ent.enc)))] [] (.one (vs (bt (frameT b)))) [] := by
  have hB := spec_l6Batch b hb hl
  rw [h] at hB
  have hres : RV.one (vs ⟨#[]⟩) = RV.one (vs (bt (frameT b))) := by rw [frameT_neg (by rw [h]; decide)]; rfl
  refine AFn.introX (E := En 0 md0) (en_ok 0 md0) Tryd.func5 rfl rfl rfl fun _ _ => ?_
  refine ACall.mk _ _ hB ?_
  refine Split.mk fun t h1 => ?_
  cases t
  case true => cases h1
  exact Need.mk ⟨[], _, .same, hres, rfl⟩ trivial
theorem spec_FrameText1 (b : List Ent) (hb : OkE b) (hl : b.length ≤ 1048576) (h : batOk b = true) : AFn Tryd.prog 5 [.one (.c (.sl (b.map Ent.enc)))] [] (.one (vs (bt (frameT b)))) [] := by
  have hB := spec_l6Batch b hb hl
  rw [h] at hB
  have hol : (b.map Ent.enc).length = b.length := List.length_map ..
  have hb12 := (batOk_p h).2.1
  have hround : ∀ i : Nat, i < b.length → ∃ (e : Ent) (o d1 d2 d3 d4 : ByteArray), (b.map Ent.enc)[i]? = some e.enc ∧ bt (bodyT (b.take i)) = o ∧ (o.size ≤ 1260 ∧ e.key.size ≤ 8 ∧ d1.size ≤ 8 ∧ d2.size ≤ 8 ∧ d3.size ≤ 8 ∧ d4.size ≤ 8 ∧ e.text.size ≤ 60) ∧
      AFn Tryd.prog 11 [av (.int .i64 e.seq)] [] (.one (vs d1)) [] ∧ AFn Tryd.prog 11 [av (.int .i64 e.kind)] [] (.one (vs d2)) [] ∧ AFn Tryd.prog 11 [av (.int .i64 e.n)] [] (.one (vs d3)) [] ∧ AFn Tryd.prog 11 [av (.int .i64 (e.text.size : Int))] [] (.one (vs d4)) [] ∧
      o ++ e.key ++ bt [32] ++ d1 ++ bt [32] ++ d2 ++ bt [32] ++ d3 ++ bt [32] ++ d4 ++ bt [32] ++ e.text = bt (bodyT (b.take (i + 1))) := by
    intro i hlt
    have hob := body_lt h i
    rw [← bt_size] at hob
    obtain ⟨e, he⟩ : ∃ e, b[i]? = some e := ⟨_, List.getElem?_eq_getElem hlt⟩
    have hrow : (b.map Ent.enc)[i]? = some e.enc := by rw [List.getElem?_map, he]; rfl
    obtain ⟨p1, p2, p3, p4, p5⟩ := entOk_p (bat_get h he)
    have p0 := (keyOk_no32 p1).2
    rw [tb_len] at p0
    have hT := ent_text (bodyT (b.take i)) e
    rw [← body_step he] at hT
    exact ⟨e, _, _, _, _, _, hrow, rfl, ⟨hob, p0, itoaB (by omega) (by omega), itoaB (by omega) (by omega), itoaB (by omega) (by omega), itoaB (by omega) (by omega), p3⟩, l9_Dec e.seq (by omega) (by omega), l9_Dec e.kind (by omega) (by omega), l9_Dec e.n (by omega) (by omega), l9_Dec (e.text.size : Int) (by omega) (by omega), hT⟩
  have hlast : ∀ i : Nat, ¬ i < b.length → ∃ o d : ByteArray, bt (bodyT (b.take i)) = o ∧ (o.size ≤ 1260 ∧ d.size ≤ 8) ∧ AFn Tryd.prog 11 [av (.int .i64 (o.size : Int))] [] (.one (vs d)) [] ∧ RV.one (vs (d ++ bt [32] ++ o ++ bt [10])) = RV.one (vs (bt (frameT b))) := by
    intro i hlt
    have hob := body_lt h i
    have hieq : b.take i = b := List.take_of_length_le (by omega)
    rw [hieq] at hob ⊢
    rw [← bt_size] at hob
    exact ⟨_, _, rfl, ⟨hob, itoaB (by omega) (by omega)⟩, l9_Dec ((bt (bodyT b)).size : Int) (by omega) (by omega), by rw [frame_text h]⟩
  refine AFn.introX (E := En 0 md0) (en_ok 0 md0) Tryd.func5 rfl rfl rfl fun _ _ => ?_
  refine ACall.mk _ _ hB ?_
  refine Split.mk fun t h1 => ?_
  cases t
  case false => cases h1
  let S : Nat → ByteArray → St := fun i o => ⟨some (.one (.c (.sl (b.map Ent.enc)))) :: none :: none :: some (av (.string o)) :: some (av (.int .i64 i)) :: List.replicate 50 none, List.replicate 55 absent⟩
  refine ALoop.mk (fun m s => ∃ i : Nat, (i ≤ b.length ∧ m = b.length - i) ∧ s = S i (bt (bodyT (b.take i))))
    ⟨_, _, Weak.nrm [true, false, false, true, true] [] rfl rfl rfl, 0, ⟨Nat.zero_le _, rfl⟩, rfl⟩ ?_
  rintro m s ⟨i, ⟨hi, rfl⟩, hst⟩
  by_cases hlt : i < b.length
  · refine Exists.elim (hround i hlt) fun e hx => ?_
    refine Exists.elim hx fun o hx => ?_
    refine Exists.elim hx fun d1 hx => ?_
    refine Exists.elim hx fun d2 hx => ?_
    refine Exists.elim hx fun d3 hx => ?_
    refine Exists.elim hx fun d4 hx => ?_
    have hrow := hx.1
    have ho := hx.2.1
    have hz := hx.2.2.1
    have hD1 := hx.2.2.2.1
    have hD2 := hx.2.2.2.2.1
    have hD3 := hx.2.2.2.2.2.1
    have hD4 := hx.2.2.2.2.2.2.1
    have hT := hx.2.2.2.2.2.2.2
    clear hx
    rw [ho] at hst
    subst hst
    refine Split.mk fun t h1 => ?_
    cases t
    case false => (exfalso; rw [decide_eq_false_iff_not] at h1; omega)
    rw [decide_eq_true_iff] at h1
    refine Need.mk (by omega) ?_
    refine Row.mk _ hrow ?_
    refine Need.mk (strFits (by omega)) ?_
    refine Need.mk (strFits (by simp only [ByteArray.size_append, sz32, sz10]; omega)) ?_
    refine ACall.mk _ _ hD1 ?_
    refine Need.mk (strFits (by simp only [ByteArray.size_append, sz32, sz10]; omega)) ?_
    refine Need.mk (strFits (by simp only [ByteArray.size_append, sz32, sz10]; omega)) ?_
    refine ACall.mk _ _ hD2 ?_
    refine Need.mk (strFits (by simp only [ByteArray.size_append, sz32, sz10]; omega)) ?_
    refine Need.mk (strFits (by simp only [ByteArray.size_append, sz32, sz10]; omega)) ?_
    refine ACall.mk _ _ hD3 ?_
    refine Need.mk (strFits (by simp only [ByteArray.size_append, sz32, sz10]; omega)) ?_
    refine Need.mk (strFits (by simp only [ByteArray.size_append, sz32, sz10]; omega)) ?_
    refine ACall.mk _ _ hD4 ?_
    refine Need.mk (strFits (by simp only [ByteArray.size_append, sz32, sz10]; omega)) ?_
    refine Need.mk (strFits (by simp only [ByteArray.size_append, sz32, sz10]; omega)) ?_
    refine Need.mk (strFits (by simp only [ByteArray.size_append, sz32, sz10]; omega)) ?_
    refine Need.mk (rfl) ?_
    refine Num.mk _ (wrapS (by omega)) ?_
    exact ⟨_, _, by omega, Weak.nrm [true, false, false, true, true] [] rfl rfl rfl, i + 1, ⟨by omega, rfl⟩, congrArg (S (i + 1)) hT⟩
  · refine Exists.elim (hlast i hlt) fun o hx => ?_
    refine Exists.elim hx fun d hx => ?_
    have ho := hx.1
    have hz := hx.2.1
    have hD := hx.2.2.1
    have hres := hx.2.2.2
    clear hx
    rw [ho] at hst
    subst hst
    refine Split.mk fun t h1 => ?_
    cases t
    case true => (exfalso; rw [decide_eq_true_iff] at h1; omega)
    rw [decide_eq_false_iff_not] at h1
    refine ACall.mk _ _ hD ?_
    refine Need.mk (strFits (by simp only [ByteArray.size_append, sz32, sz10]; omega)) ?_
    refine Need.mk (strFits (by simp only [ByteArray.size_append, sz32, sz10]; omega)) ?_
    refine Need.mk (strFits (by simp only [ByteArray.size_append, sz32, sz10]; omega)) ?_
    exact Need.mk ⟨[], _, .same, hres, rfl⟩ trivial
theorem spec_FrameText (b : List Ent) (hb : OkE b) (hl : b.length ≤ 1048576) : AFn Tryd.prog 5 [.one (.c (.sl (b.map Ent.enc)))] [] (.one (vs (bt (frameT b)))) [] := by
  cases h : batOk b with
  | true => exact spec_FrameText1 b hb hl h
  | false => exact spec_FrameText0 b hb hl h
theorem impl_batchOk (b : List Ent) (hb : OkE b) (hl : b.length ≤ 1048576) : AFn Tryd.prog 13 [.one (.c (.sl (b.map Ent.enc)))] [] (rb (batOk b)) [] := by
  have hol : (b.map Ent.enc).length = b.length := List.length_map ..
  have hround : ∀ i : Nat, i < b.length → (∀ (j : Nat) (e : Ent), j < i → b[j]? = some e → entOk e = true) → (∀ (j : Nat) (x y : Ent), j + 1 < i → b[j]? = some x → b[j + 1]? = some y → y.seq = x.seq + 1) →
      ∃ e : Ent, (b.map Ent.enc)[i]? = some e.enc ∧ AFn Tryd.prog 20 [.agg (e.enc.map .c)] [] (rb (entOk e)) [] ∧ (entOk e = true → (∀ (j : Nat) (e' : Ent), j < i + 1 → b[j]? = some e' → entOk e' = true) ∧
        (i ≠ 0 → ∃ x : Ent, (b.map Ent.enc)[i - 1]? = some x.enc ∧ (1 ≤ x.seq ∧ x.seq ≤ 100000) ∧ (e.seq = x.seq + 1 → ∀ (j : Nat) (x y : Ent), j + 1 < i + 1 → b[j]? = some x → b[j + 1]? = some y → y.seq = x.seq + 1) ∧ (e.seq ≠ x.seq + 1 → batOk b = false))) ∧
        (entOk e = false → batOk b = false) := by
    intro i hlt hok hco
    obtain ⟨e, he⟩ : ∃ e, b[i]? = some e := ⟨_, List.getElem?_eq_getElem hlt⟩
    have hrow : (b.map Ent.enc)[i]? = some e.enc := by rw [List.getElem?_map, he]; rfl
    refine ⟨e, hrow, impl_EntryOk e (hb e (List.mem_of_getElem? he)), fun hbad => ⟨fun j e' hj hje => ?_, fun h0 => ?_⟩, fun hbad => bat_bad1 he hbad⟩
    · by_cases hji : j = i
      · subst hji; rw [he] at hje; injection hje with hje; rw [← hje]; exact hbad
      · exact hok j e' (by omega) hje
    · obtain ⟨x, hx⟩ : ∃ x, b[i - 1]? = some x := ⟨_, List.getElem?_eq_getElem (by omega)⟩
      have hrow1 : (b.map Ent.enc)[i - 1]? = some x.enc := by rw [List.getElem?_map, hx]; rfl
      have hxs := (entOk_p (hok (i - 1) x (by omega) hx)).2.1
      refine ⟨x, hrow1, hxs, fun hne j x' y hj hjx hjy => ?_, fun hne => bat_bad2 hx (by rw [show i - 1 + 1 = i by omega]; exact he) hne⟩
      by_cases hji : j + 1 = i
      · have e1 : j = i - 1 := by omega
        subst e1
        rw [hx] at hjx; injection hjx with hjx
        rw [hji, he] at hjy; injection hjy with hjy
        rw [← hjx, ← hjy]; exact hne
      · exact hco j x' y (by omega) hjx hjy
  by_cases hl0 : b.length < 1
  · have hres : rb false = rb (batOk b) := by unfold batOk; rw [decide_eq_false (by omega)]; rfl
    refine AFn.introX (E := En 0 md0) (en_ok 0 md0) Tryd.func13 rfl rfl rfl fun _ _ => ?_
    refine Split.mk fun t h1 => ?_
    cases t
    case false => (exfalso; rw [decide_eq_false_iff_not] at h1; omega)
    rw [decide_eq_true_iff] at h1
    exact Need.mk ⟨[], _, .same, hres, rfl⟩ trivial
  · by_cases hl12 : 12 < b.length
    · have hres : rb false = rb (batOk b) := by rw [bat_len hl12]
      refine AFn.introX (E := En 0 md0) (en_ok 0 md0) Tryd.func13 rfl rfl rfl fun _ _ => ?_
      refine Split.mk fun t h1 => ?_
      cases t
      case true => (exfalso; rw [decide_eq_true_iff] at h1; omega)
      rw [decide_eq_false_iff_not] at h1
      refine Split.mk fun t h2 => ?_
      cases t
      case false => (exfalso; rw [decide_eq_false_iff_not] at h2; omega)
      rw [decide_eq_true_iff] at h2
      exact Need.mk ⟨[], _, .same, hres, rfl⟩ trivial
    · refine AFn.introX (E := En 0 md0) (en_ok 0 md0) Tryd.func13 rfl rfl rfl fun _ _ => ?_
      refine Split.mk fun t h1 => ?_
      cases t
      case true => (exfalso; rw [decide_eq_true_iff] at h1; omega)
      rw [decide_eq_false_iff_not] at h1
      refine Split.mk fun t h2 => ?_
      cases t
      case true => (exfalso; rw [decide_eq_true_iff] at h2; omega)
      rw [decide_eq_false_iff_not] at h2
      let S : Nat → St := fun i => ⟨some (.one (.c (.sl (b.map Ent.enc)))) :: none :: none :: none :: none :: none :: none :: none :: none :: none :: none :: none :: none :: some (.one (.c (.sl (b.map Ent.enc)))) :: some (av (.int .i64 (↑(b.map Ent.enc).length))) :: some (av (.int .i64 i)) :: List.replicate 24 none, List.replicate 40 absent⟩
      refine ALoop.mk (fun m s' => ∃ i : Nat, (i ≤ b.length ∧ m = b.length - i) ∧ (∀ (j : Nat) (e : Ent), j < i → b[j]? = some e → entOk e = true) ∧ (∀ (j : Nat) (x y : Ent), j + 1 < i → b[j]? = some x → b[j + 1]? = some y → y.seq = x.seq + 1) ∧ s' = S i)
        ⟨_, _, Weak.nrm [true, false, false, false, false, false, false, false, false, false, false, false, false, true, true, true] [] rfl rfl rfl, 0, ⟨Nat.zero_le _, rfl⟩, fun j e h => absurd h (Nat.not_lt_zero _), fun j x y h => absurd h (Nat.not_lt_zero _), rfl⟩ ?_
      rintro m st ⟨i, ⟨hi, rfl⟩, hok, hco, hst⟩
      by_cases hlt : i < b.length
      · have hbr := hround i hlt hok hco
        refine Exists.elim hbr fun e hx => ?_
        have hrow := hx.1
        have hE := hx.2.1
        have hx := hx.2.2
        by_cases hbad : entOk e = true
        · rw [hbad] at hE
          have hx := hx.1 hbad
          have hok2 := hx.1
          have hx := hx.2
          by_cases h0 : i = 0
          · clear hx
            subst h0
            subst hst
            refine Split.mk fun t h1 => ?_
            cases t
            case false => (exfalso; rw [decide_eq_false_iff_not] at h1; omega)
            rw [decide_eq_true_iff] at h1
            refine Need.mk (by omega) ?_
            refine Row.mk _ hrow ?_
            refine ACall.mk _ _ hE ?_
            refine Split.mk fun t h2 => ?_
            cases t
            case false => cases h2
            refine Split.mk fun t h3 => ?_
            cases t
            case true => cases h3
            refine Need.mk (rfl) ?_
            refine Num.mk _ (wrapS (by omega)) ?_
            exact ⟨_, _, by omega, Weak.nrm [true, false, false, false, false, false, false, false, false, false, false, false, false, true, true, true] [] rfl rfl rfl, 0 + 1, ⟨by omega, rfl⟩, hok2, fun j x y hj => absurd hj (by omega), rfl⟩
          · refine Exists.elim (hx h0) fun x hy => ?_
            have hrow1 := hy.1
            have hxs := hy.2.1
            have hy := hy.2.2
            have hsub : IntKind.i64.wrap ((i : Int) - 1) = ((i - 1 : Nat) : Int) := wrapI' (by omega) (by omega)
            by_cases hne : e.seq = x.seq + 1
            · have hco2 := hy.1 hne
              clear hy hx hbr
              subst hst
              refine Split.mk fun t h1 => ?_
              cases t
              case false => (exfalso; rw [decide_eq_false_iff_not] at h1; omega)
              rw [decide_eq_true_iff] at h1
              refine Need.mk (by omega) ?_
              refine Row.mk _ hrow ?_
              refine ACall.mk _ _ hE ?_
              refine Split.mk fun t h2 => ?_
              cases t
              case false => cases h2
              refine Split.mk fun t h3 => ?_
              cases t
              case false => (exfalso; rw [decide_eq_false_iff_not] at h3; omega)
              rw [decide_eq_true_iff] at h3
              refine Num.mk _ hsub ?_
              refine Need.mk (by omega) ?_
              refine Row.mk _ hrow1 ?_
              refine Num.mk _ (wrapI (by omega) (by omega)) ?_
              refine Split.mk fun t h4 => ?_
              cases t
              case true => (exfalso; rw [bne_iff_ne] at h4; omega)
              rw [bne_eq_false_iff_eq] at h4
              refine Need.mk (rfl) ?_
              refine Num.mk _ (wrapS (by omega)) ?_
              exact ⟨_, _, by omega, Weak.nrm [true, false, false, false, false, false, false, false, false, false, false, false, false, true, true, true] [] rfl rfl rfl, i + 1, ⟨by omega, rfl⟩, hok2, hco2, rfl⟩
            · have hres : rb false = rb (batOk b) := by rw [hy.2 hne]
              clear hy hx hbr
              subst hst
              refine Split.mk fun t h1 => ?_
              cases t
              case false => (exfalso; rw [decide_eq_false_iff_not] at h1; omega)
              rw [decide_eq_true_iff] at h1
              refine Need.mk (by omega) ?_
              refine Row.mk _ hrow ?_
              refine ACall.mk _ _ hE ?_
              refine Split.mk fun t h2 => ?_
              cases t
              case false => cases h2
              refine Split.mk fun t h3 => ?_
              cases t
              case false => (exfalso; rw [decide_eq_false_iff_not] at h3; omega)
              rw [decide_eq_true_iff] at h3
              refine Num.mk _ hsub ?_
              refine Need.mk (by omega) ?_
              refine Row.mk _ hrow1 ?_
              refine Num.mk _ (wrapI (by omega) (by omega)) ?_
              refine Split.mk fun t h4 => ?_
              cases t
              case false => (exfalso; rw [bne_eq_false_iff_eq] at h4; omega)
              rw [bne_iff_ne] at h4
              refine Need.mk (rfl) ?_
              exact Need.mk ⟨[], _, .same, hres, rfl⟩ trivial
        · have hbad2 : entOk e = false := by simpa using hbad
          rw [hbad2] at hE
          have hres : rb false = rb (batOk b) := by rw [hx.2 hbad2]
          clear hx hbr
          by_cases h0 : i = 0
          · subst h0
            subst hst
            refine Split.mk fun t h1 => ?_
            cases t
            case false => (exfalso; rw [decide_eq_false_iff_not] at h1; omega)
            rw [decide_eq_true_iff] at h1
            refine Need.mk (by omega) ?_
            refine Row.mk _ hrow ?_
            refine ACall.mk _ _ hE ?_
            refine Split.mk fun t h2 => ?_
            cases t
            case true => cases h2
            refine Need.mk (rfl) ?_
            exact Need.mk ⟨[], _, .same, hres, rfl⟩ trivial
          · subst hst
            refine Split.mk fun t h1 => ?_
            cases t
            case false => (exfalso; rw [decide_eq_false_iff_not] at h1; omega)
            rw [decide_eq_true_iff] at h1
            refine Need.mk (by omega) ?_
            refine Row.mk _ hrow ?_
            refine ACall.mk _ _ hE ?_
            refine Split.mk fun t h2 => ?_
            cases t
            case true => cases h2
            refine Need.mk (rfl) ?_
            exact Need.mk ⟨[], _, .same, hres, rfl⟩ trivial
      · have hres : rb true = rb (batOk b) := by
          rw [bat_good (fun j e hj => hok j e (by have := (List.getElem?_eq_some_iff.1 hj).1; omega) hj) (fun j x y hx hy => hco j x y (by have := (List.getElem?_eq_some_iff.1 hy).1; omega) hx hy), decide_eq_true (by omega), decide_eq_true (by omega)]
          rfl
        subst hst
        refine Split.mk fun t h1 => ?_
        cases t
        case true => (exfalso; rw [decide_eq_true_iff] at h1; omega)
        rw [decide_eq_false_iff_not] at h1
        exact Need.mk ⟨[], _, .same, hres, rfl⟩ trivial
section
open Go.RowKit Go.Shelf
theorem sizeBld : (Tryd.prog.info? 39).map (·.size) = some 2 := by kernel_rfl
theorem liesBld : liesAt Tryd.prog Tryd.prog.depth 39 (2 / Tryd.prog.cellsOf 39) 0 39 1 = true := by kernel_rfl
set_option maxHeartbeats 4000000 in
theorem cc_used (b : Nat) (w : World) (h0 : w.cell? ⟨b, 0, none⟩ = some (.pointer (some ⟨b, 0, none⟩))) :
    Calls Tryd.prog 21 #[.pointer (some ⟨b, 0, none⟩)] w fun e w' => e = .returned (.tuple #[]) ∧ w' = w := by
  obtain ⟨j, hj, _⟩ := Option.map_eq_some_iff.1 sizeBld
  go_enter Tryd.func21, Tryd.ntmps21
  go_wp2
  rw [Lib.run_neq_ptr_same w _ Tryd.underlying36 hj]
  go_wp2
  go_end0
  exact ⟨rfl, rfl⟩
set_option maxHeartbeats 4000000 in
theorem cc_fresh (b : Nat) (w : World) (h0 : w.cell? ⟨b, 0, none⟩ = some (.pointer none)) (hsh : w.shape? b = some (39, 2)) (hfz : w.frozen? ⟨b, 0, none⟩ = false) :
    Calls Tryd.prog 21 #[.pointer (some ⟨b, 0, none⟩)] w fun e w' => e = .returned (.tuple #[]) ∧ w' = w.setCell ⟨b, 0, none⟩ (.pointer (some ⟨b, 0, none⟩)) := by
  obtain ⟨j, hj, hjs⟩ := Option.map_eq_some_iff.1 sizeBld
  go_enter Tryd.func21, Tryd.ntmps21
  go_wp2
  rw [Lib.run_to_unsafe w ⟨b, 0, none⟩ Tryd.underlying36 Tryd.underlying52 hj (by rw [hjs]; decide) hsh (Nat.zero_lt_succ 1)]
  simp only [Result.andThen]
  rw [Oper.upon_value]
  go_wp2
  rw [run_callFunc_extern Tryd.func26 (by kernel_rfl) (by kernel_rfl) (by kernel_rfl) (e := Extern.AbiNoEscape.same) (by kernel_rfl)]
  rw [Lib.run_noEscape]
  simp only [Result.andThen]
  rw [Oper.upon_value]
  go_wp2
  rw [Lib.run_from_unsafe w ⟨b, 0, none⟩ Tryd.underlying52 Tryd.underlying36 hj hsh liesBld]
  simp only [Result.andThen]
  rw [Oper.upon_value]
  go_wp2
  go_end0
  exact ⟨rfl, rfl⟩
/-- Worlds that part at one block alone. -/
structure OneBlk (g : Nat) (w w' : World) : Prop where
  os : w'.os = w.os
  tape : w'.tape = w.tape
  output : w'.output = w.output
  size : w'.heap.size = w.heap.size
  block : ∀ k, k ≠ g → w'.heap[k]? = w.heap[k]?
theorem cc_any (b : Nat) (u v : Value) (w : World) (hb : w.heap[b]? = some (.cells #[u, v] 39 (0, 0))) (hu : u = .pointer none ∨ u = .pointer (some ⟨b, 0, none⟩)) :
    Calls Tryd.prog 21 #[.pointer (some ⟨b, 0, none⟩)] w fun e w' => e = .returned (.tuple #[]) ∧ w'.heap[b]? = some (.cells #[.pointer (some ⟨b, 0, none⟩), v] 39 (0, 0)) ∧ OneBlk b w w' := by
  have c0 : w.cell? ⟨b, 0, none⟩ = some u := by rw [Lib.cell_of_heap hb]; rfl
  rcases hu with rfl | rfl
  · refine (cc_fresh b w c0 (by simp [World.shape?, hb]) (Lib.frozen_of_heap hb 0)).mono ?_
    rintro e w' ⟨rfl, rfl⟩
    refine ⟨rfl, ?_, ⟨rfl, rfl, rfl, by simp, fun k hk => heap_setCell_other w _ k _ hk⟩⟩
    rw [heap_setCell_same w b 0 _ _ _ hb]
    rfl
  · refine (cc_used b w c0).mono ?_
    rintro e w' ⟨rfl, rfl⟩
    exact ⟨rfl, hb, ⟨rfl, rfl, rfl, rfl, fun _ _ => rfl⟩⟩
theorem byteInfo : (Tryd.prog.info? 5).map (fun i => (i.zero, i.size, i.bytes)) = some (some (.int .u8 0), 1, 1) := by kernel_rfl
theorem cellsU8 : Tryd.prog.cellsOf 5 = 1 := by kernel_rfl
set_option maxHeartbeats 4000000 in
theorem ws_walk (b : Nat) (u v : Value) (bs : List Value) (s : ByteArray) (w : World) (hb : w.heap[b]? = some (.cells #[u, v] 39 (0, 0))) (hu : u = .pointer none ∨ u = .pointer (some ⟨b, 0, none⟩))
    (hown : w.ownsRow 0 5 1 v bs.length bs) (hlen : bs.length + s.size ≤ 140737488355328) :
    Calls Tryd.prog 14 #[.pointer (some ⟨b, 0, none⟩), .string s] w fun e w' => e = .returned (.tuple #[.int .i64 s.size, .nilIface]) ∧ ∃ v', w'.heap[b]? = some (.cells #[.pointer (some ⟨b, 0, none⟩), v'] 39 (0, 0)) ∧
      w'.ownsRow 0 5 1 v' (bs.length + s.size) (bs ++ Lib.strCells s) ∧ (v'.ownBlock = none ∨ v'.ownBlock = v.ownBlock ∨ v'.ownBlock = some w.heap.size) ∧ w'.os = w.os ∧ w'.tape = w.tape ∧ w'.output = w.output ∧ w.heap.size ≤ w'.heap.size ∧
      ∀ k, k < w.heap.size → k ≠ b → some k ≠ v.ownBlock → w'.heap[k]? = w.heap[k]? := by
  obtain ⟨i0, hi, hz0, hz1, hz2⟩ := info_parts byteInfo
  have eCC : ∀ args w, (callFunc 21 args).run Tryd.prog w = .ok (.enter 21 args) w := enters_of Tryd.func21 (by kernel_rfl) rfl
  have hlt : b < w.heap.size := (Array.getElem?_eq_some_iff.1 hb).1
  have hne : v.ownBlock ≠ some b := fun e => by
    rcases hown.2 with ⟨rfl, _⟩ | ⟨g, cap, cur, rfl, _, hg, _⟩
    · cases e
    · injection e with e; subst e
      rw [hb] at hg; injection hg with hg; injection hg with _ hg _; cases hg
  go_enter Tryd.func14, Tryd.ntmps14
  go_wp2_with (go_at_fn 21; refine (cc_any b u v _ hb hu).mono ?_)
  rintro e w1 ⟨rfl, hbk, hob⟩
  have hown1 : w1.ownsRow 0 5 1 v bs.length bs := ownsRow_move hown fun g hg => hob.block g fun e => hne (by rw [hg, e])
  have c0 : w1.cell? ⟨b, 0, none⟩ = some (.pointer (some ⟨b, 0, none⟩)) := by rw [Lib.cell_of_heap hbk]; rfl
  have c1 : w1.cell? ⟨b, 1, none⟩ = some v := by rw [Lib.cell_of_heap hbk]; rfl
  go_wp2_with (at_builtin; refine wpList_appStr rfl _ _ 37 9 rfl 5 i0 Tryd.underlying37 Tryd.underlying9 hi hz0 hz1 hz2 _ _ _ rfl hown1 s rfl hlen ?_)
  intro v' w2 hown' hgrow hat
  have hb2 : w2.heap[b]? = some (.cells #[.pointer (some ⟨b, 0, none⟩), v] 39 (0, 0)) := by
    rw [hgrow.block b (by rw [hob.size]; exact hlt) (fun e => hne e.symm)]
    exact hbk
  have d0 : w2.cell? ⟨b, 0, none⟩ = some (.pointer (some ⟨b, 0, none⟩)) := by rw [Lib.cell_of_heap hb2]; rfl
  have d1 : w2.cell? ⟨b, 1, none⟩ = some v := by rw [Lib.cell_of_heap hb2]; rfl
  have f1 : w2.frozen? ⟨b, 1, none⟩ = false := Lib.frozen_of_heap hb2 1
  obtain ⟨ao, n', cap, rfl⟩ : ∃ ao n' cap, v' = .slice ao n' cap := by
    rcases hown'.2 with ⟨hv, _⟩ | ⟨g, cap, cur, hv, _⟩
    · exact ⟨_, _, _, hv⟩
    · exact ⟨_, _, _, hv⟩
  go_wp2
  go_ret2
  have hne' : ∀ g, (Value.slice ao n' cap).ownBlock = some g → g ≠ b := fun g hg e => by
    subst e
    rcases hown'.2 with ⟨hv, _⟩ | ⟨g2, cap2, cur, hv, _, hg2, _⟩
    · rw [hv] at hg; cases hg
    · rw [hv] at hg; injection hg with hg; subst hg
      rw [hb2] at hg2; injection hg2 with hg2; injection hg2 with _ hg2 _; cases hg2
  refine ⟨rfl, _, ?_, ownsRow_move hown' fun g hg => heap_setCell_other w2 _ g _ (hne' g hg), ?_, by rw [← hob.os, ← hgrow.os]; rfl, by rw [← hob.tape, ← hgrow.tape]; rfl, by rw [← hob.output, ← hgrow.output]; rfl, ?_, fun k hk hkb hkv => ?_⟩
  · rw [heap_setCell_same w2 b 1 _ _ _ hb2]; rfl
  · rw [hob.size] at hat; exact hat
  · have := hgrow.size; rw [hob.size] at this; simpa using this
  · rw [heap_setCell_other w2 _ k _ hkb, hgrow.block k (by rw [hob.size]; exact hk) hkv, hob.block k hkb]
theorem cs_two {w : World} {g : Nat} {cs : Array Value} {e : TypeId} {u v : Value} (h : w.heap[g]? = some (.cells cs e (0, 0))) (hs : cs.size = 2) (h0 : w.cell? ⟨g, 0, none⟩ = some u) (h1 : w.cell? ⟨g, 1, none⟩ = some v) : cs = #[u, v] := by
  rw [cell_of_row w g 0 cs e (0, 0) h] at h0
  rw [cell_of_row w g 1 cs e (0, 0) h] at h1
  apply Array.ext_getElem?
  intro i
  match i with
  | 0 => rw [h0]; rfl
  | 1 => rw [h1]; rfl
  | i + 2 => rw [Array.getElem?_eq_none (by omega), Array.getElem?_eq_none (by simp)]
/-- Writing of a text. -/
theorem Builder_WriteString (l : Bs) (s : ByteArray) (hlen : l.length + s.size ≤ 140737488355328) : AFnK Tryd.prog 14 [.bx 0 0, av (.string s)] [[.me 39, .us 5 (strU l)]] [0] (.tup [.one (vi s.size), .one (.v .nilIface)]) [[.me 39, .us 5 (strU (l ++ tb s))]] := by
  refine ⟨enters_of Tryd.func14 (by kernel_rfl) rfl, fun w F0 ow0 L vs hcx hlt hobj hks hvl hargs => ?_⟩
  match vs, hvl with
  | [v0, v1], _ =>
    have a1 := avr_one_v (hargs 1 _ v1 rfl rfl)
    subst a1
    have a0 := hargs 0 _ v0 rfl rfl
    cases a0 with
    | @bx _ _ g _ _ h2 h3 h4 =>
      have hO := hobj 0 _ rfl
      rw [h4] at hO
      obtain ⟨hg1, cs, e, hg2, hg3⟩ := hO.blk g rfl
      obtain ⟨u, cs', hu1, hu2, hu3⟩ := hO.me 39 g rfl rfl
      obtain ⟨v, hv1, hv2⟩ := hO.cell 1 _ rfl
      rw [hg2] at hu3
      injection hu3 with hu3
      injection hu3 with hu4 hu5 _
      subst hu4; subst hu5
      have hcs := cs_two hg2 hg3 hu1 hv1
      subst hcs
      obtain ⟨hown, how⟩ := us_bytes hv2 cellsU8
      rw [← Lib.byteCells_length l] at hown
      refine (ws_walk g u v _ s w hg2 hu2 hown (by rw [Lib.byteCells_length]; exact hlen)).mono ?_
      rintro e w' ⟨rfl, v', k1, k2, k3, k4, k5, k6, k7, k8⟩
      have hgl : g < w.heap.size := (Array.getElem?_eq_some_iff.1 hg2).1
      have hvl : ∀ k, v'.ownBlock = some k → k < w'.heap.size ∧ (ow0 k ≠ none ∨ w.heap.size ≤ k) ∧ k ≠ g := fun k hk => by
        refine ⟨(k2.lt k hk).2, ?_, fun e => ?_⟩
        · rcases k3 with h | h | h
          · rw [h] at hk; cases hk
          · rw [h] at hk; exact .inl (by rw [how k hk]; simp)
          · rw [h] at hk; injection hk with hk; exact .inr (by omega)
        · subst e
          rcases k2.2 with ⟨hv, _⟩ | ⟨g2, cap2, cur, hv, _, hg2', _⟩
          · rw [hv] at hk; cases hk
          · rw [hv] at hk; injection hk with hk; subst hk
            rw [k1] at hg2'; injection hg2' with hg2'; injection hg2' with _ hg2' _; cases hg2'
      refine ⟨_, fun k => if k = g then some [0] else if v'.ownBlock = some k then some [0, 1] else none, rfl, ⟨k4, k5, k6, k7, fun k hk ho => k8 k hk (fun e => ?_) (fun e => ?_)⟩, fun k p hk => ?_, .tone (.v rfl) (.tone (.v rfl) .tnil), rfl, fun id cells hid => ?_⟩
      · subst e; rw [hg1] at ho; cases ho
      · have := how k e.symm; rw [ho] at this; cases this
      · by_cases hkg : k = g
        · subst hkg; exact ⟨Nat.lt_of_lt_of_le hgl k7, .inl (by rw [hg1]; simp)⟩
        · simp only [hkg, if_false] at hk
          split at hk
          · rename_i hkv; exact ⟨(hvl k hkv).1, (hvl k hkv).2.1⟩
          · cases hk
      · cases id with
        | succ id => simp at hid
        | zero =>
          simp at hid
          subst hid
          rw [h4]
          have hc0 : w'.cell? ⟨g, 0, none⟩ = some (.pointer (some ⟨g, 0, none⟩)) := by rw [Lib.cell_of_heap k1]; rfl
          have hc1 : w'.cell? ⟨g, 1, none⟩ = some v' := by rw [Lib.cell_of_heap k1]; rfl
          refine ⟨fun g' hg' => ?_, fun j c hj => ?_, fun T g' hg' hT => ?_⟩
          · injection hg' with hg'; subst hg'
            exact ⟨by simp, _, _, k1, rfl⟩
          · match j with
            | 0 => simp at hj; subst hj; exact ⟨_, hc0, .me rfl⟩
            | 1 =>
              simp at hj; subst hj
              refine ⟨v', hc1, bytes_us cellsU8 ?_ fun k hk => ?_⟩
              · rw [strCells_eq, byteCells_app, Lib.byteCells_length] at k2
                rw [List.length_append, tb_len]
                exact k2
              · simp only [(hvl k hk).2.2, if_false, hk, if_true]
            | j + 2 => simp at hj
          · injection hg' with hg'; subst hg'
            simp at hT; subst hT
            exact ⟨_, _, hc0, .inr rfl, k1⟩
theorem ptrU8 : ∃ e, Tryd.prog.underlying 49 = some (.pointer e) ∧ e = 5 := ⟨_, Tryd.underlying49, rfl⟩
set_option maxHeartbeats 4000000 in
theorem str_some (b g cap : Nat) (p : Value) (l : Bs) (cur : Array Value) (w : World) (h0 : l ≠ []) (hbk : w.heap[b]? = some (.cells #[p, .slice (some ⟨g, 0, none⟩) l.length cap] 39 (0, 0))) (hg : w.heap[g]? = some (.cells cur 5 (0, 0))) (hcm : cap ≤ maxLen) (hnc : l.length ≤ cap) (hcs : cur.size = cap * 1)
    (hcells : ∀ j u, (Lib.byteCells l)[j]? = some u → w.cell? ((⟨g, 0, none⟩ : Addr).add j) = some u) :
    Calls Tryd.prog 17 #[.pointer (some ⟨b, 0, none⟩)] w fun e w' => e = .returned (.string ⟨l.toArray⟩) ∧ w' = w.drew.freeze ⟨g, 0, none⟩ l.length := by
  have hl0 : l.length ≠ 0 := by simpa using h0
  have c1 : w.drew.cell? ⟨b, 1, none⟩ = some (.slice (some ⟨g, 0, none⟩) l.length cap) := by
    have : w.drew.heap[b]? = some (.cells #[p, .slice (some ⟨g, 0, none⟩) l.length cap] 39 (0, 0)) := hbk
    rw [Lib.cell_of_heap this]; rfl
  have hSD : (Builtin.unsafeSliceData_ #[37] 49 #[.slice (some ⟨g, 0, none⟩) l.length cap]).run Tryd.prog w.drew = .ok (.pointer (some ⟨g, 0, none⟩)) w.drew :=
    Lib.run_unsafeSliceData_row _ _ _ _ _ _ (by omega)
  have hUS : (Builtin.unsafeString_ #[49, 3] 9 #[.pointer (some ⟨g, 0, none⟩), .int .i64 l.length]).run Tryd.prog w.drew = .ok (.string ⟨l.toArray⟩) (w.drew.freeze ⟨g, 0, none⟩ l.length) := by
    refine Lib.run_unsafeString_row w.drew 49 3 9 5 Tryd.underlying49 cellsU8 g cur.size (by have hg' : w.drew.heap[g]? = some (.cells cur 5 (0, 0)) := hg; simp [World.shape?, hg']) l h0 (by omega) (by unfold maxLen at hcm; omega) ?_
    intro j x hx
    exact hcells j (.int .u8 x.toNat) (by simp [Lib.byteCells, hx])
  have mx := mixed
  go_enter Tryd.func17, Tryd.ntmps17
  go_wp2
  go_region_o
  all_goals (go_wp2; go_ret; exact ⟨rfl, rfl⟩)
set_option maxHeartbeats 4000000 in
theorem str_nil (b : Nat) (p : Value) (w : World) (hbk : w.heap[b]? = some (.cells #[p, .slice none 0 0] 39 (0, 0))) :
    Calls Tryd.prog 17 #[.pointer (some ⟨b, 0, none⟩)] w fun e w' => e = .returned (.string ⟨#[]⟩) ∧ w' = w.drew := by
  have hUS := fun (W : World) (q : Option Addr) => Lib.run_unsafeString_none (P := Tryd.prog) W 49 3 9 q
  have c1 : w.drew.cell? ⟨b, 1, none⟩ = some (.slice none 0 0) := by
    have : w.drew.heap[b]? = some (.cells #[p, .slice none 0 0] 39 (0, 0)) := hbk
    rw [Lib.cell_of_heap this]; rfl
  have hSD : (Builtin.unsafeSliceData_ #[37] 49 #[.slice none 0 0]).run Tryd.prog w.drew = .ok (.pointer none) w.drew := rfl
  have mx := mixed
  go_enter Tryd.func17, Tryd.ntmps17
  go_wp2
  go_region_o
  all_goals (go_wp2; go_ret; exact ⟨rfl, rfl⟩)
set_option maxHeartbeats 4000000 in
theorem str_noroom (b g : Nat) (p : Value) (cur : Array Value) (w : World) (hbk : w.heap[b]? = some (.cells #[p, .slice (some ⟨g, 0, none⟩) 0 0] 39 (0, 0))) (hg : w.heap[g]? = some (.cells cur 5 (0, 0))) :
    Calls Tryd.prog 17 #[.pointer (some ⟨b, 0, none⟩)] w fun e w' => e = .returned (.string ⟨#[]⟩) ∧ w' = w.drew.alloc (.view ⟨g, 0, none⟩ 5) := by
  have hUS := fun (W : World) (q : Option Addr) => Lib.run_unsafeString_none (P := Tryd.prog) W 49 3 9 q
  have hlt : b < w.heap.size := (Array.getElem?_eq_some_iff.1 hbk).1
  have c1 : w.drew.cell? ⟨b, 1, none⟩ = some (.slice (some ⟨g, 0, none⟩) 0 0) := by
    have : w.drew.heap[b]? = some (.cells #[p, .slice (some ⟨g, 0, none⟩) 0 0] 39 (0, 0)) := hbk
    rw [Lib.cell_of_heap this]; rfl
  have hSD : (Builtin.unsafeSliceData_ #[37] 49 #[.slice (some ⟨g, 0, none⟩) 0 0]).run Tryd.prog w.drew = .ok (.pointer (some ⟨w.drew.heap.size, 0, none⟩)) (w.drew.alloc (.view ⟨g, 0, none⟩ 5)) :=
    Lib.run_unsafeSliceData_zero w.drew _ _ 5 Tryd.underlying49 ⟨g, 0, none⟩ 0 (5, cur.size) (by have hg' : w.drew.heap[g]? = some (.cells cur 5 (0, 0)) := hg; simp [World.shape?, hg'])
  have c2 : (w.drew.alloc (.view ⟨g, 0, none⟩ 5)).cell? ⟨b, 1, none⟩ = some (.slice (some ⟨g, 0, none⟩) 0 0) := by
    have : (w.drew.alloc (.view ⟨g, 0, none⟩ 5)).heap[b]? = _ := (Lib.alloc_old w.drew _ b hlt).trans hbk
    rw [Lib.cell_of_heap this]; rfl
  have c3 : (w.alloc (.view ⟨g, 0, none⟩ 5)).drew.cell? ⟨b, 1, none⟩ = some (.slice (some ⟨g, 0, none⟩) 0 0) := c2
  have c0 : w.cell? ⟨b, 1, none⟩ = some (.slice (some ⟨g, 0, none⟩) 0 0) := c1
  have mx := mixed
  go_enter Tryd.func17, Tryd.ntmps17
  go_wp2
  go_region_o
  all_goals (go_wp2; go_ret; exact ⟨rfl, rfl⟩)
set_option maxHeartbeats 4000000 in
theorem str_room (b g cap : Nat) (p : Value) (w : World) (hc0 : cap ≠ 0) (hbk : w.heap[b]? = some (.cells #[p, .slice (some ⟨g, 0, none⟩) 0 cap] 39 (0, 0))) :
    Calls Tryd.prog 17 #[.pointer (some ⟨b, 0, none⟩)] w fun e w' => e = .returned (.string ⟨#[]⟩) ∧ w' = w.drew := by
  have hUS := fun (W : World) (q : Option Addr) => Lib.run_unsafeString_none (P := Tryd.prog) W 49 3 9 q
  have c1 : w.drew.cell? ⟨b, 1, none⟩ = some (.slice (some ⟨g, 0, none⟩) 0 cap) := by
    have : w.drew.heap[b]? = some (.cells #[p, .slice (some ⟨g, 0, none⟩) 0 cap] 39 (0, 0)) := hbk
    rw [Lib.cell_of_heap this]; rfl
  have hSD : (Builtin.unsafeSliceData_ #[37] 49 #[.slice (some ⟨g, 0, none⟩) 0 cap]).run Tryd.prog w.drew = .ok (.pointer (some ⟨g, 0, none⟩)) w.drew :=
    Lib.run_unsafeSliceData_row _ _ _ _ _ _ hc0
  have mx := mixed
  clear hc0
  go_enter Tryd.func17, Tryd.ntmps17
  go_wp2
  go_region_o
  all_goals (go_wp2; go_ret; exact ⟨rfl, rfl⟩)
theorem froze_same {w : World} {g n : Nat} {cur : Array Value} {e : TypeId} (hn : n ≠ 0) (h : w.heap[g]? = some (.cells cur e (0, 0))) : ∃ fz, (w.drew.freeze ⟨g, 0, none⟩ n).heap[g]? = some (.cells cur e fz) := by
  have h' : w.drew.heap[g]? = some (.cells cur e (0, 0)) := h
  unfold World.freeze
  rw [if_neg hn]
  simp only [Array.getElem?_modify, if_true, h', Option.map_some]
  exact ⟨_, rfl⟩
theorem froze_other {w : World} {g n k : Nat} (hk : k ≠ g) : (w.drew.freeze ⟨g, 0, none⟩ n).heap[k]? = w.heap[k]? := by
  unfold World.freeze
  split
  · rfl
  · simp only [Array.getElem?_modify, if_neg (Ne.symm hk)]
    rfl
theorem froze_size {w : World} {g n : Nat} : (w.drew.freeze ⟨g, 0, none⟩ n).heap.size = w.heap.size := by
  unfold World.freeze
  split
  · rfl
  · simp only [Array.size_modify]
    rfl
theorem froze_os {w : World} {g n : Nat} : (w.drew.freeze ⟨g, 0, none⟩ n).os = w.os ∧ (w.drew.freeze ⟨g, 0, none⟩ n).tape = w.tape ∧ (w.drew.freeze ⟨g, 0, none⟩ n).output = w.output := by
  unfold World.freeze
  split <;> exact ⟨rfl, rfl, rfl⟩
theorem cell_of_any {w : World} {g j : Nat} {cur : Array Value} {e : TypeId} {fz : Nat × Nat} (h : w.heap[g]? = some (.cells cur e fz)) : w.cell? ⟨g, j, none⟩ = cur[j]? := by simp [World.cell?, h]
set_option maxHeartbeats 2000000 in
/-- What was written. -/
theorem Builder_String (l : Bs) : AFnK Tryd.prog 17 [.bx 0 0] [[.me 39, .us 5 (strU l)]] [0] (.one (vs (bt l))) [[.me 39, .sl (strU l)]] := by
  refine ⟨enters_of Tryd.func17 (by kernel_rfl) rfl, fun w F0 ow0 L vs hcx hlt hobj hks hvl hargs => ?_⟩
  match vs, hvl with
  | [v0], _ =>
    have a0 := hargs 0 _ v0 rfl rfl
    cases a0 with
    | @bx _ _ g _ _ h2 h3 h4 =>
      have hO := hobj 0 _ rfl
      rw [h4] at hO
      obtain ⟨hg1, cs, e, hg2, hg3⟩ := hO.blk g rfl
      obtain ⟨u, cs', hu1, hu2, hu3⟩ := hO.me 39 g rfl rfl
      obtain ⟨v, hv1, hv2⟩ := hO.cell 1 _ rfl
      rw [hg2] at hu3
      injection hu3 with hu3
      injection hu3 with hu4 hu5 _
      subst hu4; subst hu5
      have hcs := cs_two hg2 hg3 hu1 hv1
      subst hcs
      obtain ⟨hown, how⟩ := us_bytes hv2 cellsU8
      have hgl : g < w.heap.size := (Array.getElem?_eq_some_iff.1 hg2).1
      let ow' : Ev.Own := fun k => if k = g then some [0] else none
      have fin : ∀ (e : Ending) (w' : World), e = .returned (.string (bt l)) → Keeps w w' ow0 → w'.heap[g]? = w.heap[g]? → FR w' (FF w F0 ow0 w' ow') (.sl (strU l)) v →
          ∃ v ow2, e = .returned v ∧ Keeps w w' ow0 ∧ (∀ k p, ow2 k = some p → k < w'.heap.size ∧ (ow0 k ≠ none ∨ w.heap.size ≤ k)) ∧ RVR Tryd.prog w' (FF w F0 ow0 w' ow2) ow2 1 0 (.one (Ev.vs (bt l))) v ∧ 1 = 1 ∧
            ∀ (id : Nat) (cells : List C), [[C.me 39, .sl (strU l)]][id]? = some cells → ObjR Tryd.prog w' (FF w F0 ow0 w' ow2) ow2 id (L id) cells := by
        intro e w' he hk hgs hfr
        refine ⟨_, ow', he, hk, fun k p hkp => ?_, .one (.v rfl), rfl, fun id cells hid => ?_⟩
        · by_cases hkg : k = g
          · subst hkg; exact ⟨Nat.lt_of_lt_of_le hgl hk.size, .inl (by rw [hg1]; simp)⟩
          · simp only [ow', hkg, if_false] at hkp; cases hkp
        · cases id with
          | succ id => simp at hid
          | zero =>
            simp at hid
            subst hid
            rw [h4]
            rw [hg2] at hgs
            have hc0 : w'.cell? ⟨g, 0, none⟩ = some u := by rw [Lib.cell_of_heap hgs]; rfl
            have hc1 : w'.cell? ⟨g, 1, none⟩ = some v := by rw [Lib.cell_of_heap hgs]; rfl
            refine ⟨fun g' hg' => ?_, fun j c hj => ?_, fun T g' hg' hT => ?_⟩
            · injection hg' with hg'; subst hg'
              exact ⟨by simp [ow'], _, _, hgs, rfl⟩
            · match j with
              | 0 => simp at hj; subst hj; exact ⟨_, hc0, .me (by rcases hu2 with rfl | rfl <;> rfl)⟩
              | 1 => simp at hj; subst hj; exact ⟨v, hc1, .sl hfr⟩
              | j + 2 => simp at hj
            · injection hg' with hg'; subst hg'
              simp at hT; subst hT
              exact ⟨_, _, hc0, hu2, hgs⟩
      rcases hown.2 with ⟨hv, hn⟩ | ⟨g2, cap, cur, hv, _, hb2, hnc, hcm, hcs, htake⟩
      · have hl : l = [] := List.length_eq_zero_iff.1 hn
        subst hl; subst hv
        refine (str_nil g u w hg2).mono ?_
        rintro e w' ⟨he, rfl⟩
        exact fin e _ he ⟨rfl, rfl, rfl, Nat.le_refl _, fun _ _ _ => rfl⟩ rfl (.sl (sz := 1) (fun _ _ => undef) rfl (Nat.le_refl _) (by simp [maxLen]) (by simp [strU]) (by simp [strU]) (by simp [strU]))
      · have hne : g2 ≠ g := fun e => by
          subst e
          rw [hg2] at hb2; injection hb2 with hb2; injection hb2 with _ hb2 _; cases hb2
        subst hv
        have hog : ow0 g2 = some [0, 1] := how g2 rfl
        by_cases hl : l = []
        · subst hl
          have hfr : ∀ (w' : World) (F' : Frs), FR w' F' (.sl (strU [])) (.slice (some ⟨g2, 0, none⟩) 0 cap) := fun w' F' => .sl (sz := 1) (fun _ _ => undef) rfl (Nat.zero_le _) hcm (by simp [strU]) (by simp [strU]) (by simp [strU])
          by_cases hc0 : cap = 0
          · subst hc0
            refine (str_noroom g g2 u cur w hg2 hb2).mono ?_
            rintro e w' ⟨he, rfl⟩
            have hgr := (Grow.drew w).trans (Grow.alloc w.drew (.view ⟨g2, 0, none⟩ 5))
            exact fin e _ he ⟨hgr.os, hgr.tape, hgr.output, hgr.size, fun k hk _ => hgr.block k hk⟩ (hgr.block g hgl) (hfr _ _)
          · refine (str_room g g2 cap u w hc0 hg2).mono ?_
            rintro e w' ⟨he, rfl⟩
            exact fin e _ he ⟨rfl, rfl, rfl, Nat.le_refl _, fun _ _ _ => rfl⟩ rfl (hfr _ _)
        · refine (str_some g g2 cap u l cur w hl hg2 hb2 hcm hnc hcs (hown.cells (g := g2) rfl)).mono ?_
          rintro e w' ⟨he, rfl⟩
          have hl0 : l.length ≠ 0 := by simpa using hl
          obtain ⟨fz, hfz⟩ := froze_same hl0 hb2
          refine fin e _ he ⟨froze_os.1, froze_os.2.1, froze_os.2.2, by rw [froze_size (w := w) (g := g2) (n := l.length)]; exact Nat.le_refl w.heap.size, fun k hk ho => froze_other fun e => ?_⟩ (froze_other (Ne.symm hne)) ?_
          · subst e; rw [hog] at ho; cases ho
          · refine .sl (sz := 1) (fun i j => (Lib.byteCells l).getD i undef) (strU_len l) hnc hcm (fun r hr => ?_) (fun i r j c hi hj => ?_) (fun i r j c hi hj => ?_)
            · obtain ⟨b, _, rfl⟩ := List.mem_map.1 hr; rfl
            · obtain ⟨b, hb, rfl⟩ := Option.map_eq_some_iff.1 (by rw [← List.getElem?_map]; exact hi : (l[i]?).map encU = some r)
              have hil := (List.getElem?_eq_some_iff.1 hb).1
              cases j with
              | succ j => simp [encU] at hj
              | zero =>
                refine ⟨g2, 0, rfl, .inr ⟨by rw [froze_size]; exact (Array.getElem?_eq_some_iff.1 hb2).1, by simp [ow', hne], .inl (by rw [hog]; simp)⟩, ?_⟩
                rw [cell_of_any hfz, Nat.zero_add, Nat.mul_one, Nat.add_zero]
                have h5 := hown.cells (g := g2) rfl i ((Lib.byteCells l).getD i undef) (by rw [List.getD_eq_getElem?_getD, List.getElem?_eq_getElem (by rw [Lib.byteCells_length]; exact hil)]; rfl)
                rw [addr_add, cell_of_any hb2, Nat.zero_add] at h5
                exact h5
            · obtain ⟨b, hb, rfl⟩ := Option.map_eq_some_iff.1 (by rw [← List.getElem?_map]; exact hi : (l[i]?).map encU = some r)
              cases j with
              | succ j => simp [encU] at hj
              | zero =>
                simp [encU] at hj
                subst hj
                have : (Lib.byteCells l).getD i undef = .int .u8 b.toNat := by rw [List.getD_eq_getElem?_getD]; simp [Lib.byteCells, hb]
                rw [this]
                exact .v rfl
end
section
open Go.RowKit Go.Shelf
def laysM171_ren : Go.Shelf.Ren := ⟨fun | 171 => 15 | 243 => 22 | 246 => 27 | 283 => 28 | 284 => 29 | 285 => 30 | 286 => 31 | 129 => 33 | 317 => 32 | 318 => 34 | 319 => 35 | 320 => 36 | 337 => 37 | 338 => 38 | n => n, fun | 3 => 3 | 9 => 9 | 2 => 2 | 4 => 4 | 171 => 55 | 0 => 0 | 53 => 56 | 37 => 37 | 5 => 5 | 173 => 59 | 212 => 63 | 51 => 64 | 20 => 20 | 213 => 65 | 46 => 66 | 232 => 69 | 233 => 70 | n => n, fun | 17 => 0 | 18 => 1 | 19 => 2 | n => n⟩
theorem laysM171 : Go.Proofs.LaysM.n171 Tryd.prog laysM171_ren := {
  mixed := by kernel_rfl
  f129 := Tryd.func33.trans (congrArg some (by kernel_rfl))
  f171 := Tryd.func15.trans (congrArg some (by kernel_rfl))
  f243 := Tryd.func22.trans (congrArg some (by kernel_rfl))
  f246 := Tryd.func27.trans (congrArg some (by kernel_rfl))
  f283 := Tryd.func28.trans (congrArg some (by kernel_rfl))
  f284 := Tryd.func29.trans (congrArg some (by kernel_rfl))
  f285 := Tryd.func30.trans (congrArg some (by kernel_rfl))
  f286 := Tryd.func31.trans (congrArg some (by kernel_rfl))
  f317 := Tryd.func32.trans (congrArg some (by kernel_rfl))
  f318 := Tryd.func34.trans (congrArg some (by kernel_rfl))
  f319 := Tryd.func35.trans (congrArg some (by kernel_rfl))
  f320 := Tryd.func36.trans (congrArg some (by kernel_rfl))
  f337 := Tryd.func37.trans (congrArg some (by kernel_rfl))
  f338 := Tryd.func38.trans (congrArg some (by kernel_rfl))
  t0 := Tryd.underlying0
  a0 := Tryd.isAgg0
  z0 := Tryd.sizeOf0
  v0 := Tryd.zeroValue0
  t2 := Tryd.underlying2
  a2 := Tryd.isAgg2
  z2 := Tryd.sizeOf2
  v2 := Tryd.zeroValue2
  t3 := Tryd.underlying3
  a3 := Tryd.isAgg3
  z3 := Tryd.sizeOf3
  v3 := Tryd.zeroValue3
  t4 := Tryd.underlying4
  a4 := Tryd.isAgg4
  z4 := Tryd.sizeOf4
  v4 := Tryd.zeroValue4
  t5 := Tryd.underlying5
  a5 := Tryd.isAgg5
  z5 := Tryd.sizeOf5
  v5 := Tryd.zeroValue5
  t9 := Tryd.underlying9
  a9 := Tryd.isAgg9
  z9 := Tryd.sizeOf9
  v9 := Tryd.zeroValue9
  t20 := Tryd.underlying20
  a20 := Tryd.isAgg20
  z20 := Tryd.sizeOf20
  v20 := Tryd.zeroValue20
  t37 := Tryd.underlying37
  a37 := Tryd.isAgg37
  z37 := Tryd.sizeOf37
  v37 := Tryd.zeroValue37
  t46 := Tryd.underlying66
  a46 := Tryd.isAgg66
  z46 := Tryd.sizeOf66
  v46 := Tryd.zeroValue66
  t51 := Tryd.underlying64
  a51 := Tryd.isAgg64
  z51 := Tryd.sizeOf64
  v51 := Tryd.zeroValue64
  t53 := Tryd.underlying56
  a53 := Tryd.isAgg56
  z53 := Tryd.sizeOf56
  v53 := Tryd.zeroValue56
  t171 := Tryd.underlying55
  a171 := Tryd.isAgg55
  z171 := Tryd.sizeOf55
  v171 := Tryd.zeroValue55
  t173 := Tryd.underlying59
  a173 := Tryd.isAgg59
  z173 := Tryd.sizeOf59
  v173 := Tryd.zeroValue59
  t212 := Tryd.underlying63
  a212 := Tryd.isAgg63
  z212 := Tryd.sizeOf63
  v212 := Tryd.zeroValue63
  t213 := Tryd.underlying65
  a213 := Tryd.isAgg65
  z213 := Tryd.sizeOf65
  t232 := Tryd.underlying69
  a232 := Tryd.isAgg69
  z232 := Tryd.sizeOf69
  v232 := Tryd.zeroValue69
  t233 := Tryd.underlying70
  a233 := Tryd.isAgg70
  z233 := Tryd.sizeOf70
  v233 := Tryd.zeroValue70
  g17 := by kernel_rfl
  g18 := by kernel_rfl
  g19 := by kernel_rfl
  i0 := by kernel_rfl
  i2 := by kernel_rfl
  i3 := by kernel_rfl
  i4 := by kernel_rfl
  i5 := by kernel_rfl
  i9 := by kernel_rfl
  i20 := by kernel_rfl
  i37 := by kernel_rfl
  i46 := by kernel_rfl
  i51 := by kernel_rfl
  i53 := by kernel_rfl
  i171 := by kernel_rfl
  i173 := by kernel_rfl
  i212 := by kernel_rfl
  i232 := by kernel_rfl
  i233 := by kernel_rfl
  m17 := by kernel_rfl
  m18 := by kernel_rfl
  m19 := by kernel_rfl }
theorem same_ret {P : Program} {w w' : World} {F0 : Frs} {ow0 : Ev.Own} {L : Nat → Pl} {r : RV} {v : Value} (hk : Keeps w w' ow0) (h : ∀ F ow, RVR P w' F ow 0 0 r v) :
    ∃ v' ow', Ending.returned v = .returned v' ∧ Keeps w w' ow0 ∧ (∀ k p, ow' k = some p → k < w'.heap.size ∧ (ow0 k ≠ none ∨ w.heap.size ≤ k)) ∧ RVR P w' (FF w F0 ow0 w' ow') ow' ([] : List (List C)).length 0 r v' ∧ ([] : List (List C)).length = ([] : List (List C)).length ∧ ∀ (id : Nat) (cells : List C), ([] : List (List C))[id]? = some cells → ObjR P w' (FF w F0 ow0 w' ow') ow' id (L id) cells :=
  ⟨v, fun _ => none, rfl, hk, fun _ _ h => (nomatch h), h _ _, rfl, fun id cells h => by simp at h⟩
theorem keeps_same {w : World} {ow : Ev.Own} : Keeps w w ow := ⟨rfl, rfl, rfl, Nat.le_refl _, fun _ _ _ => rfl⟩
theorem Grow.keeps {w w' : World} {ow : Ev.Own} (h : Grow w w') : Keeps w w' ow := ⟨h.os, h.tape, h.output, h.size, fun k hk _ => h.block k hk⟩
theorem below_keeps {w w' : World} {ow : Ev.Own} (h : Below w.heap.size w w') : Keeps w w' ow := ⟨h.os, h.tape, h.output, h.size, fun k hk _ => h.block k hk⟩
theorem keeps_grow (w : World) (ow : Ev.Own) (k : Nat) (os : Array Obj) : Keeps w (Go.Sort.grow (w.drewN k) os) ow := by
  refine ⟨rfl, rfl, rfl, ?_, fun j hj _ => ?_⟩
  · show w.heap.size ≤ (w.heap ++ os).size
    rw [Array.size_append]
    omega
  · show (w.heap ++ os)[j]? = _
    rw [Array.getElem?_append_left hj]
/-- strconv.Itoa. -/
theorem strconv_Itoa (n : Int) (h0 : -9223372036854775808 ≤ n) (h1 : n ≤ 9223372036854775807) : AFn Tryd.prog 15 [av (.int .i64 n)] [] (.one (vs (bt (Lib.itoa n)))) [] := by
  refine ⟨enters_of Tryd.func15 (by kernel_rfl) rfl, fun w F0 ow0 L vs hcx hlt hobj hks hvl hargs => ?_⟩
  match vs, hvl with
  | [v0], _ =>
    have a0 := avr_one_v (hargs 0 _ v0 rfl rfl)
    subst a0
    obtain ⟨h2, h3, t, z, h4⟩ := hcx.wp.1 0 (by kernel_rfl)
    refine (Any.strconv_Itoa laysM171 n h0 h1 w ?_).mono ?_
    · have hg : Tryd.prog.globalNamed _ = some 0 := laysM171.m17
      unfold Lib.TabIs World.var?
      rw [hg, Option.bind_some, h4]
    · rintro e w' ⟨rfl, k, os, rfl⟩
      exact same_ret (keeps_grow w ow0 k os) fun _ _ => .one (.v rfl)
end
end Go.Proofs.YtfaofmjikhcihaaDoor
