/-
  Contracts of functions, part 7.
-/
import Derived.Test.YtcnongahanmclaaGreatTFnExactTreeCompactF
set_option linter.unusedVariables false
set_option linter.unusedSimpArgs false
namespace Go.Proofs.YtcnongahanmclaaGreat
open Go Go.Proofs Ev
set_option maxRecDepth 100000
set_option maxHeartbeats 40000000
set_option linter.unusedSimpArgs false
set_option linter.unusedVariables false
theorem impl_treeCompactN (sq : Int) (mem : List Ent) (l0 l1 l2 : List Rn) (snaps : List Int) (hb : treeOk ⟨sq, mem, [l0, l1, l2], snaps⟩ = true) (lv pick : Int) (c0 : ¬ (lv = 0 ∧ 0 < l0.length)) (c1 : ¬ (lv = 1 ∧ 0 ≤ pick ∧ pick < l1.length)) :
  AFn Tryz.prog 80 [.agg ((encF sq mem l0 l1 l2 snaps).map .c), av (.int .i64 lv), av (.int .i64 pick)] [] (.tup [.agg (encF sq mem l0 l1 l2 snaps), .one (vb false)]) [] := by
 obtain ⟨⟨_, _, a3, _, a5⟩, ⟨v0, v1, v2⟩, _, _⟩ := treeP.1 (show treeOk3 sq mem l0 l1 l2 snaps = true from hb)
 have hl0 := (levB_ok v0).1
 have hl1 := (levB_ok v1).1
 have hSh := impl_shelvesOf l0 l1 l2
 by_cases h0 : lv < 0
 ·refine AFn.introX (E := En 0 md0 (cb := [3]) (fb := [6, 8, 22])) (en_ok 0 _ _ _ _ _) Tryz.func80 rfl rfl rfl fun _ _ => ?_
  refine spT (by omega) fun h1 => ?_
  exact Need.mk ⟨[], _, .same, rfl, rfl⟩ trivial
 ·by_cases h2 : 2 ≤ lv
  ·refine AFn.introX (E := En 0 md0 (cb := [3]) (fb := [6, 8, 22])) (en_ok 0 _ _ _ _ _) Tryz.func80 rfl rfl rfl fun _ _ => ?_
   refine spF (by omega) fun h1 => ?_
   refine spT (by omega) fun h2 => ?_
   exact Need.mk ⟨[], _, .same, rfl, rfl⟩ trivial
  ·by_cases hlv : lv = 0
   ·subst hlv
    have hTk := impl_takeRuns0 l0 pick (by omega)
    rw [decide_eq_false (fun h => c0 ⟨rfl, h⟩)] at hTk
    refine AFn.introX (E := En 0 md0 (cb := [3]) (fb := [6, 8, 22])) (en_ok 0 _ _ _ _ _) Tryz.func80 rfl rfl rfl fun _ _ => ?_
    refine sp0 ?_
    refine sp0 ?_
    refine ACall.mk _ _ hSh ?_
    refine nd ?_
    refine ACall.mk _ _ hTk ?_
    exact Need.mk ⟨[], _, .same, rfl, rfl⟩ trivial
   ·obtain rfl : lv = 1 := by omega
    have hTk := impl_takeRunsN l1 1 pick (by decide) fun h => c1 ⟨rfl, h⟩
    refine AFn.introX (E := En 0 md0 (cb := [3]) (fb := [6, 8, 22])) (en_ok 0 _ _ _ _ _) Tryz.func80 rfl rfl rfl fun _ _ => ?_
    refine sp0 ?_
    refine sp0 ?_
    refine ACall.mk _ _ hSh ?_
    refine nd ?_
    refine ACall.mk _ _ hTk ?_
    exact Need.mk ⟨[], _, .same, rfl, rfl⟩ trivial
theorem impl_treeCompact (t : Tre) (hb : treeOk t = true) (lv pick : Int) : AFn Tryz.prog 80 [.agg (t.enc.map .c), av (.int .i64 lv), av (.int .i64 pick)] [] (.tup [.agg (compactD lv pick t).1.enc, .one (vb (compactD lv pick t).2)]) [] := by
 obtain ⟨l0, l1, l2, he, h3⟩ := treeOk_levels hb
 obtain ⟨sq, mem, lev, snaps⟩ := t
 simp only at he
 subst he
 by_cases c0 : lv = 0 ∧ 0 < l0.length
 ·obtain ⟨rfl, h0⟩ := c0
  rw [compactD_0 h0]
  by_cases hm : mergeOk l0 l1 l2 0 l0 snaps = true
  ·rw [if_pos hm]; exact impl_treeCompact0 sq mem l0 l1 l2 snaps hb pick h0 _ true hm (fun _ => rfl) fun h => by cases h
  ·rw [if_neg hm]; exact impl_treeCompact0 sq mem l0 l1 l2 snaps hb pick h0 _ false (Bool.eq_false_iff.2 hm) (fun h => by cases h) fun _ => rfl
 ·by_cases c1 : lv = 1 ∧ 0 ≤ pick ∧ pick < l1.length
  ·obtain ⟨rfl, hp0, hp1⟩ := c1
   obtain ⟨p, rfl⟩ : ∃ p : Nat, pick = p := ⟨pick.toNat, by omega⟩
   have hpl : p < l1.length := by omega
   rw [compactD_1 hpl]
   by_cases hm : mergeOk l0 l1 l2 1 [l1[p]] snaps = true
   ·rw [if_pos hm]; exact impl_treeCompact1 sq mem l0 l1 l2 snaps hb p hpl _ true hm (fun _ => rfl) fun h => by cases h
   ·rw [if_neg hm]; exact impl_treeCompact1 sq mem l0 l1 l2 snaps hb p hpl _ false (Bool.eq_false_iff.2 hm) (fun h => by cases h) fun _ => rfl
  ·rw [compactD_n c0 c1]
   exact impl_treeCompactN sq mem l0 l1 l2 snaps hb lv pick c0 c1
theorem impl_TreeCompact1 (t : Tre) (lv pick : Int) (hb : treeOk t = true) : AFnK Tryz.prog 79 [.agg (t.enc.map .c), .bx 0 0, .bx 1 0] [[vi lv], [vi pick]] [0, 0] (.tup [.agg (compactD lv pick t).1.enc, .one (vb (compactD lv pick t).2)]) [[vi lv], [vi pick]] := by
 have hW := impl_treeCompact t hb lv pick
 have hex := exq ((compactD lv pick t).1)
 obtain ⟨w, hw⟩ := hex
 have hex := exq ((compactD lv pick t).2)
 obtain ⟨c, hc⟩ := hex
 rw [hw, hc] at hW
 rw [hw, hc]
 cases c
 ·refine AFnK.introX (E := En 2 md0) (en_ok 2 _ _ _ _ _) Tryz.func79 rfl rfl rfl fun _ _ => ?_
  refine ACall.mk _ _ hW ?_
  refine sp0 ?_
  exact Need.mk ⟨[], _, .same, rfl, rfl⟩ trivial
 ·refine AFnK.introX (E := En 2 md0) (en_ok 2 _ _ _ _ _) Tryz.func79 rfl rfl rfl fun _ _ => ?_
  refine ACall.mk _ _ hW ?_
  refine sp1 ?_
  exact Need.mk ⟨[], _, .same, rfl, rfl⟩ trivial
theorem treeDo_c2 (f : FuncId) (o o2 : C) (d : Tre → Tre × Bool) (t : Tre) (ht : t.Ok) (hsm : t.Small) (hd : treeOk t = true → AFnK Tryz.prog f [.agg (t.enc.map .c), .bx 0 0, .bx 1 0] [[o], [o2]] [0, 0] (.tup [.agg (d t).1.enc, .one (vb (d t).2)]) [[o], [o2]]) (hds : treeOk t = true → (d t).1.Small) :
  AFnK Tryz.prog 64 [.agg (t.enc.map .c), .clo f [.bx 0 0, .bx 1 0]] [[o], [o2]] [0, 0] (.tup [.agg (encTO (treeDo t d).1), .one (vb (treeDo t d).2)]) [[o], [o2]] := by
 have hO := impl_TreeOk t ht fun l hl r hr => Nat.le_trans ((hsm.2.2.1 l hl).2 r hr) (by decide)
 cases hb : treeOk t with
 | false =>
  rw [hb] at hO
  rw [show treeDo t d = (tre00, false) by unfold treeDo; rw [hb]; rfl]
  refine AFnK.introX (E := En 2 md0) (en_ok 2 _ _ _ _ _) Tryz.func64 rfl rfl rfl fun _ _ => ?_
  refine ACall.mk _ _ hO ?_
  refine sp0 ?_
  exact Need.mk ⟨[], _, .same, rfl, rfl⟩ trivial
 | true =>
  rw [hb] at hO
  have hd := hd hb
  have hds := hds hb
  have hc1 := impl_treeCopy t hsm
  have hc2 := impl_treeCopy (d t).1 hds
  cases hb2 : (d t).2 with
  | false =>
   rw [hb2] at hd
   rw [show treeDo t d = (t, false) by unfold treeDo; rw [if_pos hb, if_neg (by rw [hb2]; simp)]]
   refine AFnK.introX (E := En 2 md0) (en_ok 2 _ _ _ _ _) Tryz.func64 rfl rfl rfl fun _ _ => ?_
   refine ACall.mk _ _ hO ?_
   refine sp1 ?_
   refine ACall.mk _ _ hd ?_
   refine sp0 ?_
   refine ACall.mk _ _ hc1 ?_
   exact Need.mk ⟨[], _, .same, rfl, rfl⟩ trivial
  | true =>
   rw [hb2] at hd
   rw [show treeDo t d = ((d t).1, true) by unfold treeDo; rw [if_pos hb, if_pos hb2]; exact Prod.ext rfl hb2]
   have hex := exq ((d t).1)
   obtain ⟨x, hx⟩ := hex
   rw [hx] at hd hc2
   rw [hx]
   refine AFnK.introX (E := En 2 md0) (en_ok 2 _ _ _ _ _) Tryz.func64 rfl rfl rfl fun _ _ => ?_
   refine ACall.mk _ _ hO ?_
   refine sp1 ?_
   refine ACall.mk _ _ hd ?_
   refine sp1 ?_
   refine ACall.mk _ _ hc2 ?_
   exact Need.mk ⟨[], _, .same, rfl, rfl⟩ trivial
theorem impl_TreeCompact (t : Tre) (lv pick : Int) (ht : t.Ok) (hsm : t.Small) : AFn Tryz.prog 29 [.agg (t.enc.map .c), av (.int .i64 lv), av (.int .i64 pick)] [] (.tup [.agg (encTO (treeDo t (compactD lv pick)).1), .one (vb (treeDo t (compactD lv pick)).2)]) [] := by
 have hD := treeDo_c2 79 (vi lv) (vi pick) (compactD lv pick) t ht hsm (fun hb => impl_TreeCompact1 t lv pick hb) (fun hb => Tre.small_ok (compactD_ok hb lv pick))
 have hex := exq ((treeDo t (compactD lv pick)).1)
 obtain ⟨x, hx⟩ := hex
 have hex := exq ((treeDo t (compactD lv pick)).2)
 obtain ⟨c, hc⟩ := hex
 rw [hx, hc] at hD
 rw [hx, hc]
 cases c
 ·refine AFn.introX (E := En 0 md0) (en_ok 0 _ _ _ _ _) Tryz.func29 rfl rfl rfl fun _ _ => ?_
  refine ACall.mk _ _ hD ?_
  refine sp0 ?_
  exact Need.mk ⟨[], _, .same, rfl, rfl⟩ trivial
 ·refine AFn.introX (E := En 0 md0) (en_ok 0 _ _ _ _ _) Tryz.func29 rfl rfl rfl fun _ _ => ?_
  refine ACall.mk _ _ hD ?_
  refine sp1 ?_
  exact Need.mk ⟨[], _, .same, rfl, rfl⟩ trivial
theorem compactD_do {t : Tre} {lv pick : Int} (hb : treeOk t = true) : treeDo t (compactD lv pick) = compactD lv pick t := by
 unfold treeDo
 rw [if_pos hb]
 split
 ·rfl
 ·rename_i h
  have h2 : (compactD lv pick t).2 = false := by simpa using h
  unfold compactD at h2 ⊢
  split at h2 <;> rename_i he
  ·split at h2
   ·split at h2
    ·cases h2
    ·rename_i q1 q2; rw [if_pos q1, if_neg q2]
   ·split at h2
    ·split at h2
     ·cases h2
     ·rename_i q1 q2 q3; rw [if_neg q1, if_pos q2, if_neg q3]
    ·rename_i q1 q2; rw [if_neg q1, if_neg q2]
  ·rfl
theorem pos_TreeCompact (t : Tre) (lv pick : Int) (h : t.size ≤ 1048576) : posT 1 (treeDo t (compactD lv pick)).1 ≤ 6000000 := by
 cases hb : treeOk t with
 | true => rw [compactD_do hb]; exact posT_ok (compactD_ok hb lv pick)
 | false => rw [show treeDo t (compactD lv pick) = (tre00, false) by unfold treeDo; rw [hb]; rfl]; decide
theorem spec_TreeCompact (t : Tre) (lv pick : Int) (ht : t.Ok) (hsm : t.Small) : AFn Tryz.prog 28 [.agg (t.enc.map .c), av (.int .i64 lv), av (.int .i64 pick)] [] (.tup [.agg (encTO (treeDo t (compactD lv pick)).1), .one (vb (treeDo t (compactD lv pick)).2)]) [] := by
 have hO := spec_TreeOk t ht (Nat.le_trans hsm.2.2.2 (by decide)) fun l hl r hr => Nat.le_trans ((hsm.2.2.1 l hl).2 r hr) (by decide)
 have hC := spec_l5Copy t hsm
 cases hb : treeOk t with
 | false =>
  rw [hb] at hO
  rw [show treeDo t (compactD lv pick) = (tre00, false) by unfold treeDo; rw [hb]; rfl]
  refine AFn.introX (E := En 0 md0 (cb := [3])) (en_ok 0 _ _ _ _ _) Tryz.func28 rfl rfl rfl fun _ _ => ?_
  refine ACall.mk _ _ hO ?_
  refine sp0 ?_
  exact Need.mk ⟨[], _, .same, rfl, rfl⟩ trivial
 | true =>
  rw [hb] at hO
  rw [compactD_do hb]
  have hC2 := spec_l5Copy _ (Tre.small_ok (compactD_ok hb lv pick))
  obtain ⟨l0, l1, l2, he, h3⟩ := treeOk_levels hb
  obtain ⟨sq, mem, lev, snaps⟩ := t
  simp only at he
  subst he
  have hfz : Frz (.us 66 ([l0, l1, l2].map encLO)) (.sl ([l0, l1, l2].map encL)) := frzRR _
  have hc1 : (compactD lv pick ⟨sq, mem, [l0, l1, l2], snaps⟩).2 = false → (compactD lv pick ⟨sq, mem, [l0, l1, l2], snaps⟩).1 = ⟨sq, mem, [l0, l1, l2], snaps⟩ := fun h => by
   have h1 := compactD_do (lv := lv) (pick := pick) hb
   unfold treeDo at h1
   rw [if_pos hb, if_neg (by rw [h]; simp)] at h1
   rw [← h1]
  cases hc : (compactD lv pick ⟨sq, mem, [l0, l1, l2], snaps⟩).2 with
  | false =>
   rw [hc1 hc] at hC2 ⊢
   have hX : AFn Tryz.prog 78 [.agg ((encF sq mem l0 l1 l2 snaps).map .c), av (.int .i64 lv), av (.int .i64 pick)] [] (.tup [.agg (encF sq mem l0 l1 l2 snaps), .one (vb false)]) [] := AFn.arg3 (fun x1 x2 x3 _ _ _ _ _ h => RVR.unex (cs := encE x1 x2 x3 sq mem l0 l1 l2 snaps) h) fun x1 x2 x3 => spec_l5Compact_no sq mem l0 l1 l2 snaps x1 x2 x3 hb lv pick hc
   refine AFn.introX (E := En 0 (mdv [] [78]) (cb := [3])) (en_ok 0 _ _ _ _ _) Tryz.func28 rfl rfl rfl fun _ _ => ?_
   refine ACall.mk _ _ hO ?_
   refine sp1 ?_
   refine ACall.mk _ _ hC2 ?_
   refine Fz.mk _ (frzE _) ?_
   refine Fz.mk _ hfz ?_
   refine Fz.mk _ (frzI _) ?_
   refine ACall.mk _ _ hX ?_
   refine sp0 ?_
   refine ACall.mk _ _ hC2 ?_
   exact Need.mk ⟨[], _, .same, rfl, rfl⟩ trivial
  | true =>
   obtain ⟨R0, R1, R2, k0, k1, k2, t0, t1, t2, hk, hX0⟩ := spec_l5Compact_ok sq mem l0 l1 l2 snaps hb lv pick hc
   rw [hk] at hC2 ⊢
   have hX : AFn Tryz.prog 78 [.agg ((encF sq mem l0 l1 l2 snaps).map .c), av (.int .i64 lv), av (.int .i64 pick)] [] (.tup [.agg (encMx sq mem R0 R1 R2 snaps), .one (vb true)]) [] := AFn.arg3 (fun _ _ _ _ _ _ _ _ h => h) hX0
   have hfM : Frz (.us 66 (lvM R0 R1 R2)) (.sl ([k0, k1, k2].map encL)) := lvM_frz t0 t1 t2
   refine AFn.introX (E := En 0 (mdv [] [78]) (cb := [3])) (en_ok 0 _ _ _ _ _) Tryz.func28 rfl rfl rfl fun _ _ => ?_
   refine ACall.mk _ _ hO ?_
   refine sp1 ?_
   refine ACall.mk _ _ hC ?_
   refine Fz.mk _ (frzE _) ?_
   refine Fz.mk _ hfz ?_
   refine Fz.mk _ (frzI _) ?_
   refine ACall.mk _ _ hX ?_
   refine sp1 ?_
   refine Fz.mk _ (frzE _) ?_
   refine Fz.mk _ hfM ?_
   refine Fz.mk _ (frzI _) ?_
   refine ACall.mk _ _ hC2 ?_
   refine Need.mk (⟨ClL.mem (.v (.us (clE _) (.us (clLO _) (.us (clI _) .nil)))), no_objs⟩) ?_
   exact Need.mk ⟨[], _, .same, rfl, rfl⟩ trivial
theorem posT_sz {t : Tre} (h : t.size ≤ 1048576) : posT 1 t ≤ 6000000 := by
 have h1 := posL_sz t.levels (1 + 5 * t.mem.length)
 have hz : t.size = sizeE t.mem + sizeRR t.levels + t.snaps.length := rfl
 have h2 : t.mem.length ≤ sizeE t.mem := by unfold sizeE; omega
 unfold posT; omega
theorem laws_szEntry (e : Ent) (left : Nat) (he : e.Ok) (hl : left ≤ 1048576) : AFn Tryz.prog 58 [.agg (e.enc.map .c), av (.int .i64 left)] [] (.one (vi (cut e.size left))) [] := by
 refine AFn.introX (E := En 0 md0) (en_ok 0 md0) Tryz.func58 rfl rfl rfl fun _ _ => ?_
 obtain ⟨h1, h2⟩ := he
 have he : e.size = e.key.size + e.text.size := rfl
 unfold maxLen at h1 h2
 have fin : ∀ {z : Int}, z = cut e.size left → RV.one (vi z) = RV.one (vi (cut e.size left)) := fun h => by rw [h]
 refine Num.mk ((left : Int) - e.key.size) (by rw [IntKind.wrap_i64]; omega) ?_
 refine Split.mk fun t ht => ?_
 cases t
 ·have h3 : e.key.size ≤ left := by simp at ht; omega
  refine Num.mk ((left : Int) - e.key.size - e.text.size) (by rw [IntKind.wrap_i64]; omega) ?_
  refine Split.mk fun t ht => ?_
  cases t
  ·have h4 : e.size ≤ left := by simp at ht; omega
   exact Need.mk ⟨[], _, .same, fin (by rw [cut_pos h4]; omega), rfl⟩ trivial
  ·have h4 : ¬ e.size ≤ left := by simp at ht; omega
   exact Need.mk ⟨[], _, .same, fin (by rw [cut_neg h4]), rfl⟩ trivial
 ·have h4 : ¬ e.size ≤ left := by simp at ht; omega
  exact Need.mk ⟨[], _, .same, fin (by rw [cut_neg h4]), rfl⟩ trivial
theorem laws_szEntryS (xs : List Ent) (left : Nat) (he : OkE xs) (hl : left ≤ 1048576) : AFn Tryz.prog 16 [sl (xs.map Ent.enc), av (.int .i64 left)] [] (.one (vi (cut (sizeE xs) left))) [] := by
 refine AFn.introX (E := En 0 md0) (en_ok 0 md0) Tryz.func16 rfl rfl rfl fun hs _ => ?_
 have hn : (xs.map Ent.enc).length = xs.length := List.length_map ..
 have hx := Small.len (hs _ (List.mem_cons_self ..))
 rw [hn] at hx
 have hz : sizeE xs = xs.length + (xs.map Ent.size).sum := rfl
 have fin : ∀ {z : Int}, z = cut (sizeE xs) left → RV.one (vi z) = RV.one (vi (cut (sizeE xs) left)) := fun h => by rw [h]
 refine Num.mk ((left : Int) - xs.length) (by rw [hn, IntKind.wrap_i64]; omega) ?_
 refine Split.mk fun t ht => ?_
 cases t
 ·have h3 : xs.length ≤ left := by simp at ht; omega
  refine ALoop.mk (fun m s => ∃ (i r : Nat), i ≤ xs.length ∧ m = xs.length - i ∧ xs.length + ((xs.take i).map Ent.size).sum + r = left ∧
    s = ⟨some (sl (xs.map Ent.enc)) :: some (av (.int .i64 r)) :: none :: none :: none :: some (av (.int .i64 i)) :: List.replicate 21 none, List.replicate 27 absent⟩)
   ⟨xs.length, _, Weak.nrm [true, true, false, false, false, true] [] rfl rfl rfl, 0, left - xs.length, Nat.zero_le _, rfl, by simp; omega, ?_⟩ ?_
  ·rw [show ((left - xs.length : Nat) : Int) = (left : Int) - xs.length by omega]; rfl
  rintro m s ⟨i, r, hi, rfl, hr, rfl⟩
  refine Split.mk fun t ht => ?_
  rw [hn] at ht
  cases t
  ·have hin : i = xs.length := by simp at ht; omega
   subst hin
   rw [List.take_length] at hr
   exact Need.mk ⟨[], _, .same, fin (by rw [cut_pos (by omega)]; omega), rfl⟩ trivial
  ·have hia : i < xs.length := by simpa using ht
   have hsum := sum_take Ent.size xs hia
   have hle := sum_take_le Ent.size xs (i + 1)
   refine nd ?_
   refine Row.mk _ (map_get _ xs i hia) ?_
   refine ACall.mk _ _ (laws_szEntry xs[i] r (he _ (List.getElem_mem _)) (by omega)) ?_
   refine Split.mk fun t ht => ?_
   rw [cut_lt] at ht
   cases t
   ·have h4 : xs[i].size ≤ r := by simpa using ht
    refine Num.mk _ (wrapS (by omega)) ?_
    refine ⟨xs.length - (i + 1), _, by omega, Weak.nrm [true, true, false, false, false, true] [] rfl rfl rfl, i + 1, r - xs[i].size, by omega, rfl, by omega, ?_⟩
    rw [← cut_pos h4]; rfl
   ·have h4 : ¬ xs[i].size ≤ r := by simpa using ht
    exact Need.mk ⟨[], _, .same, fin (by rw [cut_neg (by omega)]), rfl⟩ trivial
 ·have h4 : ¬ sizeE xs ≤ left := by simp at ht; omega
  exact Need.mk ⟨[], _, .same, fin (by rw [cut_neg h4]), rfl⟩ trivial
theorem laws_szRun (r : Rn) (left : Nat) (he : OkE r.ents) (hl : left ≤ 1048576) : AFn Tryz.prog 174 [.agg (r.enc.map .c), av (.int .i64 left)] [] (.one (vi (cut (sizeE r.ents) left))) [] := by
 refine AFn.introX (E := En 0 md0) (en_ok 0 md0) Tryz.func174 rfl rfl rfl fun _ _ => ?_
 refine ACall.mk _ _ (laws_szEntryS r.ents left he hl) ?_
 refine Split.mk fun t ht => ?_
 rw [cut_lt] at ht
 cases t
 ·exact Need.mk ⟨[], _, .same, rfl, rfl⟩ trivial
 ·exact Need.mk ⟨[], _, .same, by rw [cut_neg (by simpa using ht)]; rfl, rfl⟩ trivial
theorem laws_szRunS (xs : List Rn) (left : Nat) (he : OkR xs) (hl : left ≤ 1048576) : AFn Tryz.prog 120 [sl (xs.map Rn.enc), av (.int .i64 left)] [] (.one (vi (cut (sizeR xs) left))) [] := by
 refine AFn.introX (E := En 0 md0) (en_ok 0 md0) Tryz.func120 rfl rfl rfl fun hs _ => ?_
 have hn : (xs.map Rn.enc).length = xs.length := List.length_map ..
 have hx := Small.len (hs _ (List.mem_cons_self ..))
 rw [hn] at hx
 have hz : sizeR xs = xs.length + (xs.map (fun r : Rn => sizeE r.ents)).sum := rfl
 have fin : ∀ {z : Int}, z = cut (sizeR xs) left → RV.one (vi z) = RV.one (vi (cut (sizeR xs) left)) := fun h => by rw [h]
 refine Num.mk ((left : Int) - xs.length) (by rw [hn, IntKind.wrap_i64]; omega) ?_
 refine Split.mk fun t ht => ?_
 cases t
 ·have h3 : xs.length ≤ left := by simp at ht; omega
  refine ALoop.mk (fun m s => ∃ (i r : Nat), i ≤ xs.length ∧ m = xs.length - i ∧ xs.length + ((xs.take i).map (fun r : Rn => sizeE r.ents)).sum + r = left ∧
    s = ⟨some (sl (xs.map Rn.enc)) :: some (av (.int .i64 r)) :: none :: none :: none :: some (av (.int .i64 i)) :: List.replicate 21 none, List.replicate 27 absent⟩)
   ⟨xs.length, _, Weak.nrm [true, true, false, false, false, true] [] rfl rfl rfl, 0, left - xs.length, Nat.zero_le _, rfl, by simp; omega, ?_⟩ ?_
  ·rw [show ((left - xs.length : Nat) : Int) = (left : Int) - xs.length by omega]; rfl
  rintro m s ⟨i, r, hi, rfl, hr, rfl⟩
  refine Split.mk fun t ht => ?_
  rw [hn] at ht
  cases t
  ·have hin : i = xs.length := by simp at ht; omega
   subst hin
   rw [List.take_length] at hr
   exact Need.mk ⟨[], _, .same, fin (by rw [cut_pos (by omega)]; omega), rfl⟩ trivial
  ·have hia : i < xs.length := by simpa using ht
   have hsum := sum_take (fun r : Rn => sizeE r.ents) xs hia
   have hle := sum_take_le (fun r : Rn => sizeE r.ents) xs (i + 1)
   refine nd ?_
   refine Row.mk _ (map_get _ xs i hia) ?_
   refine ACall.mk _ _ (laws_szRun xs[i] r (he _ (List.getElem_mem _)) (by omega)) ?_
   refine Split.mk fun t ht => ?_
   rw [cut_lt] at ht
   cases t
   ·have h4 : (sizeE xs[i].ents) ≤ r := by simpa using ht
    refine Num.mk _ (wrapS (by omega)) ?_
    refine ⟨xs.length - (i + 1), _, by omega, Weak.nrm [true, true, false, false, false, true] [] rfl rfl rfl, i + 1, r - (sizeE xs[i].ents), by omega, rfl, by omega, ?_⟩
    rw [← cut_pos h4]; rfl
   ·have h4 : ¬ (sizeE xs[i].ents) ≤ r := by simpa using ht
    exact Need.mk ⟨[], _, .same, fin (by rw [cut_neg (by omega)]), rfl⟩ trivial
 ·have h4 : ¬ sizeR xs ≤ left := by simp at ht; omega
  exact Need.mk ⟨[], _, .same, fin (by rw [cut_neg h4]), rfl⟩ trivial
theorem laws_szRunSS (xs : List (List Rn)) (left : Nat) (he : OkRR xs) (hl : left ≤ 1048576) : AFn Tryz.prog 56 [sl (xs.map encL), av (.int .i64 left)] [] (.one (vi (cut (sizeRR xs) left))) [] := by
 refine AFn.introX (E := En 0 md0) (en_ok 0 md0) Tryz.func56 rfl rfl rfl fun hs _ => ?_
 have hn : (xs.map encL).length = xs.length := List.length_map ..
 have hx := Small.len (hs _ (List.mem_cons_self ..))
 rw [hn] at hx
 have hz : sizeRR xs = xs.length + (xs.map sizeR).sum := rfl
 have fin : ∀ {z : Int}, z = cut (sizeRR xs) left → RV.one (vi z) = RV.one (vi (cut (sizeRR xs) left)) := fun h => by rw [h]
 refine Num.mk ((left : Int) - xs.length) (by rw [hn, IntKind.wrap_i64]; omega) ?_
 refine Split.mk fun t ht => ?_
 cases t
 ·have h3 : xs.length ≤ left := by simp at ht; omega
  refine ALoop.mk (fun m s => ∃ (i r : Nat), i ≤ xs.length ∧ m = xs.length - i ∧ xs.length + ((xs.take i).map sizeR).sum + r = left ∧
    s = ⟨some (sl (xs.map encL)) :: some (av (.int .i64 r)) :: none :: none :: none :: some (av (.int .i64 i)) :: List.replicate 21 none, List.replicate 27 absent⟩)
   ⟨xs.length, _, Weak.nrm [true, true, false, false, false, true] [] rfl rfl rfl, 0, left - xs.length, Nat.zero_le _, rfl, by simp; omega, ?_⟩ ?_
  ·rw [show ((left - xs.length : Nat) : Int) = (left : Int) - xs.length by omega]; rfl
  rintro m s ⟨i, r, hi, rfl, hr, rfl⟩
  refine Split.mk fun t ht => ?_
  rw [hn] at ht
  cases t
  ·have hin : i = xs.length := by simp at ht; omega
   subst hin
   rw [List.take_length] at hr
   exact Need.mk ⟨[], _, .same, fin (by rw [cut_pos (by omega)]; omega), rfl⟩ trivial
  ·have hia : i < xs.length := by simpa using ht
   have hsum := sum_take sizeR xs hia
   have hle := sum_take_le sizeR xs (i + 1)
   refine nd ?_
   refine Row.mk _ (map_get _ xs i hia) ?_
   refine ACall.mk _ _ (laws_szRunS xs[i] r (he _ (List.getElem_mem _)) (by omega)) ?_
   refine Split.mk fun t ht => ?_
   rw [cut_lt] at ht
   cases t
   ·have h4 : (sizeR xs[i]) ≤ r := by simpa using ht
    refine Num.mk _ (wrapS (by omega)) ?_
    refine ⟨xs.length - (i + 1), _, by omega, Weak.nrm [true, true, false, false, false, true] [] rfl rfl rfl, i + 1, r - (sizeR xs[i]), by omega, rfl, by omega, ?_⟩
    rw [← cut_pos h4]; rfl
   ·have h4 : ¬ (sizeR xs[i]) ≤ r := by simpa using ht
    exact Need.mk ⟨[], _, .same, fin (by rw [cut_neg (by omega)]), rfl⟩ trivial
 ·have h4 : ¬ sizeRR xs ≤ left := by simp at ht; omega
  exact Need.mk ⟨[], _, .same, fin (by rw [cut_neg h4]), rfl⟩ trivial
theorem laws_szIntS (xs : List Int) (left : Nat) (hl : left ≤ 1048576) : AFn Tryz.prog 57 [sl (xs.map encI), av (.int .i64 left)] [] (.one (vi (cut xs.length left))) [] := by
 refine AFn.introX (E := En 0 md0) (en_ok 0 md0) Tryz.func57 rfl rfl rfl fun hs _ => ?_
 have hn : (xs.map encI).length = xs.length := List.length_map ..
 have hx := Small.len (hs _ (List.mem_cons_self ..))
 rw [hn] at hx
 have fin : ∀ {z : Int}, z = cut xs.length left → RV.one (vi z) = RV.one (vi (cut xs.length left)) := fun h => by rw [h]
 refine Num.mk ((left : Int) - xs.length) (by rw [hn, IntKind.wrap_i64]; omega) ?_
 refine Split.mk fun t ht => ?_
 cases t
 ·have h3 : xs.length ≤ left := by simp at ht; omega
  exact Need.mk ⟨[], _, .same, fin (by rw [cut_pos h3]; omega), rfl⟩ trivial
 ·have h3 : ¬ xs.length ≤ left := by simp at ht; omega
  exact Need.mk ⟨[], _, .same, fin (by rw [cut_neg h3]), rfl⟩ trivial
theorem laws_szTree (t : Tre) (left : Nat) (he : t.Ok) (hl : left ≤ 1048576) : AFn Tryz.prog 15 [.agg (t.enc.map .c), av (.int .i64 left)] [] (.one (vi (cut t.size left))) [] := by
 refine AFn.introX (E := En 0 md0) (en_ok 0 md0) Tryz.func15 rfl rfl rfl fun _ _ => ?_
 have hz : t.size = sizeE t.mem + sizeRR t.levels + t.snaps.length := rfl
 have fin : ∀ {z : Int}, z = cut t.size left → RV.one (vi z) = RV.one (vi (cut t.size left)) := fun h => by rw [h]
 by_cases h1 : sizeE t.mem ≤ left
 ·refine ACall.mk (.one (vi ((left - sizeE t.mem : Nat) : Int))) [] (by rw [← cut_pos h1]; exact laws_szEntryS t.mem left he.1 hl) ?_
  refine Split.mk fun b hb => ?_
  cases b
  ·by_cases h2 : sizeRR t.levels ≤ left - sizeE t.mem
   ·refine ACall.mk (.one (vi ((left - sizeE t.mem - sizeRR t.levels : Nat) : Int))) [] (by rw [← cut_pos h2]; exact laws_szRunSS t.levels (left - sizeE t.mem) he.2 (by omega)) ?_
    refine Split.mk fun b hb => ?_
    cases b
    ·by_cases h3 : t.snaps.length ≤ left - sizeE t.mem - sizeRR t.levels
     ·refine ACall.mk (.one (vi ((left - sizeE t.mem - sizeRR t.levels - t.snaps.length : Nat) : Int))) [] (by rw [← cut_pos h3]; exact laws_szIntS t.snaps _ (by omega)) ?_
      refine Split.mk fun b hb => ?_
      cases b
      ·exact Need.mk ⟨[], _, .same, fin (by rw [cut_pos (by omega)]; omega), rfl⟩ trivial
      ·simp at hb <;> omega
     ·refine ACall.mk (.one (vi (-1))) [] (by rw [← cut_neg h3]; exact laws_szIntS t.snaps _ (by omega)) ?_
      refine Split.mk fun b hb => ?_
      cases b
      ·simp at hb
      ·exact Need.mk ⟨[], _, .same, fin (by rw [cut_neg (by omega)]), rfl⟩ trivial
    ·simp at hb <;> omega
   ·refine ACall.mk (.one (vi (-1))) [] (by rw [← cut_neg h2]; exact laws_szRunSS t.levels (left - sizeE t.mem) he.2 (by omega)) ?_
    refine Split.mk fun b hb => ?_
    cases b
    ·simp at hb
    ·exact Need.mk ⟨[], _, .same, fin (by rw [cut_neg (by omega)]), rfl⟩ trivial
  ·simp at hb <;> omega
 ·refine ACall.mk (.one (vi (-1))) [] (by rw [← cut_neg h1]; exact laws_szEntryS t.mem left he.1 hl) ?_
  refine Split.mk fun b hb => ?_
  cases b
  ·simp at hb
  ·exact Need.mk ⟨[], _, .same, fin (by rw [cut_neg (by omega)]), rfl⟩ trivial
theorem laws_toEntry (e : Ent) : AFn Tryz.prog 63 [.agg (e.enc.map .c)] [] (.agg e.enc) [] := by
 refine AFn.introX (E := En 0 md0) (en_ok 0 md0) Tryz.func63 rfl rfl rfl fun _ _ => ?_
 exact Need.mk ⟨[], _, .same, rfl, rfl⟩ trivial
theorem laws_toEntryS (xs : List Ent) (hx : xs.length ≤ 1048576) : AFn Tryz.prog 19 [sl (xs.map Ent.enc)] [] (.one (.us 54 (xs.map Ent.enc))) [] := by
 refine AFn.introX (E := En 0 md0) (en_ok 0 md0) Tryz.func19 rfl rfl rfl fun _ _ => ?_
 have hn : (xs.map Ent.enc).length = xs.length := List.length_map ..
 refine Need.mk ⟨by omega, by omega, by simp only [hn]; omega, by omega⟩ ?_
 let S : List (List C) → Nat → St := fun rows i => ⟨some (sl (xs.map Ent.enc)) :: none :: none :: some (.one (.ref 3 0 (.cell 0))) :: some (av (.int .i64 i)) :: List.replicate 18 none, absent :: absent :: absent :: ⟨0, 1, some [.us 54 rows]⟩ :: List.replicate 19 absent⟩
 refine ALoop.mk (fun m s => ∃ i : Nat, i ≤ xs.length ∧ m = xs.length - i ∧ s = S ((xs.take i ++ List.replicate (xs.length - i) ent0).map Ent.enc) i)
  ⟨xs.length, _, Weak.nrm [true, false, false, true, true] [(7, 3)] rfl rfl rfl, 0, Nat.zero_le _, rfl, ?_⟩ ?_
 ·refine Eq.trans (b := S (List.replicate (xs.map Ent.enc).length (Ent.enc ent0)) 0) rfl ?_
  rw [hn, List.take_zero, List.nil_append, List.map_replicate, Nat.sub_zero]
 rintro m s ⟨i, hi, rfl, rfl⟩
 refine Split.mk fun t ht => ?_
 rw [hn] at ht
 cases t
 ·have hin : i = xs.length := by simp at ht; omega
  subst hin
  refine Need.mk ⟨[], _, .same, ?_, rfl⟩ trivial
  rw [List.take_length, Nat.sub_self, List.replicate_zero, List.append_nil]; rfl
 ·have hia : i < xs.length := by simpa using ht
  refine nd ?_
  refine Row.mk _ (map_get _ xs i hia) ?_
  refine ACall.mk _ _ (laws_toEntry xs[i]) ?_
  refine Need.mk ⟨by omega, by rw [List.length_map, to_len _ _ hi]; omega⟩ ?_
  refine Row.mk _ (to_get _ xs ent0 hia) ?_
  refine Num.mk _ (wrapS (by omega)) ?_
  refine ⟨xs.length - (i + 1), _, by omega, Weak.nrm [true, false, false, true, true] [(3, 3)] rfl rfl rfl, i + 1, by omega, rfl, ?_⟩
  refine Eq.trans (b := S (((xs.take i ++ List.replicate (xs.length - i) ent0).map Ent.enc).set i (Ent.enc xs[i])) (i + 1)) rfl ?_
  rw [← List.map_set, to_step xs ent0 hia]
theorem laws_toRun (r : Rn) (hr : r.ents.length ≤ 1048576) : AFn Tryz.prog 175 [.agg (r.enc.map .c)] [] (.agg (encO r)) [] := by
 refine AFn.introX (E := En 0 md0) (en_ok 0 md0) Tryz.func175 rfl rfl rfl fun _ _ => ?_
 refine ACall.mk _ _ (laws_toEntryS r.ents hr) ?_
 exact Need.mk ⟨[], _, .same, rfl, rfl⟩ trivial
theorem laws_toRunS (xs : List Rn) (hx : xs.length ≤ 1048576) (hr : ∀ r ∈ xs, r.ents.length ≤ 1048576) : AFn Tryz.prog 124 [sl (xs.map Rn.enc)] [] (.one (.us 68 (xs.map encO))) [] := by
 refine AFn.introX (E := En 0 md0) (en_ok 0 md0) Tryz.func124 rfl rfl rfl fun _ _ => ?_
 have hn : (xs.map Rn.enc).length = xs.length := List.length_map ..
 refine Need.mk ⟨by omega, by omega, by simp only [hn]; omega, by omega⟩ ?_
 let S : List (List C) → Nat → St := fun rows i => ⟨some (sl (xs.map Rn.enc)) :: none :: none :: some (.one (.ref 3 0 (.cell 0))) :: some (av (.int .i64 i)) :: List.replicate 18 none, absent :: absent :: absent :: ⟨0, 1, some [.us 68 rows]⟩ :: List.replicate 19 absent⟩
 refine ALoop.mk (fun m s => ∃ i : Nat, i ≤ xs.length ∧ m = xs.length - i ∧ s = S ((xs.take i ++ List.replicate (xs.length - i) (⟨[], 0⟩ : Rn)).map encO) i)
  ⟨xs.length, _, Weak.nrm [true, false, false, true, true] [(7, 3)] rfl rfl rfl, 0, Nat.zero_le _, rfl, ?_⟩ ?_
 ·refine Eq.trans (b := S (List.replicate (xs.map Rn.enc).length (encO (⟨[], 0⟩ : Rn))) 0) rfl ?_
  rw [hn, List.take_zero, List.nil_append, List.map_replicate, Nat.sub_zero]
 rintro m s ⟨i, hi, rfl, rfl⟩
 refine Split.mk fun t ht => ?_
 rw [hn] at ht
 cases t
 ·have hin : i = xs.length := by simp at ht; omega
  subst hin
  refine Need.mk ⟨[], _, .same, ?_, rfl⟩ trivial
  rw [List.take_length, Nat.sub_self, List.replicate_zero, List.append_nil]; rfl
 ·have hia : i < xs.length := by simpa using ht
  refine nd ?_
  refine Row.mk _ (map_get _ xs i hia) ?_
  refine ACall.mk _ _ (laws_toRun xs[i] (hr _ (List.getElem_mem _))) ?_
  refine Need.mk ⟨by omega, by rw [List.length_map, to_len _ _ hi]; omega⟩ ?_
  refine Row.mk _ (to_get _ xs (⟨[], 0⟩ : Rn) hia) ?_
  refine Num.mk _ (wrapS (by omega)) ?_
  refine ⟨xs.length - (i + 1), _, by omega, Weak.nrm [true, false, false, true, true] [(3, 3)] rfl rfl rfl, i + 1, by omega, rfl, ?_⟩
  refine Eq.trans (b := S (((xs.take i ++ List.replicate (xs.length - i) (⟨[], 0⟩ : Rn)).map encO).set i (encO xs[i])) (i + 1)) rfl ?_
  rw [← List.map_set, to_step xs (⟨[], 0⟩ : Rn) hia]
theorem laws_toRunSS (xs : List (List Rn)) (hx : xs.length ≤ 1048576) (hr : ∀ l ∈ xs, l.length ≤ 1048576 ∧ ∀ r ∈ l, r.ents.length ≤ 1048576) : AFn Tryz.prog 61 [sl (xs.map encL)] [] (.one (.us 66 (xs.map encLO))) [] := by
 refine AFn.introX (E := En 0 md0) (en_ok 0 md0) Tryz.func61 rfl rfl rfl fun _ _ => ?_
 have hn : (xs.map encL).length = xs.length := List.length_map ..
 refine Need.mk ⟨by omega, by omega, by simp only [hn]; omega, by omega⟩ ?_
 let S : List (List C) → Nat → St := fun rows i => ⟨some (sl (xs.map encL)) :: none :: none :: some (.one (.ref 3 0 (.cell 0))) :: some (av (.int .i64 i)) :: List.replicate 18 none, absent :: absent :: absent :: ⟨0, 1, some [.us 66 rows]⟩ :: List.replicate 19 absent⟩
 refine ALoop.mk (fun m s => ∃ i : Nat, i ≤ xs.length ∧ m = xs.length - i ∧ s = S ((xs.take i ++ List.replicate (xs.length - i) ([] : List Rn)).map encLO) i)
  ⟨xs.length, _, Weak.nrm [true, false, false, true, true] [(7, 3)] rfl rfl rfl, 0, Nat.zero_le _, rfl, ?_⟩ ?_
 ·refine Eq.trans (b := S (List.replicate (xs.map encL).length (encLO ([] : List Rn))) 0) rfl ?_
  rw [hn, List.take_zero, List.nil_append, List.map_replicate, Nat.sub_zero]
 rintro m s ⟨i, hi, rfl, rfl⟩
 refine Split.mk fun t ht => ?_
 rw [hn] at ht
 cases t
 ·have hin : i = xs.length := by simp at ht; omega
  subst hin
  refine Need.mk ⟨[], _, .same, ?_, rfl⟩ trivial
  rw [List.take_length, Nat.sub_self, List.replicate_zero, List.append_nil]; rfl
 ·have hia : i < xs.length := by simpa using ht
  refine nd ?_
  refine Row.mk _ (map_get _ xs i hia) ?_
  refine ACall.mk _ _ (laws_toRunS xs[i] (hr _ (List.getElem_mem _)).1 (hr _ (List.getElem_mem _)).2) ?_
  refine Need.mk ⟨by omega, by rw [List.length_map, to_len _ _ hi]; omega⟩ ?_
  refine Row.mk _ (to_get _ xs ([] : List Rn) hia) ?_
  refine Num.mk _ (wrapS (by omega)) ?_
  refine ⟨xs.length - (i + 1), _, by omega, Weak.nrm [true, false, false, true, true] [(3, 3)] rfl rfl rfl, i + 1, by omega, rfl, ?_⟩
  refine Eq.trans (b := S (((xs.take i ++ List.replicate (xs.length - i) ([] : List Rn)).map encLO).set i (encLO xs[i])) (i + 1)) rfl ?_
  rw [← List.map_set, to_step xs ([] : List Rn) hia]
theorem laws_toIntS (xs : List Int) (hx : xs.length ≤ 1048576) : AFn Tryz.prog 62 [sl (xs.map encI)] [] (.one (.us 3 (xs.map encI))) [] := by
 refine AFn.introX (E := En 0 md0) (en_ok 0 md0) Tryz.func62 rfl rfl rfl fun _ _ => ?_
 have hn : (xs.map encI).length = xs.length := List.length_map ..
 refine Need.mk ⟨by omega, by omega, by simp only [hn]; omega, by omega⟩ ?_
 let S : List (List C) → Nat → St := fun rows i => ⟨some (sl (xs.map encI)) :: none :: none :: some (.one (.ref 3 0 (.cell 0))) :: some (av (.int .i64 i)) :: List.replicate 17 none, absent :: absent :: absent :: ⟨0, 1, some [.us 3 rows]⟩ :: List.replicate 18 absent⟩
 refine ALoop.mk (fun m s => ∃ i : Nat, i ≤ xs.length ∧ m = xs.length - i ∧ s = S ((xs.take i ++ List.replicate (xs.length - i) (0 : Int)).map encI) i)
  ⟨xs.length, _, Weak.nrm [true, false, false, true, true] [(7, 3)] rfl rfl rfl, 0, Nat.zero_le _, rfl, ?_⟩ ?_
 ·refine Eq.trans (b := S (List.replicate (xs.map encI).length (encI (0 : Int))) 0) rfl ?_
  rw [hn, List.take_zero, List.nil_append, List.map_replicate, Nat.sub_zero]
 rintro m s ⟨i, hi, rfl, rfl⟩
 refine Split.mk fun t ht => ?_
 rw [hn] at ht
 cases t
 ·have hin : i = xs.length := by simp at ht; omega
  subst hin
  refine Need.mk ⟨[], _, .same, ?_, rfl⟩ trivial
  rw [List.take_length, Nat.sub_self, List.replicate_zero, List.append_nil]; rfl
 ·have hia : i < xs.length := by simpa using ht
  refine nd ?_
  refine Row.mk _ (map_get _ xs i hia) ?_
  refine Need.mk ⟨by omega, by rw [List.length_map, to_len _ _ hi]; omega⟩ ?_
  refine Row.mk _ (to_get _ xs (0 : Int) hia) ?_
  refine Num.mk _ (wrapS (by omega)) ?_
  refine ⟨xs.length - (i + 1), _, by omega, Weak.nrm [true, false, false, true, true] [(3, 3)] rfl rfl rfl, i + 1, by omega, rfl, ?_⟩
  refine Eq.trans (b := S (((xs.take i ++ List.replicate (xs.length - i) (0 : Int)).map encI).set i (encI xs[i])) (i + 1)) rfl ?_
  rw [← List.map_set, to_step xs (0 : Int) hia]
theorem laws_toTree (t : Tre) (ht : Tre.Small t) : AFn Tryz.prog 18 [.agg (t.enc.map .c)] [] (.agg (encTO t)) [] := by
 refine AFn.introX (E := En 0 md0) (en_ok 0 md0) Tryz.func18 rfl rfl rfl fun _ _ => ?_
 refine ACall.mk _ _ (laws_toEntryS t.mem ht.1) ?_
 refine ACall.mk _ _ (laws_toRunSS t.levels ht.2.1 ht.2.2.1) ?_
 refine ACall.mk _ _ (laws_toIntS t.snaps ht.2.2.2) ?_
 exact Need.mk ⟨[], _, .same, rfl, rfl⟩ trivial
theorem laws_eqEntry (a b : Ent) : AFn Tryz.prog 69 [.agg (a.enc.map .c), .agg (b.enc.map .c)] [] (rb (decide (a = b))) [] := by
 refine AFn.introX (E := En 0 md0) (en_ok 0 md0) Tryz.func69 rfl rfl rfl fun _ _ => ?_
 have fin : ∀ {c : Bool}, c = decide (a = b) → rb c = rb (decide (a = b)) := fun h => by rw [h]
 refine Split.mk fun t ht => ?_
 rw [bytes_beq] at ht
 cases t
 ·refine Split.mk fun t ht1 => ?_
  cases t
  ·refine Split.mk fun t ht2 => ?_
   cases t
   ·refine Split.mk fun t ht3 => ?_
    rw [bytes_beq] at ht3
    cases t
    ·refine Split.mk fun t ht4 => ?_
     cases t
     ·exact Need.mk ⟨[], _, .same, fin (by cases a; cases b; simp_all), rfl⟩ trivial
     ·exact Need.mk ⟨[], _, .same, fin (by cases a; cases b; simp_all), rfl⟩ trivial
    ·exact Need.mk ⟨[], _, .same, fin (by cases a; cases b; simp_all), rfl⟩ trivial
   ·exact Need.mk ⟨[], _, .same, fin (by cases a; cases b; simp_all), rfl⟩ trivial
  ·exact Need.mk ⟨[], _, .same, fin (by cases a; cases b; simp_all), rfl⟩ trivial
 ·exact Need.mk ⟨[], _, .same, fin (by cases a; cases b; simp_all), rfl⟩ trivial
theorem laws_eqEntryS (a b : List Ent) : AFn Tryz.prog 22 [sl (a.map Ent.enc), sl (b.map Ent.enc)] [] (rb (decide (a = b))) [] := by
 refine AFn.introX (E := En 0 md0) (en_ok 0 md0) Tryz.func22 rfl rfl rfl fun hs _ => ?_
 have ha := Small.len (hs _ (List.mem_cons_self ..))
 rw [List.length_map] at ha
 have fin : ∀ {c : Bool}, c = decide (a = b) → rb c = rb (decide (a = b)) := fun h => by rw [h]
 refine Split.mk fun t ht => ?_
 cases t
 ·have hl : a.length = b.length := Int.ofNat_inj.1 (by simpa using ht)
  refine ALoop.mk (fun n s => ∃ i : Nat, i ≤ a.length ∧ n = a.length - i ∧ a.take i = b.take i ∧
   s = ⟨some (sl (a.map Ent.enc)) :: some (sl (b.map Ent.enc)) :: none :: none :: some (av (.bool false)) :: some (av (.int .i64 i)) :: List.replicate 21 none, List.replicate 27 absent⟩)
   ⟨a.length, _, Weak.nrm [true, true, false, false, true, true] [] rfl rfl rfl, 0, Nat.zero_le _, rfl, rfl, rfl⟩ ?_
  rintro n s ⟨i, hi, rfl, hp, rfl⟩
  refine Split.mk fun t ht => ?_
  cases t
  ·have hia : i = a.length := by simp at ht; omega
   refine Need.mk ⟨[], _, .same, fin ?_, rfl⟩ trivial
   subst hia
   rw [List.take_length, hl, List.take_length] at hp
   simp [hp]
  ·have hia : i < a.length := by simpa using ht
   refine nd ?_
   refine Row.mk _ (map_get _ a i hia) ?_
   refine nd ?_
   refine Row.mk _ (map_get _ b i (by omega)) ?_
   refine ACall.mk _ _ (laws_eqEntry a[i] (b[i]'(by omega))) ?_
   refine Split.mk fun t ht2 => ?_
   cases t
   ·refine Need.mk rfl ?_
    refine Need.mk ⟨[], _, .same, fin ?_, rfl⟩ trivial
    have : a[i] ≠ b[i]'(by omega) := by simpa using ht2
    refine (decide_eq_false fun e => this ?_).symm
    subst e; rfl
   ·refine Need.mk rfl ?_
    refine Num.mk _ (wrapS (by omega)) ?_
    refine ⟨a.length - (i + 1), _, by omega, Weak.nrm [true, true, false, false, true, true] [] rfl rfl rfl, i + 1, by omega, rfl, ?_, rfl⟩
    have : a[i] = b[i]'(by omega) := by simpa using ht2
    rw [List.take_succ_eq_append_getElem hia, List.take_succ_eq_append_getElem (by omega), hp, this]
 ·refine Need.mk ⟨[], _, .same, fin ?_, rfl⟩ trivial
  have : a.length ≠ b.length := by
   intro e; simp [e] at ht
  exact (decide_eq_false fun e => this (by rw [e])).symm
theorem laws_eqRun (a b : Rn) : AFn Tryz.prog 177 [.agg (a.enc.map .c), .agg (b.enc.map .c)] [] (rb (decide (a = b))) [] := by
 refine AFn.introX (E := En 0 md0) (en_ok 0 md0) Tryz.func177 rfl rfl rfl fun _ _ => ?_
 have fin : ∀ {c : Bool}, c = decide (a = b) → rb c = rb (decide (a = b)) := fun h => by rw [h]
 refine ACall.mk _ _ (laws_eqEntryS a.ents b.ents) ?_
 refine Split.mk fun t ht => ?_
 cases t
 ·exact Need.mk ⟨[], _, .same, fin (by cases a; cases b; simp_all), rfl⟩ trivial
 ·refine Split.mk fun t ht1 => ?_
  cases t
  ·exact Need.mk ⟨[], _, .same, fin (by cases a; cases b; simp_all), rfl⟩ trivial
  ·exact Need.mk ⟨[], _, .same, fin (by cases a; cases b; simp_all), rfl⟩ trivial
theorem laws_eqRunS (a b : List Rn) : AFn Tryz.prog 127 [sl (a.map Rn.enc), sl (b.map Rn.enc)] [] (rb (decide (a = b))) [] := by
 refine AFn.introX (E := En 0 md0) (en_ok 0 md0) Tryz.func127 rfl rfl rfl fun hs _ => ?_
 have ha := Small.len (hs _ (List.mem_cons_self ..))
 rw [List.length_map] at ha
 have fin : ∀ {c : Bool}, c = decide (a = b) → rb c = rb (decide (a = b)) := fun h => by rw [h]
 refine Split.mk fun t ht => ?_
 cases t
 ·have hl : a.length = b.length := Int.ofNat_inj.1 (by simpa using ht)
  refine ALoop.mk (fun n s => ∃ i : Nat, i ≤ a.length ∧ n = a.length - i ∧ a.take i = b.take i ∧
   s = ⟨some (sl (a.map Rn.enc)) :: some (sl (b.map Rn.enc)) :: none :: none :: some (av (.bool false)) :: some (av (.int .i64 i)) :: List.replicate 21 none, List.replicate 27 absent⟩)
   ⟨a.length, _, Weak.nrm [true, true, false, false, true, true] [] rfl rfl rfl, 0, Nat.zero_le _, rfl, rfl, rfl⟩ ?_
  rintro n s ⟨i, hi, rfl, hp, rfl⟩
  refine Split.mk fun t ht => ?_
  cases t
  ·have hia : i = a.length := by simp at ht; omega
   refine Need.mk ⟨[], _, .same, fin ?_, rfl⟩ trivial
   subst hia
   rw [List.take_length, hl, List.take_length] at hp
   simp [hp]
  ·have hia : i < a.length := by simpa using ht
   refine nd ?_
   refine Row.mk _ (map_get _ a i hia) ?_
   refine nd ?_
   refine Row.mk _ (map_get _ b i (by omega)) ?_
   refine ACall.mk _ _ (laws_eqRun a[i] (b[i]'(by omega))) ?_
   refine Split.mk fun t ht2 => ?_
   cases t
   ·refine Need.mk rfl ?_
    refine Need.mk ⟨[], _, .same, fin ?_, rfl⟩ trivial
    have : a[i] ≠ b[i]'(by omega) := by simpa using ht2
    refine (decide_eq_false fun e => this ?_).symm
    subst e; rfl
   ·refine Need.mk rfl ?_
    refine Num.mk _ (wrapS (by omega)) ?_
    refine ⟨a.length - (i + 1), _, by omega, Weak.nrm [true, true, false, false, true, true] [] rfl rfl rfl, i + 1, by omega, rfl, ?_, rfl⟩
    have : a[i] = b[i]'(by omega) := by simpa using ht2
    rw [List.take_succ_eq_append_getElem hia, List.take_succ_eq_append_getElem (by omega), hp, this]
 ·refine Need.mk ⟨[], _, .same, fin ?_, rfl⟩ trivial
  have : a.length ≠ b.length := by
   intro e; simp [e] at ht
  exact (decide_eq_false fun e => this (by rw [e])).symm
theorem laws_eqRunSS (a b : List (List Rn)) : AFn Tryz.prog 67 [sl (a.map encL), sl (b.map encL)] [] (rb (decide (a = b))) [] := by
 refine AFn.introX (E := En 0 md0) (en_ok 0 md0) Tryz.func67 rfl rfl rfl fun hs _ => ?_
 have ha := Small.len (hs _ (List.mem_cons_self ..))
 rw [List.length_map] at ha
 have fin : ∀ {c : Bool}, c = decide (a = b) → rb c = rb (decide (a = b)) := fun h => by rw [h]
 refine Split.mk fun t ht => ?_
 cases t
 ·have hl : a.length = b.length := Int.ofNat_inj.1 (by simpa using ht)
  refine ALoop.mk (fun n s => ∃ i : Nat, i ≤ a.length ∧ n = a.length - i ∧ a.take i = b.take i ∧
   s = ⟨some (sl (a.map encL)) :: some (sl (b.map encL)) :: none :: none :: some (av (.bool false)) :: some (av (.int .i64 i)) :: List.replicate 21 none, List.replicate 27 absent⟩)
   ⟨a.length, _, Weak.nrm [true, true, false, false, true, true] [] rfl rfl rfl, 0, Nat.zero_le _, rfl, rfl, rfl⟩ ?_
  rintro n s ⟨i, hi, rfl, hp, rfl⟩
  refine Split.mk fun t ht => ?_
  cases t
  ·have hia : i = a.length := by simp at ht; omega
   refine Need.mk ⟨[], _, .same, fin ?_, rfl⟩ trivial
   subst hia
   rw [List.take_length, hl, List.take_length] at hp
   simp [hp]
  ·have hia : i < a.length := by simpa using ht
   refine nd ?_
   refine Row.mk _ (map_get _ a i hia) ?_
   refine nd ?_
   refine Row.mk _ (map_get _ b i (by omega)) ?_
   refine ACall.mk _ _ (laws_eqRunS a[i] (b[i]'(by omega))) ?_
   refine Split.mk fun t ht2 => ?_
   cases t
   ·refine Need.mk rfl ?_
    refine Need.mk ⟨[], _, .same, fin ?_, rfl⟩ trivial
    have : a[i] ≠ b[i]'(by omega) := by simpa using ht2
    refine (decide_eq_false fun e => this ?_).symm
    subst e; rfl
   ·refine Need.mk rfl ?_
    refine Num.mk _ (wrapS (by omega)) ?_
    refine ⟨a.length - (i + 1), _, by omega, Weak.nrm [true, true, false, false, true, true] [] rfl rfl rfl, i + 1, by omega, rfl, ?_, rfl⟩
    have : a[i] = b[i]'(by omega) := by simpa using ht2
    rw [List.take_succ_eq_append_getElem hia, List.take_succ_eq_append_getElem (by omega), hp, this]
 ·refine Need.mk ⟨[], _, .same, fin ?_, rfl⟩ trivial
  have : a.length ≠ b.length := by
   intro e; simp [e] at ht
  exact (decide_eq_false fun e => this (by rw [e])).symm
theorem laws_eqIntS (a b : List Int) : AFn Tryz.prog 68 [sl (a.map encI), sl (b.map encI)] [] (rb (decide (a = b))) [] := by
 refine AFn.introX (E := En 0 md0) (en_ok 0 md0) Tryz.func68 rfl rfl rfl fun hs _ => ?_
 have ha := Small.len (hs _ (List.mem_cons_self ..))
 rw [List.length_map] at ha
 have fin : ∀ {c : Bool}, c = decide (a = b) → rb c = rb (decide (a = b)) := fun h => by rw [h]
 refine Split.mk fun t ht => ?_
 cases t
 ·have hl : a.length = b.length := Int.ofNat_inj.1 (by simpa using ht)
  refine ALoop.mk (fun n s => ∃ i : Nat, i ≤ a.length ∧ n = a.length - i ∧ a.take i = b.take i ∧
   s = ⟨some (sl (a.map encI)) :: some (sl (b.map encI)) :: none :: none :: some (av (.bool false)) :: some (av (.int .i64 i)) :: List.replicate 20 none, List.replicate 26 absent⟩)
   ⟨a.length, _, Weak.nrm [true, true, false, false, true, true] [] rfl rfl rfl, 0, Nat.zero_le _, rfl, rfl, rfl⟩ ?_
  rintro n s ⟨i, hi, rfl, hp, rfl⟩
  refine Split.mk fun t ht => ?_
  cases t
  ·have hia : i = a.length := by simp at ht; omega
   refine Need.mk ⟨[], _, .same, fin ?_, rfl⟩ trivial
   subst hia
   rw [List.take_length, hl, List.take_length] at hp
   simp [hp]
  ·have hia : i < a.length := by simpa using ht
   refine nd ?_
   refine Row.mk _ (map_get _ a i hia) ?_
   refine nd ?_
   refine Row.mk _ (map_get _ b i (by omega)) ?_
   refine Split.mk fun t ht2 => ?_
   cases t
   ·refine Need.mk rfl ?_
    refine Num.mk _ (wrapS (by omega)) ?_
    refine ⟨a.length - (i + 1), _, by omega, Weak.nrm [true, true, false, false, true, true] [] rfl rfl rfl, i + 1, by omega, rfl, ?_, rfl⟩
    have : a[i] = b[i]'(by omega) := by simpa using ht2
    rw [List.take_succ_eq_append_getElem hia, List.take_succ_eq_append_getElem (by omega), hp, this]
   ·refine Need.mk rfl ?_
    refine Need.mk ⟨[], _, .same, fin ?_, rfl⟩ trivial
    have : a[i] ≠ b[i]'(by omega) := by simpa using ht2
    refine (decide_eq_false fun e => this ?_).symm
    subst e; rfl
 ·refine Need.mk ⟨[], _, .same, fin ?_, rfl⟩ trivial
  have : a.length ≠ b.length := by
   intro e; simp [e] at ht
  exact (decide_eq_false fun e => this (by rw [e])).symm
theorem laws_eqTree (a b : Tre) : AFn Tryz.prog 21 [.agg (a.enc.map .c), .agg (b.enc.map .c)] [] (rb (decide (a = b))) [] := by
 refine AFn.introX (E := En 0 md0) (en_ok 0 md0) Tryz.func21 rfl rfl rfl fun _ _ => ?_
 have fin : ∀ {c : Bool}, c = decide (a = b) → rb c = rb (decide (a = b)) := fun h => by rw [h]
 refine Split.mk fun t ht => ?_
 cases t
 ·refine ACall.mk _ _ (laws_eqEntryS a.mem b.mem) ?_
  refine Split.mk fun t ht1 => ?_
  cases t
  ·exact Need.mk ⟨[], _, .same, fin (by cases a; cases b; simp_all), rfl⟩ trivial
  ·refine ACall.mk _ _ (laws_eqRunSS a.levels b.levels) ?_
   refine Split.mk fun t ht2 => ?_
   cases t
   ·exact Need.mk ⟨[], _, .same, fin (by cases a; cases b; simp_all), rfl⟩ trivial
   ·refine ACall.mk _ _ (laws_eqIntS a.snaps b.snaps) ?_
    refine Split.mk fun t ht3 => ?_
    cases t
    ·exact Need.mk ⟨[], _, .same, fin (by cases a; cases b; simp_all), rfl⟩ trivial
    ·exact Need.mk ⟨[], _, .same, fin (by cases a; cases b; simp_all), rfl⟩ trivial
 ·exact Need.mk ⟨[], _, .same, fin (by cases a; cases b; simp_all), rfl⟩ trivial
theorem laws_heldEntryS (k n : Nat) (hk : k + 5 * n ≤ 4611686018427387904) : AFn Tryz.prog 73 [sl ((markL k n).map Ent.enc), av (.int .i64 k)] [] (.one (vi ((k + 5 * n : Nat) : Int))) [] := by
 refine AFn.introX (E := En 0 md0) (en_ok 0 md0) Tryz.func73 rfl rfl rfl fun _ _ => ?_
 have hn : ((markL k n).map Ent.enc).length = n := by rw [List.length_map, markL_len]
 refine ALoop.mk (fun m s => ∃ i : Nat, i ≤ n ∧ m = n - i ∧
   s = ⟨some (sl ((markL k n).map Ent.enc)) :: some (av (.int .i64 ((k + 5 * i : Nat) : Int))) :: none :: none :: none :: some (av (.int .i64 i)) :: List.replicate 54 none, List.replicate 60 absent⟩)
  ⟨n, _, Weak.nrm [true, true, false, false, false, true] [] rfl rfl rfl, 0, Nat.zero_le _, rfl, rfl⟩ ?_
 rintro m s ⟨i, hi, rfl, rfl⟩
 refine Split.mk fun t ht => ?_
 rw [hn] at ht
 cases t
 ·have hin : i = n := by simp at ht; omega
  subst hin
  exact Need.mk ⟨[], _, .same, rfl, rfl⟩ trivial
 ·have hin : i < n := by simpa using ht
  have hget : ((markL k n).map Ent.enc)[i]? = some (markE (k + 5 * i)).enc := by rw [List.getElem?_map, markL_get hin]; rfl
  refine nd ?_
  refine Row.mk _ hget ?_
  refine ACall.mk _ _ (laws_markText (k + 5 * i) (by omega)) ?_
  refine Split.mk fun t ht => ?_
  rw [bytes_beq] at ht
  cases t
  ·refine Need.mk rfl ?_
   refine Num.mk _ (wrapS (by omega)) ?_
   refine nd ?_
   refine Row.mk _ hget ?_
   refine Split.mk fun t ht => ?_
   cases t
   ·refine Num.mk _ (wrapS (by omega)) ?_
    refine nd ?_
    refine Row.mk _ hget ?_
    refine Split.mk fun t ht => ?_
    cases t
    ·refine Num.mk _ (wrapS (by omega)) ?_
     refine nd ?_
     refine Row.mk _ hget ?_
     refine ACall.mk _ _ (laws_markText (k + 5 * i + 1 + 1 + 1) (by omega)) ?_
     refine Split.mk fun t ht => ?_
     rw [bytes_beq] at ht
     cases t
     ·refine Need.mk rfl ?_
      refine Num.mk _ (wrapS (by omega)) ?_
      refine nd ?_
      refine Row.mk _ hget ?_
      refine Split.mk fun t ht => ?_
      cases t
      ·refine Num.mk _ (wrapS (by omega)) ?_
       refine Num.mk _ (wrapS (by omega)) ?_
       exact ⟨n - (i + 1), _, by omega, Weak.nrm [true, true, false, false, false, true] [] rfl rfl rfl, i + 1, by omega, rfl, rfl⟩
      ·simp [markE] at ht <;> omega
     ·simp [markE] at ht <;> omega
    ·simp [markE] at ht <;> omega
   ·simp [markE] at ht <;> omega
  ·simp [markE] at ht <;> omega
theorem laws_heldRunS (xs : List Rn) (k : Nat) (hk : posR k xs ≤ 4611686018427387904) : AFn Tryz.prog 129 [sl ((mkRs k xs).map Rn.enc), av (.int .i64 k)] [] (.one (vi (posR k xs : Nat))) [] := by
 refine AFn.introX (E := En 0 md0) (en_ok 0 md0) Tryz.func129 rfl rfl rfl fun _ _ => ?_
 have hn : ((mkRs k xs).map Rn.enc).length = xs.length := by rw [List.length_map, mkRs_len]
 have hxl := posR_len xs k
 refine ALoop.mk (fun m s => ∃ i : Nat, i ≤ xs.length ∧ m = xs.length - i ∧
   s = ⟨some (sl ((mkRs k xs).map Rn.enc)) :: some (av (.int .i64 ((posR k (xs.take i) : Nat) : Int))) :: none :: none :: none :: some (av (.int .i64 i)) :: List.replicate 25 none, List.replicate 31 absent⟩)
  ⟨xs.length, _, Weak.nrm [true, true, false, false, false, true] [] rfl rfl rfl, 0, Nat.zero_le _, rfl, rfl⟩ ?_
 rintro m s ⟨i, hi, rfl, rfl⟩
 refine Split.mk fun t ht => ?_
 rw [hn] at ht
 cases t
 ·have hin : i = xs.length := by simp at ht; omega
  subst hin
  refine Need.mk ⟨[], _, .same, ?_, rfl⟩ trivial
  rw [List.take_length]; rfl
 ·have hia : i < xs.length := by simpa using ht
  have hpos : posR k (xs.take (i + 1)) = posR k (xs.take i) + 5 * xs[i].ents.length + 1 := by rw [List.take_succ_eq_append_getElem hia, posR_app]; rfl
  have hle : posR k (xs.take (i + 1)) ≤ 4611686018427387904 := by
   have : posR k xs = posR (posR k (xs.take (i + 1))) (xs.drop (i + 1)) := by rw [← posR_app, List.take_append_drop]
   have h2 := posR_le (xs.drop (i + 1)) (posR k (xs.take (i + 1)))
   omega
  have hget : ((mkRs k xs).map Rn.enc)[i]? = some (mkR (posR k (xs.take i)) xs[i]).enc := by
   have h1 : mkRs k xs = mkRs k (xs.take i) ++ mkRs (posR k (xs.take i)) (xs.drop i) := by rw [← mkRs_app, List.take_append_drop]
   rw [List.getElem?_map, h1, List.getElem?_append_right (by rw [mkRs_len, List.length_take]; omega), mkRs_len, List.length_take, Nat.min_eq_left (by omega), Nat.sub_self, List.drop_eq_getElem_cons hia]
   rfl
  refine nd ?_
  refine Row.mk _ hget ?_
  refine ACall.mk _ _ (laws_heldEntryS (posR k (xs.take i)) xs[i].ents.length (by omega)) ?_
  refine Split.mk fun t ht => ?_
  cases t
  ·refine nd ?_
   refine Row.mk _ hget ?_
   refine Split.mk fun t ht => ?_
   cases t
   ·refine Num.mk _ (wrapS (by omega)) ?_
    refine Num.mk _ (wrapS (by omega)) ?_
    refine ⟨xs.length - (i + 1), _, by omega, Weak.nrm [true, true, false, false, false, true] [] rfl rfl rfl, i + 1, by omega, rfl, ?_⟩
    rw [hpos]; rfl
   ·simp [mkR] at ht
  ·simp at ht <;> omega
theorem laws_heldRunSS (xs : List (List Rn)) (k : Nat) (hk : posL k xs ≤ 4611686018427387904) : AFn Tryz.prog 74 [sl ((mkLs k xs).map encL), av (.int .i64 k)] [] (.one (vi (posL k xs : Nat))) [] := by
 refine AFn.introX (E := En 0 md0) (en_ok 0 md0) Tryz.func74 rfl rfl rfl fun hs _ => ?_
 have hn : ((mkLs k xs).map encL).length = xs.length := by rw [List.length_map, mkLs_len]
 have hxl := Small.len (hs _ (List.mem_cons_self ..))
 rw [hn] at hxl
 refine ALoop.mk (fun m s => ∃ i : Nat, i ≤ xs.length ∧ m = xs.length - i ∧
   s = ⟨some (sl ((mkLs k xs).map encL)) :: some (av (.int .i64 ((posL k (xs.take i) : Nat) : Int))) :: none :: none :: none :: some (av (.int .i64 i)) :: List.replicate 15 none, List.replicate 21 absent⟩)
  ⟨xs.length, _, Weak.nrm [true, true, false, false, false, true] [] rfl rfl rfl, 0, Nat.zero_le _, rfl, rfl⟩ ?_
 rintro m s ⟨i, hi, rfl, rfl⟩
 refine Split.mk fun t ht => ?_
 rw [hn] at ht
 cases t
 ·have hin : i = xs.length := by simp at ht; omega
  subst hin
  refine Need.mk ⟨[], _, .same, ?_, rfl⟩ trivial
  rw [List.take_length]; rfl
 ·have hia : i < xs.length := by simpa using ht
  have hpos : posL k (xs.take (i + 1)) = posR (posL k (xs.take i)) xs[i] := by rw [List.take_succ_eq_append_getElem hia, posL_app]; rfl
  have hle : posL k (xs.take (i + 1)) ≤ 4611686018427387904 := by
   have : posL k xs = posL (posL k (xs.take (i + 1))) (xs.drop (i + 1)) := by rw [← posL_app, List.take_append_drop]
   have h2 := posL_le (xs.drop (i + 1)) (posL k (xs.take (i + 1)))
   omega
  have hget : ((mkLs k xs).map encL)[i]? = some (encL (mkRs (posL k (xs.take i)) xs[i])) := by
   have h1 : mkLs k xs = mkLs k (xs.take i) ++ mkLs (posL k (xs.take i)) (xs.drop i) := by rw [← mkLs_app, List.take_append_drop]
   rw [List.getElem?_map, h1, List.getElem?_append_right (by rw [mkLs_len, List.length_take]; omega), mkLs_len, List.length_take, Nat.min_eq_left (by omega), Nat.sub_self, List.drop_eq_getElem_cons hia]
   rfl
  refine nd ?_
  refine Row.mk _ hget ?_
  refine ACall.mk _ _ (laws_heldRunS xs[i] (posL k (xs.take i)) (by omega)) ?_
  refine Split.mk fun t ht => ?_
  cases t
  ·refine Num.mk _ (wrapS (by omega)) ?_
   refine ⟨xs.length - (i + 1), _, by omega, Weak.nrm [true, true, false, false, false, true] [] rfl rfl rfl, i + 1, by omega, rfl, ?_⟩
   rw [hpos]; rfl
  ·simp at ht <;> omega
theorem laws_heldIntS (k n : Nat) (hk : k + n ≤ 4611686018427387904) : AFn Tryz.prog 75 [sl ((markI k n).map encI), av (.int .i64 k)] [] (.one (vi ((k + n : Nat) : Int))) [] := by
 refine AFn.introX (E := En 0 md0) (en_ok 0 md0) Tryz.func75 rfl rfl rfl fun _ _ => ?_
 have hn : ((markI k n).map encI).length = n := by rw [List.length_map, markI_len]
 refine ALoop.mk (fun m s => ∃ i : Nat, i ≤ n ∧ m = n - i ∧
   s = ⟨some (sl ((markI k n).map encI)) :: some (av (.int .i64 ((k + i : Nat) : Int))) :: none :: none :: none :: some (av (.int .i64 i)) :: List.replicate 15 none, List.replicate 21 absent⟩)
  ⟨n, _, Weak.nrm [true, true, false, false, false, true] [] rfl rfl rfl, 0, Nat.zero_le _, rfl, rfl⟩ ?_
 rintro m s ⟨i, hi, rfl, rfl⟩
 refine Split.mk fun t ht => ?_
 rw [hn] at ht
 cases t
 ·have hin : i = n := by simp at ht; omega
  subst hin
  exact Need.mk ⟨[], _, .same, rfl, rfl⟩ trivial
 ·have hin : i < n := by simpa using ht
  have hget : ((markI k n).map encI)[i]? = some (encI ((k + i : Nat) : Int)) := by rw [List.getElem?_map, markI_get hin]; rfl
  refine nd ?_
  refine Row.mk _ hget ?_
  refine Split.mk fun t ht => ?_
  cases t
  ·refine Num.mk _ (wrapS (by omega)) ?_
   refine Num.mk _ (wrapS (by omega)) ?_
   exact ⟨n - (i + 1), _, by omega, Weak.nrm [true, true, false, false, false, true] [] rfl rfl rfl, i + 1, by omega, rfl, rfl⟩
  ·simp at ht
theorem laws_heldTree (t : Tre) (k : Nat) (hk : posT k t ≤ 4611686018427387904) : AFn Tryz.prog 25 [.agg ((mkT k t).enc.map .c), av (.int .i64 k)] [] (.one (vi (posT k t : Nat))) [] := by
 refine AFn.introX (E := En 0 md0) (en_ok 0 md0) Tryz.func25 rfl rfl rfl fun _ hs => ?_
 have h1 := posL_le t.levels (k + 5 * t.mem.length)
 unfold posT at hk
 refine ACall.mk _ _ (laws_heldEntryS k t.mem.length (by omega)) ?_
 refine Split.mk fun b hb => ?_
 cases b
 ·refine ACall.mk _ _ (laws_heldRunSS t.levels (k + 5 * t.mem.length) (by omega)) ?_
  refine Split.mk fun b hb => ?_
  cases b
  ·refine ACall.mk _ _ (laws_heldIntS (posL (k + 5 * t.mem.length) t.levels) t.snaps.length (by omega)) ?_
   refine Split.mk fun b hb => ?_
   cases b
   ·exact Need.mk ⟨[], _, .same, rfl, rfl⟩ trivial
   ·simp at hb <;> omega
  ·simp at hb <;> omega
 ·simp at hb <;> omega
theorem laws_FnExactTreeCompact (a : Tre) (lv : Int) (pick : Int) (ha : a.Ok) : AFn Tryz.prog 5 [.agg (a.enc.map .c), av (.int .i64 lv), av (.int .i64 pick)] [] (rb true) [] := by
 have hSz := laws_szTree a 1048576 ha (Nat.le_refl _)
 by_cases hsz1 : a.size ≤ 1048576
 ·rw [cut_pos hsz1] at hSz
  have sa : a.Small := Tre.small hsz1
  have hT := laws_toTree a sa
  have hS := spec_TreeCompact a lv pick ha sa
  have hI := impl_TreeCompact a lv pick ha sa
  have hE := laws_eqTree a a
  rw [decide_eq_true rfl] at hE
  have hpx : posT 1 (treeDo a (compactD lv pick)).1 ≤ 6000000 := pos_TreeCompact a lv pick hsz1
  have hpa : posT 1 a ≤ 6000000 := posT_sz hsz1
  have hex : ∃ x, treeDo a (compactD lv pick) = x := ⟨_, rfl⟩
  obtain ⟨⟨x, ok⟩, hx⟩ := hex
  rw [hx] at hS hI hpx
  have hE2 := laws_eqTree x x
  rw [decide_eq_true rfl] at hE2
  have hM := laws_markTree a 1 (Nat.le_trans hpa (by decide))
  have hM2 := laws_markTree x 1 (Nat.le_trans hpx (by decide))
  have hH := laws_heldTree x 1 (Nat.le_trans hpx (by decide))
  have hex := exq (posT 1 a)
  obtain ⟨p, hp⟩ := hex
  rw [hp] at hM hpa
  have hex := exq (posT 1 x)
  obtain ⟨p2, hp2⟩ := hex
  rw [hp2] at hM2 hpx hH
  have hex := exq (mkT 1 a)
  obtain ⟨a2, ha2⟩ := hex
  rw [ha2] at hM
  have hex := exq (mkT 1 x)
  obtain ⟨x2, hx2⟩ := hex
  rw [hx2] at hM2 hH
  have hsq : x2.seq = x.seq := by rw [← hx2]; rfl
  have hH2 : AFn Tryz.prog 25 [.agg [.c (vi x.seq), .c (.sl (x2.mem.map Ent.enc)), .c (.sl (x2.levels.map encL)), .c (.sl (x2.snaps.map encI))], av (.int .i64 (1 : Nat))] [] (.one (vi (p2 : Nat))) [] := by rw [← hsq]; exact hH
  cases ok with
  | false =>
   refine AFn.introX (E := En 0 (mdv [23] [])) (en_ok 0 _) Tryz.func5 rfl rfl rfl fun _ _ => ?_
   refine ACall.mk _ _ hSz ?_
   refine sp0 ?_
   refine ACall.mk _ _ hT ?_
   refine Fz.mk _ (frzE _) ?_
   refine Fz.mk _ (frzRR _) ?_
   refine Fz.mk _ (frzI _) ?_
   refine ACall.mk _ _ hS ?_
   refine Need.mk (⟨ClL.mem (.v (.us (clE _) (.us (clLO _) (.us (clI _) (.v .nil))))), no_objs⟩) ?_
   refine sp0 ?_
   refine ACall.mk _ _ hT ?_
   refine Fz.mk _ (frzE _) ?_
   refine Fz.mk _ (frzRR _) ?_
   refine Fz.mk _ (frzI _) ?_
   refine ACall.mk _ _ hI ?_
   refine Need.mk (⟨ClL.mem (.v (.us (clE _) (.us (clLO _) (.us (clI _) (.v .nil))))), no_objs⟩) ?_
   refine sp0 ?_
   refine Fz.mk _ (frzE _) ?_
   refine Fz.mk _ (frzRR _) ?_
   refine Fz.mk _ (frzI _) ?_
   refine Fz.mk _ (frzE _) ?_
   refine Fz.mk _ (frzRR _) ?_
   refine Fz.mk _ (frzI _) ?_
   refine ACall.mk _ _ hE2 ?_
   refine Need.mk (⟨ClL.mem (.v .nil), no_objs⟩) ?_
   refine sp1 ?_
   refine sp0 ?_
   refine ACall.mk _ _ hT ?_
   refine Fz.mk _ (frzE _) ?_
   refine Fz.mk _ (frzRR _) ?_
   refine Fz.mk _ (frzI _) ?_
   refine Fz.mk _ (frzE _) ?_
   refine Fz.mk _ (frzRR _) ?_
   refine Fz.mk _ (frzI _) ?_
   refine ACall.mk _ _ hE ?_
   refine Need.mk (⟨ClL.mem (.v .nil), no_objs⟩) ?_
   refine sp1 ?_
   refine Need.mk (rfl) ?_
   refine ACall.mk _ _ hM ?_
   refine sp0 ?_
   refine Fz.mk _ (frzE _) ?_
   refine Fz.mk _ (frzRR _) ?_
   refine Fz.mk _ (frzI _) ?_
   refine Fz.mk _ (frzE _) ?_
   refine Fz.mk _ (frzRR _) ?_
   refine Fz.mk _ (frzI _) ?_
   refine ACall.mk _ _ hE2 ?_
   refine Need.mk (⟨ClL.mem (.v .nil), no_objs⟩) ?_
   refine sp1 ?_
   refine sp0 ?_
   refine ACall.mk _ _ hM2 ?_
   refine Fz.mk _ (frzE _) ?_
   refine Fz.mk _ (frzRR _) ?_
   refine Fz.mk _ (frzI _) ?_
   refine ACall.mk _ _ hH2 ?_
   refine Need.mk (⟨ClL.mem (.v .nil), no_objs⟩) ?_
   refine sp0 ?_
   refine Split.mk fun t h11 => ?_
   cases t
   case true => (exfalso; rw [bne_iff_ne] at h11; omega)
   rw [bne_eq_false_iff_eq] at h11
   refine ACall.mk _ _ hT ?_
   refine Fz.mk _ (frzE _) ?_
   refine Fz.mk _ (frzRR _) ?_
   refine Fz.mk _ (frzI _) ?_
   refine ACall.mk _ _ hI ?_
   refine Need.mk (⟨ClL.mem (.v (.us (clE _) (.us (clLO _) (.us (clI _) (.v .nil))))), no_objs⟩) ?_
   refine sp0 ?_
   refine Fz.mk _ (frzE _) ?_
   refine Fz.mk _ (frzRR _) ?_
   refine Fz.mk _ (frzI _) ?_
   refine Fz.mk _ (frzE _) ?_
   refine Fz.mk _ (frzRR _) ?_
   refine Fz.mk _ (frzI _) ?_
   refine ACall.mk _ _ hE2 ?_
   refine Need.mk (⟨ClL.mem (.v .nil), no_objs⟩) ?_
   refine sp1 ?_
   refine sp0 ?_
   refine Fz.mk _ (frzE _) ?_
   refine Fz.mk _ (frzRR _) ?_
   refine Fz.mk _ (frzI _) ?_
   refine ACall.mk _ _ hH2 ?_
   refine Need.mk (⟨ClL.mem (.v .nil), no_objs⟩) ?_
   refine sp0 ?_
   refine Split.mk fun t h16 => ?_
   cases t
   case true => (exfalso; rw [bne_iff_ne] at h16; omega)
   rw [bne_eq_false_iff_eq] at h16
   exact Need.mk ⟨[], _, .same, rfl, rfl⟩ trivial
  | true =>
   refine AFn.introX (E := En 0 (mdv [23] [])) (en_ok 0 _) Tryz.func5 rfl rfl rfl fun _ _ => ?_
   refine ACall.mk _ _ hSz ?_
   refine sp0 ?_
   refine ACall.mk _ _ hT ?_
   refine Fz.mk _ (frzE _) ?_
   refine Fz.mk _ (frzRR _) ?_
   refine Fz.mk _ (frzI _) ?_
   refine ACall.mk _ _ hS ?_
   refine Need.mk (⟨ClL.mem (.v (.us (clE _) (.us (clLO _) (.us (clI _) (.v .nil))))), no_objs⟩) ?_
   refine sp1 ?_
   refine ACall.mk _ _ hT ?_
   refine Fz.mk _ (frzE _) ?_
   refine Fz.mk _ (frzRR _) ?_
   refine Fz.mk _ (frzI _) ?_
   refine ACall.mk _ _ hI ?_
   refine Need.mk (⟨ClL.mem (.v (.us (clE _) (.us (clLO _) (.us (clI _) (.v .nil))))), no_objs⟩) ?_
   refine sp1 ?_
   refine Fz.mk _ (frzE _) ?_
   refine Fz.mk _ (frzRR _) ?_
   refine Fz.mk _ (frzI _) ?_
   refine Fz.mk _ (frzE _) ?_
   refine Fz.mk _ (frzRR _) ?_
   refine Fz.mk _ (frzI _) ?_
   refine ACall.mk _ _ hE2 ?_
   refine Need.mk (⟨ClL.mem (.v .nil), no_objs⟩) ?_
   refine sp1 ?_
   refine sp0 ?_
   refine ACall.mk _ _ hT ?_
   refine Fz.mk _ (frzE _) ?_
   refine Fz.mk _ (frzRR _) ?_
   refine Fz.mk _ (frzI _) ?_
   refine Fz.mk _ (frzE _) ?_
   refine Fz.mk _ (frzRR _) ?_
   refine Fz.mk _ (frzI _) ?_
   refine ACall.mk _ _ hE ?_
   refine Need.mk (⟨ClL.mem (.v .nil), no_objs⟩) ?_
   refine sp1 ?_
   refine Need.mk (rfl) ?_
   refine ACall.mk _ _ hM ?_
   refine sp0 ?_
   refine Fz.mk _ (frzE _) ?_
   refine Fz.mk _ (frzRR _) ?_
   refine Fz.mk _ (frzI _) ?_
   refine Fz.mk _ (frzE _) ?_
   refine Fz.mk _ (frzRR _) ?_
   refine Fz.mk _ (frzI _) ?_
   refine ACall.mk _ _ hE2 ?_
   refine Need.mk (⟨ClL.mem (.v .nil), no_objs⟩) ?_
   refine sp1 ?_
   refine sp0 ?_
   refine ACall.mk _ _ hM2 ?_
   refine Fz.mk _ (frzE _) ?_
   refine Fz.mk _ (frzRR _) ?_
   refine Fz.mk _ (frzI _) ?_
   refine ACall.mk _ _ hH2 ?_
   refine Need.mk (⟨ClL.mem (.v .nil), no_objs⟩) ?_
   refine sp0 ?_
   refine Split.mk fun t h11 => ?_
   cases t
   case true => (exfalso; rw [bne_iff_ne] at h11; omega)
   rw [bne_eq_false_iff_eq] at h11
   refine ACall.mk _ _ hT ?_
   refine Fz.mk _ (frzE _) ?_
   refine Fz.mk _ (frzRR _) ?_
   refine Fz.mk _ (frzI _) ?_
   refine ACall.mk _ _ hI ?_
   refine Need.mk (⟨ClL.mem (.v (.us (clE _) (.us (clLO _) (.us (clI _) (.v .nil))))), no_objs⟩) ?_
   refine sp1 ?_
   refine Fz.mk _ (frzE _) ?_
   refine Fz.mk _ (frzRR _) ?_
   refine Fz.mk _ (frzI _) ?_
   refine Fz.mk _ (frzE _) ?_
   refine Fz.mk _ (frzRR _) ?_
   refine Fz.mk _ (frzI _) ?_
   refine ACall.mk _ _ hE2 ?_
   refine Need.mk (⟨ClL.mem (.v .nil), no_objs⟩) ?_
   refine sp1 ?_
   refine sp0 ?_
   refine Fz.mk _ (frzE _) ?_
   refine Fz.mk _ (frzRR _) ?_
   refine Fz.mk _ (frzI _) ?_
   refine ACall.mk _ _ hH2 ?_
   refine Need.mk (⟨ClL.mem (.v .nil), no_objs⟩) ?_
   refine sp0 ?_
   refine Split.mk fun t h16 => ?_
   cases t
   case true => (exfalso; rw [bne_iff_ne] at h16; omega)
   rw [bne_eq_false_iff_eq] at h16
   exact Need.mk ⟨[], _, .same, rfl, rfl⟩ trivial
 ·rw [cut_neg hsz1] at hSz
  refine AFn.introX (E := En 0 (mdv [23] [])) (en_ok 0 _) Tryz.func5 rfl rfl rfl fun _ _ => ?_
  refine ACall.mk _ _ hSz ?_
  refine sp1 ?_
  exact Need.mk ⟨[], _, .same, rfl, rfl⟩ trivial
theorem laws_FnExactTreeCompact_any (r0 : List C) (h0 : ShL tyTre r0) (c1 : C) (h1 : Sh (.int .i64) c1) (c2 : C) (h2 : Sh (.int .i64) c2) : AFn Tryz.prog 5 [.agg (r0.map .c), .one (.c c1), .one (.c c2)] [] (rb true) [] := by
 obtain ⟨a, rfl, wa⟩ := dec_tre h0
 obtain ⟨n1, rfl, _⟩ := h1.int'
 obtain ⟨n2, rfl, _⟩ := h2.int'
 exact laws_FnExactTreeCompact a n1 n2 wa.ok
end Go.Proofs.YtcnongahanmclaaGreat
