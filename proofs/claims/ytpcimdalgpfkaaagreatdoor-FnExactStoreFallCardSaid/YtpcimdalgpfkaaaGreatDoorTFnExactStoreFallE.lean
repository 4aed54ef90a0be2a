/-
  Contracts of functions, part 5.
-/
import Derived.Test.YtpcimdalgpfkaaaGreatDoorTFnExactStoreFallD
set_option linter.unusedVariables false
set_option linter.unusedSimpArgs false
namespace Go.Proofs.YtpcimdalgpfkaaaGreatDoor
open Go Go.Proofs Ev
set_option maxRecDepth 100000
set_option maxHeartbeats 40000000
set_option linter.unusedSimpArgs false
set_option linter.unusedVariables false
theorem impl_treeCopy (t : Tre) (ht : t.Small) : AFn Tryz.prog 125 [.agg (t.enc.map .c)] [] (.agg (encTO t)) [] := by
 have h1 := ht.1
 have h2 := ht.2.2.2
 have hL := impl_levelsCopy t.levels ht.2.1 ht.2.2.1
 refine AFn.introX (E := En 0 md0) (en_ok 0 _) Tryz.func125 rfl rfl rfl fun _ _ => ?_
 refine Need.mk (⟨(plainE _), (lenE _)⟩) ?_
 refine apq (A' := []) (B' := _) rfl rfl ?_
 refine ACall.mk _ _ hL ?_
 refine Need.mk (⟨(plainI _), (lenI _)⟩) ?_
 refine apq (A' := []) (B' := _) rfl rfl ?_
 refine Need.mk (rfl) ?_
 exact Need.mk ⟨[], _, .same, rfl, rfl⟩ trivial
theorem spec_l5Copy (t : Tre) (ht : t.Small) : AFn Tryz.prog 69 [.agg (t.enc.map .c)] [] (.agg (encTO t)) [] := by
 have h1 := ht.1
 have h2 := ht.2.2.2
 have hL := spec_l5CopyLevels t.levels ht.2.1 ht.2.2.1
 refine AFn.introX (E := En 0 md0) (en_ok 0 _) Tryz.func69 rfl rfl rfl fun _ _ => ?_
 refine Need.mk (⟨(plainE _), (lenE _)⟩) ?_
 refine apq (A' := []) (B' := _) rfl rfl ?_
 refine ACall.mk _ _ hL ?_
 refine Need.mk (⟨(plainI _), (lenI _)⟩) ?_
 refine apq (A' := []) (B' := _) rfl rfl ?_
 refine Need.mk (rfl) ?_
 exact Need.mk ⟨[], _, .same, rfl, rfl⟩ trivial
theorem laws_toEntry (e : Ent) : AFn Tryz.prog 123 [.agg (e.enc.map .c)] [] (.agg e.enc) [] := by
 refine AFn.introX (E := En 0 md0) (en_ok 0 md0) Tryz.func123 rfl rfl rfl fun _ _ => ?_
 exact Need.mk ⟨[], _, .same, rfl, rfl⟩ trivial
theorem laws_toEntryS (xs : List Ent) (hx : xs.length ≤ 1048576) : AFn Tryz.prog 73 [sl (xs.map Ent.enc)] [] (.one (.us 83 (xs.map Ent.enc))) [] := by
 refine AFn.introX (E := En 0 md0) (en_ok 0 md0) Tryz.func73 rfl rfl rfl fun _ _ => ?_
 have hn : (xs.map Ent.enc).length = xs.length := List.length_map ..
 refine Need.mk ⟨by omega, by omega, by simp only [hn]; omega, by omega⟩ ?_
 let S : List (List C) → Nat → St := fun rows i => ⟨some (sl (xs.map Ent.enc)) :: none :: none :: some (.one (.ref 3 0 (.cell 0))) :: some (av (.int .i64 i)) :: List.replicate 18 none, absent :: absent :: absent :: ⟨0, 1, some [.us 83 rows]⟩ :: List.replicate 19 absent⟩
 refine ALoop.mk (fun m s => ∃ i : Nat, i ≤ xs.length ∧ m = xs.length - i ∧ s = S ((xs.take i ++ List.replicate (xs.length - i) ent0).map Ent.enc) i)
  ⟨xs.length, _, Weak.nrm [true, false, false, true, true] [(7, 3)] rfl rfl rfl, 0, Nat.zero_le _, rfl, ?_⟩ ?_
 ·refine Eq.trans (b := S (List.replicate (xs.map Ent.enc).length (Ent.enc ent0)) 0) rfl ?_
  rw [hn, List.take_zero, List.nil_append, List.map_replicate, Nat.sub_zero]
 rintro m s ⟨i, hi, rfl, rfl⟩
 refine Split.mk fun t ht => ?_
 rw [hn] at ht
 cases t
 ·have hin : i = xs.length := by simp at ht; omega
  subst hin
  refine Need.mk ⟨[], _, .same, ?_, rfl⟩ trivial
  rw [List.take_length, Nat.sub_self, List.replicate_zero, List.append_nil]; rfl
 ·have hia : i < xs.length := by simpa using ht
  refine nd ?_
  refine Row.mk _ (map_get _ xs i hia) ?_
  refine ACall.mk _ _ (laws_toEntry xs[i]) ?_
  refine Need.mk ⟨by omega, by rw [List.length_map, to_len _ _ hi]; omega⟩ ?_
  refine Row.mk _ (to_get _ xs ent0 hia) ?_
  refine Num.mk _ (wrapS (by omega)) ?_
  refine ⟨xs.length - (i + 1), _, by omega, Weak.nrm [true, false, false, true, true] [(3, 3)] rfl rfl rfl, i + 1, by omega, rfl, ?_⟩
  refine Eq.trans (b := S (((xs.take i ++ List.replicate (xs.length - i) ent0).map Ent.enc).set i (Ent.enc xs[i])) (i + 1)) rfl ?_
  rw [← List.map_set, to_step xs ent0 hia]
theorem laws_toRun (r : Rn) (hr : r.ents.length ≤ 1048576) : AFn Tryz.prog 169 [.agg (r.enc.map .c)] [] (.agg (encO r)) [] := by
 refine AFn.introX (E := En 0 md0) (en_ok 0 md0) Tryz.func169 rfl rfl rfl fun _ _ => ?_
 refine ACall.mk _ _ (laws_toEntryS r.ents hr) ?_
 exact Need.mk ⟨[], _, .same, rfl, rfl⟩ trivial
theorem laws_toRunS (xs : List Rn) (hx : xs.length ≤ 1048576) (hr : ∀ r ∈ xs, r.ents.length ≤ 1048576) : AFn Tryz.prog 124 [sl (xs.map Rn.enc)] [] (.one (.us 113 (xs.map encO))) [] := by
 refine AFn.introX (E := En 0 md0) (en_ok 0 md0) Tryz.func124 rfl rfl rfl fun _ _ => ?_
 have hn : (xs.map Rn.enc).length = xs.length := List.length_map ..
 refine Need.mk ⟨by omega, by omega, by simp only [hn]; omega, by omega⟩ ?_
 let S : List (List C) → Nat → St := fun rows i => ⟨some (sl (xs.map Rn.enc)) :: none :: none :: some (.one (.ref 3 0 (.cell 0))) :: some (av (.int .i64 i)) :: List.replicate 18 none, absent :: absent :: absent :: ⟨0, 1, some [.us 113 rows]⟩ :: List.replicate 19 absent⟩
 refine ALoop.mk (fun m s => ∃ i : Nat, i ≤ xs.length ∧ m = xs.length - i ∧ s = S ((xs.take i ++ List.replicate (xs.length - i) (⟨[], 0⟩ : Rn)).map encO) i)
  ⟨xs.length, _, Weak.nrm [true, false, false, true, true] [(7, 3)] rfl rfl rfl, 0, Nat.zero_le _, rfl, ?_⟩ ?_
 ·refine Eq.trans (b := S (List.replicate (xs.map Rn.enc).length (encO (⟨[], 0⟩ : Rn))) 0) rfl ?_
  rw [hn, List.take_zero, List.nil_append, List.map_replicate, Nat.sub_zero]
 rintro m s ⟨i, hi, rfl, rfl⟩
 refine Split.mk fun t ht => ?_
 rw [hn] at ht
 cases t
 ·have hin : i = xs.length := by simp at ht; omega
  subst hin
  refine Need.mk ⟨[], _, .same, ?_, rfl⟩ trivial
  rw [List.take_length, Nat.sub_self, List.replicate_zero, List.append_nil]; rfl
 ·have hia : i < xs.length := by simpa using ht
  refine nd ?_
  refine Row.mk _ (map_get _ xs i hia) ?_
  refine ACall.mk _ _ (laws_toRun xs[i] (hr _ (List.getElem_mem _))) ?_
  refine Need.mk ⟨by omega, by rw [List.length_map, to_len _ _ hi]; omega⟩ ?_
  refine Row.mk _ (to_get _ xs (⟨[], 0⟩ : Rn) hia) ?_
  refine Num.mk _ (wrapS (by omega)) ?_
  refine ⟨xs.length - (i + 1), _, by omega, Weak.nrm [true, false, false, true, true] [(3, 3)] rfl rfl rfl, i + 1, by omega, rfl, ?_⟩
  refine Eq.trans (b := S (((xs.take i ++ List.replicate (xs.length - i) (⟨[], 0⟩ : Rn)).map encO).set i (encO xs[i])) (i + 1)) rfl ?_
  rw [← List.map_set, to_step xs (⟨[], 0⟩ : Rn) hia]
theorem laws_toRunSS (xs : List (List Rn)) (hx : xs.length ≤ 1048576) (hr : ∀ l ∈ xs, l.length ≤ 1048576 ∧ ∀ r ∈ l, r.ents.length ≤ 1048576) : AFn Tryz.prog 74 [sl (xs.map encL)] [] (.one (.us 110 (xs.map encLO))) [] := by
 refine AFn.introX (E := En 0 md0) (en_ok 0 md0) Tryz.func74 rfl rfl rfl fun _ _ => ?_
 have hn : (xs.map encL).length = xs.length := List.length_map ..
 refine Need.mk ⟨by omega, by omega, by simp only [hn]; omega, by omega⟩ ?_
 let S : List (List C) → Nat → St := fun rows i => ⟨some (sl (xs.map encL)) :: none :: none :: some (.one (.ref 3 0 (.cell 0))) :: some (av (.int .i64 i)) :: List.replicate 18 none, absent :: absent :: absent :: ⟨0, 1, some [.us 110 rows]⟩ :: List.replicate 19 absent⟩
 refine ALoop.mk (fun m s => ∃ i : Nat, i ≤ xs.length ∧ m = xs.length - i ∧ s = S ((xs.take i ++ List.replicate (xs.length - i) ([] : List Rn)).map encLO) i)
  ⟨xs.length, _, Weak.nrm [true, false, false, true, true] [(7, 3)] rfl rfl rfl, 0, Nat.zero_le _, rfl, ?_⟩ ?_
 ·refine Eq.trans (b := S (List.replicate (xs.map encL).length (encLO ([] : List Rn))) 0) rfl ?_
  rw [hn, List.take_zero, List.nil_append, List.map_replicate, Nat.sub_zero]
 rintro m s ⟨i, hi, rfl, rfl⟩
 refine Split.mk fun t ht => ?_
 rw [hn] at ht
 cases t
 ·have hin : i = xs.length := by simp at ht; omega
  subst hin
  refine Need.mk ⟨[], _, .same, ?_, rfl⟩ trivial
  rw [List.take_length, Nat.sub_self, List.replicate_zero, List.append_nil]; rfl
 ·have hia : i < xs.length := by simpa using ht
  refine nd ?_
  refine Row.mk _ (map_get _ xs i hia) ?_
  refine ACall.mk _ _ (laws_toRunS xs[i] (hr _ (List.getElem_mem _)).1 (hr _ (List.getElem_mem _)).2) ?_
  refine Need.mk ⟨by omega, by rw [List.length_map, to_len _ _ hi]; omega⟩ ?_
  refine Row.mk _ (to_get _ xs ([] : List Rn) hia) ?_
  refine Num.mk _ (wrapS (by omega)) ?_
  refine ⟨xs.length - (i + 1), _, by omega, Weak.nrm [true, false, false, true, true] [(3, 3)] rfl rfl rfl, i + 1, by omega, rfl, ?_⟩
  refine Eq.trans (b := S (((xs.take i ++ List.replicate (xs.length - i) ([] : List Rn)).map encLO).set i (encLO xs[i])) (i + 1)) rfl ?_
  rw [← List.map_set, to_step xs ([] : List Rn) hia]
theorem laws_toIntS (xs : List Int) (hx : xs.length ≤ 1048576) : AFn Tryz.prog 75 [sl (xs.map encI)] [] (.one (.us 3 (xs.map encI))) [] := by
 refine AFn.introX (E := En 0 md0) (en_ok 0 md0) Tryz.func75 rfl rfl rfl fun _ _ => ?_
 have hn : (xs.map encI).length = xs.length := List.length_map ..
 refine Need.mk ⟨by omega, by omega, by simp only [hn]; omega, by omega⟩ ?_
 let S : List (List C) → Nat → St := fun rows i => ⟨some (sl (xs.map encI)) :: none :: none :: some (.one (.ref 3 0 (.cell 0))) :: some (av (.int .i64 i)) :: List.replicate 17 none, absent :: absent :: absent :: ⟨0, 1, some [.us 3 rows]⟩ :: List.replicate 18 absent⟩
 refine ALoop.mk (fun m s => ∃ i : Nat, i ≤ xs.length ∧ m = xs.length - i ∧ s = S ((xs.take i ++ List.replicate (xs.length - i) (0 : Int)).map encI) i)
  ⟨xs.length, _, Weak.nrm [true, false, false, true, true] [(7, 3)] rfl rfl rfl, 0, Nat.zero_le _, rfl, ?_⟩ ?_
 ·refine Eq.trans (b := S (List.replicate (xs.map encI).length (encI (0 : Int))) 0) rfl ?_
  rw [hn, List.take_zero, List.nil_append, List.map_replicate, Nat.sub_zero]
 rintro m s ⟨i, hi, rfl, rfl⟩
 refine Split.mk fun t ht => ?_
 rw [hn] at ht
 cases t
 ·have hin : i = xs.length := by simp at ht; omega
  subst hin
  refine Need.mk ⟨[], _, .same, ?_, rfl⟩ trivial
  rw [List.take_length, Nat.sub_self, List.replicate_zero, List.append_nil]; rfl
 ·have hia : i < xs.length := by simpa using ht
  refine nd ?_
  refine Row.mk _ (map_get _ xs i hia) ?_
  refine Need.mk ⟨by omega, by rw [List.length_map, to_len _ _ hi]; omega⟩ ?_
  refine Row.mk _ (to_get _ xs (0 : Int) hia) ?_
  refine Num.mk _ (wrapS (by omega)) ?_
  refine ⟨xs.length - (i + 1), _, by omega, Weak.nrm [true, false, false, true, true] [(3, 3)] rfl rfl rfl, i + 1, by omega, rfl, ?_⟩
  refine Eq.trans (b := S (((xs.take i ++ List.replicate (xs.length - i) (0 : Int)).map encI).set i (encI xs[i])) (i + 1)) rfl ?_
  rw [← List.map_set, to_step xs (0 : Int) hia]
theorem laws_toTree (t : Tre) (ht : Tre.Small t) : AFn Tryz.prog 33 [.agg (t.enc.map .c)] [] (.agg (encTO t)) [] := by
 refine AFn.introX (E := En 0 md0) (en_ok 0 md0) Tryz.func33 rfl rfl rfl fun _ _ => ?_
 refine ACall.mk _ _ (laws_toEntryS t.mem ht.1) ?_
 refine ACall.mk _ _ (laws_toRunSS t.levels ht.2.1 ht.2.2.1) ?_
 refine ACall.mk _ _ (laws_toIntS t.snaps ht.2.2.2) ?_
 exact Need.mk ⟨[], _, .same, rfl, rfl⟩ trivial
def encDO (d : Dsk) : List C := [vs d.log, vi d.safe, .us 110 (d.levels.map encLO), vi d.seq]
def encSO (s : Sto) : List C := [vb s.up, vi s.tree.seq, .us 83 (s.tree.mem.map Ent.enc), .us 110 (s.tree.levels.map encLO), .us 3 (s.tree.snaps.map encI), vs s.disk.log, vi s.disk.safe, .us 110 (s.disk.levels.map encLO), vi s.disk.seq]
theorem laws_toDisk (d : Dsk) (hd : Dsk.Small d) : AFn Tryz.prog 34 [.agg (d.enc.map .c)] [] (.agg (encDO d)) [] := by
 refine AFn.introX (E := En 0 md0) (en_ok 0 md0) Tryz.func34 rfl rfl rfl fun _ _ => ?_
 refine ACall.mk _ _ (laws_toRunSS d.levels hd.1 hd.2) ?_
 exact Need.mk ⟨[], _, .same, rfl, rfl⟩ trivial
theorem laws_toStore (s : Sto) (ht : Tre.Small s.tree) (hd : Dsk.Small s.disk) : AFn Tryz.prog 11 [.agg (s.enc.map .c)] [] (.agg (encSO s)) [] := by
 refine AFn.introX (E := En 0 md0) (en_ok 0 md0) Tryz.func11 rfl rfl rfl fun _ _ => ?_
 refine ACall.mk _ _ (laws_toTree s.tree ht) ?_
 refine ACall.mk _ _ (laws_toDisk s.disk hd) ?_
 exact Need.mk ⟨[], _, .same, rfl, rfl⟩ trivial
theorem impl_storeCopy (s : Sto) (ht : s.tree.Small) (hd : s.disk.Small) : AFn Tryz.prog 76 [.agg (s.enc.map .c)] [] (.agg (encSO s)) [] := by
 have hT := impl_treeCopy s.tree ht
 have hL := impl_levelsCopy s.disk.levels hd.1 hd.2
 refine AFn.introX (E := En 0 md0) (en_ok 0 _) Tryz.func76 rfl rfl rfl fun _ _ => ?_
 refine ACall.mk _ _ hT ?_
 refine ACall.mk _ _ hL ?_
 exact Need.mk ⟨[], _, .same, rfl, rfl⟩ trivial
theorem spec_l6CopyU (s : Sto) (hu : s.up = true) (ht : s.tree.Small) (hd : s.disk.Small) : AFn Tryz.prog 31 [.agg (s.enc.map .c)] [] (.agg (encSO s)) [] := by
 have hT := spec_l5Copy s.tree ht
 have hL := spec_l5CopyLevels s.disk.levels hd.1 hd.2
 obtain ⟨up, tree, disk⟩ := s
 simp only at hu hT hL
 subst hu
 refine AFn.introX (E := En 0 md0) (en_ok 0 _) Tryz.func31 rfl rfl rfl fun _ _ => ?_
 refine ACall.mk _ _ hT ?_
 refine ACall.mk _ _ hL ?_
 exact Need.mk ⟨[], _, .same, rfl, rfl⟩ trivial
theorem spec_l6CopyD (s : Sto) (hu : s.up = false) (ht : s.tree.Small) (hd : s.disk.Small) : AFn Tryz.prog 31 [.agg (s.enc.map .c)] [] (.agg (encSO { s with tree := tre00 })) [] := by
 have hT := spec_l5Copy s.tree ht
 have hL := spec_l5CopyLevels s.disk.levels hd.1 hd.2
 obtain ⟨up, tree, disk⟩ := s
 simp only at hu hT hL
 subst hu
 refine AFn.introX (E := En 0 md0) (en_ok 0 _) Tryz.func31 rfl rfl rfl fun _ _ => ?_
 refine ACall.mk _ _ hT ?_
 refine ACall.mk _ _ hL ?_
 exact Need.mk ⟨[], _, .same, rfl, rfl⟩ trivial
theorem spec_l4Same (a b : List Ent) : AFn Tryz.prog 112 [sl (a.map Ent.enc), sl (b.map Ent.enc)] [] (rb (decide (a = b))) [] := by
 refine AFn.introX (E := En 0 md0) (en_ok 0 md0) Tryz.func112 rfl rfl rfl fun hs _ => ?_
 have ha := Small.len (hs _ (List.mem_cons_self ..))
 rw [List.length_map] at ha
 have fin : ∀ {c : Bool}, c = decide (a = b) → rb c = rb (decide (a = b)) := fun h => by rw [h]
 refine Split.mk fun t ht => ?_
 cases t
 ·have hl : a.length = b.length := Int.ofNat_inj.1 (by simpa using ht)
  refine ALoop.mk (fun n s => ∃ i : Nat, i ≤ a.length ∧ n = a.length - i ∧ a.take i = b.take i ∧
   s = ⟨some (sl (a.map Ent.enc)) :: some (sl (b.map Ent.enc)) :: none :: none :: some (av (.bool false)) :: some (av (.int .i64 i)) :: List.replicate 20 none, List.replicate 26 absent⟩)
   ⟨a.length, _, Weak.nrm [true, true, false, false, true, true] [] rfl rfl rfl, 0, Nat.zero_le _, rfl, rfl, rfl⟩ ?_
  rintro n s ⟨i, hi, rfl, hp, rfl⟩
  refine Split.mk fun t ht => ?_
  cases t
  ·have hia : i = a.length := by simp at ht; omega
   refine Need.mk ⟨[], _, .same, fin ?_, rfl⟩ trivial
   subst hia
   rw [List.take_length, hl, List.take_length] at hp
   simp [hp]
  ·have hia : i < a.length := by simpa using ht
   refine nd ?_
   refine Row.mk _ (map_get _ a i hia) ?_
   refine nd ?_
   refine Row.mk _ (map_get _ b i (by omega)) ?_
   refine Split.mk fun t ht2 => ?_
   have ht2 : (!decide (a[i] = b[i]'(by omega))) = t := by rw [← ent_beq]; exact ht2
   cases t
   ·refine Need.mk rfl ?_
    refine Num.mk _ (wrapS (by omega)) ?_
    refine ⟨a.length - (i + 1), _, by omega, Weak.nrm [true, true, false, false, true, true] [] rfl rfl rfl, i + 1, by omega, rfl, ?_, rfl⟩
    have : a[i] = b[i]'(by omega) := by simpa using ht2
    rw [List.take_succ_eq_append_getElem hia, List.take_succ_eq_append_getElem (by omega), hp, this]
   ·refine Need.mk rfl ?_
    refine Need.mk ⟨[], _, .same, fin ?_, rfl⟩ trivial
    have : a[i] ≠ b[i]'(by omega) := by simpa using ht2
    refine (decide_eq_false fun e => this ?_).symm
    subst e; rfl
 ·refine Need.mk ⟨[], _, .same, fin ?_, rfl⟩ trivial
  have : a.length ≠ b.length := by
   intro e; simp [e] at ht
  exact (decide_eq_false fun e => this (by rw [e])).symm
theorem spec_l5Ints (a b : List Int) : AFn Tryz.prog 113 [sl (a.map encI), sl (b.map encI)] [] (rb (decide (a = b))) [] := by
 refine AFn.introX (E := En 0 md0) (en_ok 0 md0) Tryz.func113 rfl rfl rfl fun hs _ => ?_
 have ha := Small.len (hs _ (List.mem_cons_self ..))
 rw [List.length_map] at ha
 have fin : ∀ {c : Bool}, c = decide (a = b) → rb c = rb (decide (a = b)) := fun h => by rw [h]
 refine Split.mk fun t ht => ?_
 cases t
 ·have hl : a.length = b.length := Int.ofNat_inj.1 (by simpa using ht)
  refine ALoop.mk (fun n s => ∃ i : Nat, i ≤ a.length ∧ n = a.length - i ∧ a.take i = b.take i ∧
   s = ⟨some (sl (a.map encI)) :: some (sl (b.map encI)) :: none :: none :: some (av (.bool false)) :: some (av (.int .i64 i)) :: List.replicate 20 none, List.replicate 26 absent⟩)
   ⟨a.length, _, Weak.nrm [true, true, false, false, true, true] [] rfl rfl rfl, 0, Nat.zero_le _, rfl, rfl, rfl⟩ ?_
  rintro n s ⟨i, hi, rfl, hp, rfl⟩
  refine Split.mk fun t ht => ?_
  cases t
  ·have hia : i = a.length := by simp at ht; omega
   refine Need.mk ⟨[], _, .same, fin ?_, rfl⟩ trivial
   subst hia
   rw [List.take_length, hl, List.take_length] at hp
   simp [hp]
  ·have hia : i < a.length := by simpa using ht
   refine nd ?_
   refine Row.mk _ (map_get _ a i hia) ?_
   refine nd ?_
   refine Row.mk _ (map_get _ b i (by omega)) ?_
   refine Split.mk fun t ht2 => ?_
   have ht2 : (!decide (a[i] = b[i]'(by omega))) = t := by rw [← ht2, bne, Bool.not_inj_iff, Bool.eq_iff_iff]; simp
   cases t
   ·refine Need.mk rfl ?_
    refine Num.mk _ (wrapS (by omega)) ?_
    refine ⟨a.length - (i + 1), _, by omega, Weak.nrm [true, true, false, false, true, true] [] rfl rfl rfl, i + 1, by omega, rfl, ?_, rfl⟩
    have : a[i] = b[i]'(by omega) := by simpa using ht2
    rw [List.take_succ_eq_append_getElem hia, List.take_succ_eq_append_getElem (by omega), hp, this]
   ·refine Need.mk rfl ?_
    refine Need.mk ⟨[], _, .same, fin ?_, rfl⟩ trivial
    have : a[i] ≠ b[i]'(by omega) := by simpa using ht2
    refine (decide_eq_false fun e => this ?_).symm
    subst e; rfl
 ·refine Need.mk ⟨[], _, .same, fin ?_, rfl⟩ trivial
  have : a.length ≠ b.length := by
   intro e; simp [e] at ht
  exact (decide_eq_false fun e => this (by rw [e])).symm
theorem slices_EqualI (a b : List Int) : AFn Tryz.prog 91 [sl (a.map encI), sl (b.map encI)] [] (rb (decide (a = b))) [] := by
 refine AFn.introX (E := En 0 md0) (en_ok 0 md0) Tryz.func91 rfl rfl rfl fun hs _ => ?_
 have ha := Small.len (hs _ (List.mem_cons_self ..))
 rw [List.length_map] at ha
 have fin : ∀ {c : Bool}, c = decide (a = b) → rb c = rb (decide (a = b)) := fun h => by rw [h]
 refine Split.mk fun t ht => ?_
 cases t
 ·have hl : a.length = b.length := Int.ofNat_inj.1 (by simpa using ht)
  refine ALoop.mk (fun n s => ∃ i : Nat, i ≤ a.length ∧ n = a.length - i ∧ a.take i = b.take i ∧
   s = ⟨some (sl (a.map encI)) :: some (sl (b.map encI)) :: none :: none :: some (av (.bool false)) :: none :: none :: none :: none :: none :: none :: none :: some (av (.int .i64 a.length)) :: some (av (.int .i64 i)) :: List.replicate 12 none, List.replicate 26 absent⟩)
   ⟨a.length, _, Weak.nrm [true, true, false, false, true, false, false, false, false, false, false, false, true, true] [] rfl rfl rfl, 0, Nat.zero_le _, rfl, rfl, by rw [show ((a.length : Nat) : Int) = ((a.map encI).length : Nat) by rw [List.length_map]]; rfl⟩ ?_
  rintro n s ⟨i, hi, rfl, hp, rfl⟩
  refine Split.mk fun t ht => ?_
  cases t
  ·have hia : i = a.length := by simp at ht; omega
   refine Need.mk ⟨[], _, .same, fin ?_, rfl⟩ trivial
   subst hia
   rw [List.take_length, hl, List.take_length] at hp
   simp [hp]
  ·have hia : i < a.length := by simpa using ht
   refine nd ?_
   refine Row.mk _ (map_get _ a i hia) ?_
   refine nd ?_
   refine Row.mk _ (map_get _ b i (by omega)) ?_
   refine Split.mk fun t ht2 => ?_
   have ht2 : (!decide (a[i] = b[i]'(by omega))) = t := by rw [← ht2, bne, Bool.not_inj_iff, Bool.eq_iff_iff]; simp
   cases t
   ·refine Need.mk rfl ?_
    refine Num.mk _ (wrapS (by omega)) ?_
    refine ⟨a.length - (i + 1), _, by omega, Weak.nrm [true, true, false, false, true, false, false, false, false, false, false, false, true, true] [] rfl rfl rfl, i + 1, by omega, rfl, ?_, rfl⟩
    have : a[i] = b[i]'(by omega) := by simpa using ht2
    rw [List.take_succ_eq_append_getElem hia, List.take_succ_eq_append_getElem (by omega), hp, this]
   ·refine Need.mk rfl ?_
    refine Need.mk ⟨[], _, .same, fin ?_, rfl⟩ trivial
    have : a[i] ≠ b[i]'(by omega) := by simpa using ht2
    refine (decide_eq_false fun e => this ?_).symm
    subst e; rfl
 ·refine Need.mk ⟨[], _, .same, fin ?_, rfl⟩ trivial
  have : a.length ≠ b.length := by
   intro e; simp [e] at ht
  exact (decide_eq_false fun e => this (by rw [e])).symm
theorem spec_RunSame (a b : Rn) : AFn Tryz.prog 120 [.agg (a.enc.map .c), .agg (b.enc.map .c)] [] (rb (decide (a = b))) [] := by
 refine AFn.introX (E := En 0 md0) (en_ok 0 md0) Tryz.func120 rfl rfl rfl fun _ _ => ?_
 have fin : ∀ {c : Bool}, c = decide (a = b) → rb c = rb (decide (a = b)) := fun h => by rw [h]
 refine Split.mk fun t ht => ?_
 cases t
 ·exact Need.mk ⟨[], _, .same, fin (by cases a; cases b; simp_all), rfl⟩ trivial
 ·refine ACall.mk _ _ (spec_l4Same a.ents b.ents) ?_
  refine Split.mk fun t ht1 => ?_
  exact Need.mk ⟨[], _, .same, fin (by cases a; cases b; simp_all), rfl⟩ trivial
theorem slices_EqualFuncR (a b : List Rn) : AFn Tryz.prog 94 [sl (a.map Rn.enc), sl (b.map Rn.enc), av (.func (.func 95) #[] #[])] [] (rb (decide (a = b))) [] := by
 refine AFn.introX (E := En 0 md0) (en_ok 0 md0) Tryz.func94 rfl rfl rfl fun hs _ => ?_
 have ha := Small.len (hs _ (List.mem_cons_self ..))
 rw [List.length_map] at ha
 have fin : ∀ {c : Bool}, c = decide (a = b) → rb c = rb (decide (a = b)) := fun h => by rw [h]
 refine Split.mk fun t ht => ?_
 cases t
 ·have hl : a.length = b.length := Int.ofNat_inj.1 (by simpa using ht)
  refine ALoop.mk (fun n s => ∃ i : Nat, i ≤ a.length ∧ n = a.length - i ∧ a.take i = b.take i ∧
   s = ⟨some (sl (a.map Rn.enc)) :: some (sl (b.map Rn.enc)) :: some (av (.func (.func 95) #[] #[])) :: none :: none :: none :: some (av (.bool false)) :: none :: none :: none :: none :: none :: none :: none :: none :: some (sl (a.map Rn.enc)) :: some (av (.int .i64 a.length)) :: some (av (.int .i64 i)) :: List.replicate 14 none, List.replicate 32 absent⟩)
   ⟨a.length, _, Weak.nrm [true, true, true, false, false, false, true, false, false, false, false, false, false, false, false, true, true, true] [] rfl rfl rfl, 0, Nat.zero_le _, rfl, rfl, by rw [show ((a.length : Nat) : Int) = ((a.map Rn.enc).length : Nat) by rw [List.length_map]]; rfl⟩ ?_
  rintro n s ⟨i, hi, rfl, hp, rfl⟩
  refine Split.mk fun t ht => ?_
  cases t
  ·have hia : i = a.length := by simp at ht; omega
   refine Need.mk ⟨[], _, .same, fin ?_, rfl⟩ trivial
   subst hia
   rw [List.take_length, hl, List.take_length] at hp
   simp [hp]
  ·have hia : i < a.length := by simpa using ht
   refine nd ?_
   refine Row.mk _ (map_get _ a i hia) ?_
   refine nd ?_
   refine Row.mk _ (map_get _ b i (by omega)) ?_
   refine ACall.mk _ _ (impl_RunSame a[i] (b[i]'(by omega))) ?_
   refine Split.mk fun t ht2 => ?_
   cases t
   ·refine Need.mk ⟨[], _, .same, fin ?_, rfl⟩ trivial
    have : a[i] ≠ b[i]'(by omega) := by simpa using ht2
    refine (decide_eq_false fun e => this ?_).symm
    subst e; rfl
   ·refine Num.mk _ (wrapS (by omega)) ?_
    refine ⟨a.length - (i + 1), _, by omega, Weak.nrm [true, true, true, false, false, false, true, false, false, false, false, false, false, false, false, true, true, true] [] rfl rfl rfl, i + 1, by omega, rfl, ?_, rfl⟩
    have : a[i] = b[i]'(by omega) := by simpa using ht2
    rw [List.take_succ_eq_append_getElem hia, List.take_succ_eq_append_getElem (by omega), hp, this]
 ·refine Need.mk ⟨[], _, .same, fin ?_, rfl⟩ trivial
  have : a.length ≠ b.length := by
   intro e; simp [e] at ht
  exact (decide_eq_false fun e => this (by rw [e])).symm
theorem impl_levelsSame1 (a b : List Rn) : AFn Tryz.prog 93 [sl (a.map Rn.enc), sl (b.map Rn.enc)] [] (rb (decide (a = b))) [] := by
 refine AFn.introX (E := En 0 md0) (en_ok 0 md0) Tryz.func93 rfl rfl rfl fun _ _ => ?_
 refine ACall.mk _ _ (slices_EqualFuncR a b) ?_
 refine Split.mk fun t ht => ?_
 exact Need.mk ⟨[], _, .same, by rw [ht]; rfl, rfl⟩ trivial
theorem slices_EqualFuncRR (a b : List (List Rn)) : AFn Tryz.prog 92 [sl (a.map encL), sl (b.map encL), av (.func (.func 93) #[] #[])] [] (rb (decide (a = b))) [] := by
 refine AFn.introX (E := En 0 md0) (en_ok 0 md0) Tryz.func92 rfl rfl rfl fun hs _ => ?_
 have ha := Small.len (hs _ (List.mem_cons_self ..))
 rw [List.length_map] at ha
 have fin : ∀ {c : Bool}, c = decide (a = b) → rb c = rb (decide (a = b)) := fun h => by rw [h]
 refine Split.mk fun t ht => ?_
 cases t
 ·have hl : a.length = b.length := Int.ofNat_inj.1 (by simpa using ht)
  refine ALoop.mk (fun n s => ∃ i : Nat, i ≤ a.length ∧ n = a.length - i ∧ a.take i = b.take i ∧
   s = ⟨some (sl (a.map encL)) :: some (sl (b.map encL)) :: some (av (.func (.func 93) #[] #[])) :: none :: none :: none :: some (av (.bool false)) :: none :: none :: none :: none :: none :: none :: none :: none :: some (sl (a.map encL)) :: some (av (.int .i64 a.length)) :: some (av (.int .i64 i)) :: List.replicate 14 none, List.replicate 32 absent⟩)
   ⟨a.length, _, Weak.nrm [true, true, true, false, false, false, true, false, false, false, false, false, false, false, false, true, true, true] [] rfl rfl rfl, 0, Nat.zero_le _, rfl, rfl, by rw [show ((a.length : Nat) : Int) = ((a.map encL).length : Nat) by rw [List.length_map]]; rfl⟩ ?_
  rintro n s ⟨i, hi, rfl, hp, rfl⟩
  refine Split.mk fun t ht => ?_
  cases t
  ·have hia : i = a.length := by simp at ht; omega
   refine Need.mk ⟨[], _, .same, fin ?_, rfl⟩ trivial
   subst hia
   rw [List.take_length, hl, List.take_length] at hp
   simp [hp]
  ·have hia : i < a.length := by simpa using ht
   refine nd ?_
   refine Row.mk _ (map_get _ a i hia) ?_
   refine nd ?_
   refine Row.mk _ (map_get _ b i (by omega)) ?_
   refine ACall.mk _ _ (impl_levelsSame1 a[i] (b[i]'(by omega))) ?_
   refine Split.mk fun t ht2 => ?_
   cases t
   ·refine Need.mk ⟨[], _, .same, fin ?_, rfl⟩ trivial
    have : a[i] ≠ b[i]'(by omega) := by simpa using ht2
    refine (decide_eq_false fun e => this ?_).symm
    subst e; rfl
   ·refine Num.mk _ (wrapS (by omega)) ?_
    refine ⟨a.length - (i + 1), _, by omega, Weak.nrm [true, true, true, false, false, false, true, false, false, false, false, false, false, false, false, true, true, true] [] rfl rfl rfl, i + 1, by omega, rfl, ?_, rfl⟩
    have : a[i] = b[i]'(by omega) := by simpa using ht2
    rw [List.take_succ_eq_append_getElem hia, List.take_succ_eq_append_getElem (by omega), hp, this]
 ·refine Need.mk ⟨[], _, .same, fin ?_, rfl⟩ trivial
  have : a.length ≠ b.length := by
   intro e; simp [e] at ht
  exact (decide_eq_false fun e => this (by rw [e])).symm
theorem impl_levelsSame (a b : List (List Rn)) : AFn Tryz.prog 52 [sl (a.map encL), sl (b.map encL)] [] (rb (decide (a = b))) [] := by
 refine AFn.introX (E := En 0 md0) (en_ok 0 md0) Tryz.func52 rfl rfl rfl fun _ _ => ?_
 refine ACall.mk _ _ (slices_EqualFuncRR a b) ?_
 refine Split.mk fun t ht => ?_
 exact Need.mk ⟨[], _, .same, by rw [ht]; rfl, rfl⟩ trivial
theorem spec_l5Levels (a b : List (List Rn)) : AFn Tryz.prog 64 [sl (a.map encL), sl (b.map encL)] [] (rb (decide (a = b))) [] := by
 refine AFn.introX (E := En 0 md0) (en_ok 0 md0) Tryz.func64 rfl rfl rfl fun hs _ => ?_
 have hsa := hs _ (List.mem_cons_self ..)
 have ha := Small.len hsa
 rw [List.length_map] at ha
 have hal : ∀ i (h : i < a.length), a[i].length ≤ 9223372036854775807 := fun i h => by
  cases hsa with
  | sl _ ih =>
   have := Small.len (ih (encL a[i]) (List.mem_map.2 ⟨_, List.getElem_mem h, rfl⟩) _ (List.mem_cons_self ..))
   rwa [List.length_map] at this
 have fin : ∀ {c : Bool}, c = decide (a = b) → rb c = rb (decide (a = b)) := fun h => by rw [h]
 refine Split.mk fun t ht => ?_
 cases t
 ·have hl : a.length = b.length := Int.ofNat_inj.1 (by simpa using ht)
  refine ALoop.mk (fun n s => ∃ i : Nat, i ≤ a.length ∧ n = a.length - i ∧ a.take i = b.take i ∧
   s = ⟨some (sl (a.map encL)) :: some (sl (b.map encL)) :: none :: none :: some (av (.bool false)) :: some (av (.int .i64 i)) :: List.replicate 48 none, List.replicate 54 absent⟩)
   ⟨a.length, _, Weak.nrm [true, true, false, false, true, true] [] rfl rfl rfl, 0, Nat.zero_le _, rfl, rfl, rfl⟩ ?_
  rintro n s ⟨i, hi, rfl, hp, rfl⟩
  refine Split.mk fun t ht => ?_
  cases t
  ·have hia : i = a.length := by simp at ht; omega
   refine Need.mk ⟨[], _, .same, fin ?_, rfl⟩ trivial
   subst hia
   rw [List.take_length, hl, List.take_length] at hp
   simp [hp]
  ·have hia : i < a.length := by simpa using ht
   have hib : i < b.length := by omega
   refine nd ?_
   refine Row.mk _ (map_get _ a i hia) ?_
   refine nd ?_
   refine Row.mk _ (map_get _ b i hib) ?_
   refine Split.mk fun t ht2 => ?_
   cases t
   ·have hl2 : a[i].length = b[i].length := Int.ofNat_inj.1 (by simpa using ht2)
    refine Need.mk rfl ?_
    refine ALoop.mk (fun n s => ∃ k : Nat, k ≤ a[i].length ∧ n = a[i].length - k ∧ a[i].take k = b[i].take k ∧
     s = ⟨some (sl (a.map encL)) :: some (sl (b.map encL)) :: none :: none :: some (av (.bool false)) :: some (av (.int .i64 i)) :: some (av (.int .i64 k)) :: List.replicate 47 none, List.replicate 54 absent⟩)
     ⟨a[i].length, _, Weak.nrm [true, true, false, false, true, true, true] [] rfl rfl rfl, 0, Nat.zero_le _, rfl, rfl, rfl⟩ ?_
    rintro n s ⟨k, hk, rfl, hpk, rfl⟩
    refine nd ?_
    refine Row.mk _ (map_get _ a i hia) ?_
    refine Split.mk fun t ht3 => ?_
    cases t
    ·have hka : k = a[i].length := by simp at ht3; omega
     refine Num.mk _ (wrapS (by omega)) ?_
     refine ⟨a.length - (i + 1), _, by omega, Weak.nrm [true, true, false, false, true, true] [] rfl rfl rfl, i + 1, by omega, rfl, ?_, rfl⟩
     subst hka
     rw [List.take_length, hl2, List.take_length] at hpk
     rw [List.take_succ_eq_append_getElem hia, List.take_succ_eq_append_getElem hib, hp, hpk]
    ·have hka : k < a[i].length := by simpa using ht3
     have hkb : k < b[i].length := by omega
     have hkl := hal i hia
     refine nd ?_
     refine Row.mk _ (map_get _ a i hia) ?_
     refine nd ?_
     refine Row.mk _ (map_get _ a[i] k hka) ?_
     refine nd ?_
     refine Row.mk _ (map_get _ b i hib) ?_
     refine nd ?_
     refine Row.mk _ (map_get _ b[i] k hkb) ?_
     refine ACall.mk _ _ (spec_RunSame a[i][k] b[i][k]) ?_
     refine Split.mk fun t ht4 => ?_
     cases t
     ·refine Need.mk rfl ?_
      refine Need.mk ⟨[], _, .same, fin ?_, rfl⟩ trivial
      have : a[i][k] ≠ b[i][k] := by simpa using ht4
      refine (decide_eq_false fun e => this ?_).symm
      subst e; rfl
     ·refine Need.mk rfl ?_
      refine Num.mk _ (wrapS (by omega)) ?_
      refine ⟨a[i].length - (k + 1), _, by omega, Weak.nrm [true, true, false, false, true, true, true] [] rfl rfl rfl, k + 1, by omega, rfl, ?_, rfl⟩
      have : a[i][k] = b[i][k] := by simpa using ht4
      rw [List.take_succ_eq_append_getElem hka, List.take_succ_eq_append_getElem hkb, hpk, this]
   ·refine Need.mk rfl ?_
    refine Need.mk ⟨[], _, .same, fin ?_, rfl⟩ trivial
    refine (decide_eq_false fun e => ?_).symm
    subst e; simp at ht2
 ·refine Need.mk ⟨[], _, .same, fin ?_, rfl⟩ trivial
  have : a.length ≠ b.length := by
   intro e; simp [e] at ht
  exact (decide_eq_false fun e => this (by rw [e])).symm
theorem spec_TreeSame (a b : Tre) : AFn Tryz.prog 61 [.agg (a.enc.map .c), .agg (b.enc.map .c)] [] (rb (decide (a = b))) [] := by
 refine AFn.introX (E := En 0 md0) (en_ok 0 md0) Tryz.func61 rfl rfl rfl fun _ _ => ?_
 have fin : ∀ {c : Bool}, c = decide (a = b) → rb c = rb (decide (a = b)) := fun h => by rw [h]
 refine Split.mk fun t ht => ?_
 cases t
 ·exact Need.mk ⟨[], _, .same, fin (by cases a; cases b; simp_all), rfl⟩ trivial
 ·refine ACall.mk _ _ (spec_l4Same a.mem b.mem) ?_
  refine Split.mk fun t ht1 => ?_
  cases t
  ·exact Need.mk ⟨[], _, .same, fin (by cases a; cases b; simp_all), rfl⟩ trivial
  ·refine ACall.mk _ _ (spec_l5Levels a.levels b.levels) ?_
   refine Split.mk fun t ht2 => ?_
   cases t
   ·exact Need.mk ⟨[], _, .same, fin (by cases a; cases b; simp_all), rfl⟩ trivial
   ·refine ACall.mk _ _ (spec_l5Ints a.snaps b.snaps) ?_
    refine Split.mk fun t ht3 => ?_
    exact Need.mk ⟨[], _, .same, fin (by cases a; cases b; simp_all), rfl⟩ trivial
theorem impl_TreeSame (a b : Tre) : AFn Tryz.prog 51 [.agg (a.enc.map .c), .agg (b.enc.map .c)] [] (rb (decide (a = b))) [] := by
 refine AFn.introX (E := En 0 md0) (en_ok 0 md0) Tryz.func51 rfl rfl rfl fun _ _ => ?_
 have fin : ∀ {c : Bool}, c = decide (a = b) → rb c = rb (decide (a = b)) := fun h => by rw [h]
 refine Split.mk fun t ht => ?_
 cases t
 ·exact Need.mk ⟨[], _, .same, fin (by cases a; cases b; simp_all), rfl⟩ trivial
 ·refine ACall.mk _ _ (slices_EqualE a.mem b.mem) ?_
  refine Split.mk fun t ht1 => ?_
  cases t
  ·exact Need.mk ⟨[], _, .same, fin (by cases a; cases b; simp_all), rfl⟩ trivial
  ·refine ACall.mk _ _ (impl_levelsSame a.levels b.levels) ?_
   refine Split.mk fun t ht2 => ?_
   cases t
   ·exact Need.mk ⟨[], _, .same, fin (by cases a; cases b; simp_all), rfl⟩ trivial
   ·refine ACall.mk _ _ (slices_EqualI a.snaps b.snaps) ?_
    refine Split.mk fun t ht3 => ?_
    exact Need.mk ⟨[], _, .same, fin (by cases a; cases b; simp_all), rfl⟩ trivial
theorem open_Ok {s : Sto} (hd : s.disk.Ok) : (openD s).Ok := by
 refine ⟨⟨fun e he => ?_, hd.2⟩, ?_, hd.2⟩
 ·have he2 : e ∈ freshE (batD s.disk) s.disk.seq := (isort_mem eLess _ e).1 he
  obtain ⟨b, hb, heb⟩ := List.mem_flatten.1 (freshE_sub _ _ e he2).1
  have hq := entOk_p ((batOk_p (batD_ok s.disk b hb)).2.2.1 e heb)
  have hk := (keyOk_no32 hq.1).2
  rw [tb_len] at hk
  have hm : 60 ≤ maxLen := by decide
  exact ⟨by omega, by omega⟩
 ·show (bt (logT (leftL (batD s.disk) s.disk.seq))).size ≤ maxLen
  have h1 := logT_left_len (batD s.disk) s.disk.seq
  have h2 := batD_log s.disk
  have h3 := hd.1
  rw [bt_size]; omega
theorem open_log {s : Sto} : (openD s).disk.log.size ≤ s.disk.log.size := by
 show (bt (logT (leftL (batD s.disk) s.disk.seq))).size ≤ _
 have h1 := logT_left_len (batD s.disk) s.disk.seq
 have h2 := batD_log s.disk
 rw [bt_size]; omega
theorem impl_StoreOkUp (s : Sto) (hu : s.up = true) (hz : s.disk.log.size ≤ 1048576) (hd : AFn Tryz.prog 54 [.agg (s.disk.enc.map .c)] [] (rb (diskB s.disk)) []) (hT : AFn Tryz.prog 55 [.agg (s.tree.enc.map .c)] [] (rb (treeOk s.tree)) []) : AFn Tryz.prog 20 [.agg (s.enc.map .c)] [] (rb (storeOk s)) [] := by
 rw [storeOk_up hu]
 obtain ⟨up, ⟨tseq, mem, lv, snaps⟩, ⟨log, safe, dlv, dseq⟩⟩ := s
 simp only at hu hz hd hT
 subst hu
 have hex : ∃ x, readD (tb log) = x := ⟨_, rfl⟩
 obtain ⟨⟨R, r⟩, hR⟩ := hex
 have hRd := impl_FrameRead log hz R r hR
 have hbR : batD ⟨log, safe, dlv, dseq⟩ = R := congrArg Prod.fst hR
 have hE := readD_ents hR
 have hRn := hE.2.1
 have hRf := hE.1
 rw [tb_len] at hRn hRf
 have hrle : r.length ≤ log.size := by have := hE.2.2.1; rwa [tb_len] at this
 have hF : diskB ⟨log, safe, dlv, dseq⟩ = true → AFn Tryz.prog 57 [.one (.c (.sl (R.map encX))), av (.int .i64 dseq)] [] (.tup [.one (.us 83 ((isort eLess (freshE R dseq)).map Ent.enc)), .one (vi (maxS dseq (freshE R dseq)))]) [] := fun h1 => by
  have h2 : log.size ≤ 12000 := (diskB_iff.1 h1).1
  exact impl_freshOf R dseq (by omega) (by omega)
 have hV := impl_levelsSame lv dlv
 have hQ := slices_EqualE (isort eLess (freshE R dseq)) mem
 have hup : (diskB ⟨log, safe, dlv, dseq⟩ && upB ⟨true, ⟨tseq, mem, lv, snaps⟩, ⟨log, safe, dlv, dseq⟩⟩) = (diskB ⟨log, safe, dlv, dseq⟩ && (treeOk ⟨tseq, mem, lv, snaps⟩ && (decide (lv = dlv) && (decide (dseq ≤ tseq) && (decide (r = []) && (decide (maxS dseq (freshE R dseq) = tseq) && decide (isort eLess (freshE R dseq) = mem))))))) := by
  unfold upB; rw [hbR]; show _ = _; simp only [hR]
 rw [hup]
 have hrl : decide (r = []) = decide (r.length = 0) := decide_eq_decide.2 List.length_eq_zero_iff.symm
 rw [hrl]
 have hT : AFn Tryz.prog 55 [.agg [.c (vi tseq), .c (.sl (mem.map Ent.enc)), .c (.sl (lv.map encL)), .c (.sl (snaps.map encI))]] [] (rb (treeOk ⟨tseq, mem, lv, snaps⟩)) [] := hT
 have hd : AFn Tryz.prog 54 [.agg [.c (vs log), .c (vi safe), .c (.sl (dlv.map encL)), .c (vi dseq)]] [] (rb (diskB ⟨log, safe, dlv, dseq⟩)) [] := hd
 generalize diskB ⟨log, safe, dlv, dseq⟩ = b0 at hd hF
 generalize treeOk ⟨tseq, mem, lv, snaps⟩ = b1 at hT
 generalize decide (lv = dlv) = b2 at hV
 generalize decide (isort eLess (freshE R dseq) = mem) = b6 at hQ
 generalize maxS dseq (freshE R dseq) = z at hF
 clear hup hE hrl hbR hR hRn hRf
 show AFn Tryz.prog 20 [.agg [.c (vb true), .c (vi tseq), .c (.sl (mem.map Ent.enc)), .c (.sl (lv.map encL)), .c (.sl (snaps.map encI)), .c (vs log), .c (vi safe), .c (.sl (dlv.map encL)), .c (vi dseq)]] [] _ []
 have hFz := frzX R
 cases b0 with
 | false =>
  refine AFn.introX (E := En 0 md0 (fz := [3, 5])) (en_ok 0 _ _ _ _) Tryz.func20 rfl rfl rfl fun _ _ => ?_
  refine ACall.mk _ _ hd ?_
  refine sp0 ?_
  exact Need.mk ⟨[], _, .same, rfl, rfl⟩ trivial
 | true =>
  have hF := hF rfl
  cases b1 with
  | false =>
   refine AFn.introX (E := En 0 md0 (fz := [3, 5])) (en_ok 0 _ _ _ _) Tryz.func20 rfl rfl rfl fun _ _ => ?_
   refine ACall.mk _ _ hd ?_
   refine sp1 ?_
   refine ACall.mk _ _ hT ?_
   refine sp0 ?_
   exact Need.mk ⟨[], _, .same, rfl, rfl⟩ trivial
  | true =>
   cases b2 with
   | false =>
    refine AFn.introX (E := En 0 md0 (fz := [3, 5])) (en_ok 0 _ _ _ _) Tryz.func20 rfl rfl rfl fun _ _ => ?_
    refine ACall.mk _ _ hd ?_
    refine sp1 ?_
    refine ACall.mk _ _ hT ?_
    refine sp1 ?_
    refine ACall.mk _ _ hV ?_
    refine sp0 ?_
    exact Need.mk ⟨[], _, .same, rfl, rfl⟩ trivial
   | true =>
    by_cases h3 : dseq ≤ tseq
    ·rw [decide_eq_true h3]
     by_cases h4 : r.length = 0
     ·rw [decide_eq_true h4]
      by_cases h5 : z = tseq
      ·rw [decide_eq_true h5]
       refine AFn.introX (E := En 0 md0 (fz := [3, 5])) (en_ok 0 _ _ _ _) Tryz.func20 rfl rfl rfl fun _ _ => ?_
       refine ACall.mk _ _ hd ?_
       refine sp1 ?_
       refine ACall.mk _ _ hT ?_
       refine sp1 ?_
       refine ACall.mk _ _ hV ?_
       refine sp1 ?_
       refine spF (by omega) fun h4 => ?_
       refine ACall.mk _ _ hRd ?_
       refine Fz.mk _ hFz ?_
       refine Split.mk fun t h5 => ?_
       cases t
       case true => (exfalso; rw [bne_iff_ne] at h5; omega)
       rw [bne_eq_false_iff_eq] at h5
       refine ACall.mk _ _ hF ?_
       refine Fz.mk _ (frzE _) ?_
       refine sqT (by omega) fun h6 => ?_
       refine ACall.mk _ _ hQ ?_
       refine Split.mk fun t h7 => ?_
       cases t
       ·skip
        exact Need.mk ⟨[], _, .same, congrArg rb h7.symm, rfl⟩ trivial
       ·skip
        exact Need.mk ⟨[], _, .same, congrArg rb h7.symm, rfl⟩ trivial
      ·rw [decide_eq_false h5]
       refine AFn.introX (E := En 0 md0 (fz := [3, 5])) (en_ok 0 _ _ _ _) Tryz.func20 rfl rfl rfl fun _ _ => ?_
       refine ACall.mk _ _ hd ?_
       refine sp1 ?_
       refine ACall.mk _ _ hT ?_
       refine sp1 ?_
       refine ACall.mk _ _ hV ?_
       refine sp1 ?_
       refine spF (by omega) fun h4 => ?_
       refine ACall.mk _ _ hRd ?_
       refine Fz.mk _ hFz ?_
       refine Split.mk fun t h5 => ?_
       cases t
       case true => (exfalso; rw [bne_iff_ne] at h5; omega)
       rw [bne_eq_false_iff_eq] at h5
       refine ACall.mk _ _ hF ?_
       refine Fz.mk _ (frzE _) ?_
       refine sqF (by omega) fun h6 => ?_
       exact Need.mk ⟨[], _, .same, rfl, rfl⟩ trivial
     ·rw [decide_eq_false h4]
      refine AFn.introX (E := En 0 md0 (fz := [3, 5])) (en_ok 0 _ _ _ _) Tryz.func20 rfl rfl rfl fun _ _ => ?_
      refine ACall.mk _ _ hd ?_
      refine sp1 ?_
      refine ACall.mk _ _ hT ?_
      refine sp1 ?_
      refine ACall.mk _ _ hV ?_
      refine sp1 ?_
      refine spF (by omega) fun h4 => ?_
      refine ACall.mk _ _ hRd ?_
      refine Fz.mk _ hFz ?_
      refine Split.mk fun t h5 => ?_
      cases t
      case false => (exfalso; rw [bne_eq_false_iff_eq] at h5; omega)
      rw [bne_iff_ne] at h5
      exact Need.mk ⟨[], _, .same, rfl, rfl⟩ trivial
    ·rw [decide_eq_false h3]
     refine AFn.introX (E := En 0 md0 (fz := [3, 5])) (en_ok 0 _ _ _ _) Tryz.func20 rfl rfl rfl fun _ _ => ?_
     refine ACall.mk _ _ hd ?_
     refine sp1 ?_
     refine ACall.mk _ _ hT ?_
     refine sp1 ?_
     refine ACall.mk _ _ hV ?_
     refine sp1 ?_
     refine spT (by omega) fun h4 => ?_
     exact Need.mk ⟨[], _, .same, rfl, rfl⟩ trivial
theorem impl_StoreOk (s : Sto) (hok : s.Ok) (hz : s.disk.log.size ≤ 1048576) (hz1 : ∀ l ∈ s.disk.levels, ∀ r ∈ l, r.ents.length ≤ 1099511627776) (hz2 : ∀ l ∈ s.tree.levels, ∀ r ∈ l, r.ents.length ≤ 1099511627776) : AFn Tryz.prog 20 [.agg (s.enc.map .c)] [] (rb (storeOk s)) [] := by
 have hd := impl_diskOk s.disk hok.2 hz1
 cases hu : s.up with
 | true => exact impl_StoreOkUp s hu hz hd (impl_TreeOk s.tree hok.1 hz2)
 | false =>
  have ho := open_Ok hok.2
  have hR := impl_StoreOkUp (openD s) rfl (Nat.le_trans open_log hz) (impl_diskOk (openD s).disk ho.2 hz1) (impl_TreeOk (openD s).tree ho.1 hz1)
  have hO : diskB s.disk = true → AFn Tryz.prog 50 [.agg (s.enc.map .c)] [] (.agg [vb true, vi (openD s).tree.seq, .us 83 ((openD s).tree.mem.map Ent.enc), .sl (s.disk.levels.map encL), .us 3 [], vs (openD s).disk.log, vi (openD s).disk.safe, .sl (s.disk.levels.map encL), vi s.disk.seq]) [] := fun h1 => by
   have h2 : s.disk.log.size ≤ 12000 := (diskB_iff.1 h1).1
   have hex : ∃ x, readD (tb s.disk.log) = x := ⟨_, rfl⟩
   obtain ⟨⟨R, r⟩, hR⟩ := hex
   have hbR : batD s.disk = R := congrArg Prod.fst hR
   have hE := readD_ents hR
   have hRn := hE.2.1
   have hRf := hE.1
   rw [tb_len] at hRn hRf
   refine impl_opened s hz ?_
   rw [hbR]
   exact impl_freshOf R s.disk.seq (by omega) (by omega)
  have hS := impl_TreeSame s.tree tre00
  rw [storeOk_down hu]
  have hoenc : (openD s).enc = [vb true, vi (openD s).tree.seq, .sl ((openD s).tree.mem.map Ent.enc), .sl (s.disk.levels.map encL), .sl [], vs (openD s).disk.log, vi (openD s).disk.safe, .sl (s.disk.levels.map encL), vi s.disk.seq] := rfl
  rw [hoenc] at hR
  generalize storeOk (openD s) = b3 at hR
  generalize (openD s).tree.seq = o1 at hR hO
  generalize (openD s).tree.mem = o2 at hR hO
  generalize (openD s).disk.log = o3 at hR hO
  generalize (openD s).disk.safe = o4 at hR hO
  clear ho hoenc
  have hFz := frzE (e := 83) o2
  have hFz2 := frzI (e := 3) []
  obtain ⟨up, ⟨tseq, mem, lv, snaps⟩, ⟨log, safe, dlv, dseq⟩⟩ := s
  simp only at hu hR hd hS hO hz
  subst hu
  have hS : AFn Tryz.prog 51 [.agg [.c (vi tseq), .c (.sl (mem.map Ent.enc)), .c (.sl (lv.map encL)), .c (.sl (snaps.map encI))], .agg [.c (vi 0), .c (.sl []), .c (.sl []), .c (.sl [])]] [] (rb (decide (⟨tseq, mem, lv, snaps⟩ = tre00))) [] := hS
  generalize decide ((⟨tseq, mem, lv, snaps⟩ : Tre) = tre00) = b2 at hS
  have hd : AFn Tryz.prog 54 [.agg [.c (vs log), .c (vi safe), .c (.sl (dlv.map encL)), .c (vi dseq)]] [] (rb (diskB ⟨log, safe, dlv, dseq⟩)) [] := hd
  generalize diskB ⟨log, safe, dlv, dseq⟩ = b0 at hd hO
  cases b0 with
  | false =>
   refine AFn.introX (E := En 0 md0) (en_ok 0 _ _ _ _) Tryz.func20 rfl rfl rfl fun _ _ => ?_
   refine ACall.mk _ _ hd ?_
   refine sp0 ?_
   exact Need.mk ⟨[], _, .same, rfl, rfl⟩ trivial
  | true =>
   have hO := hO rfl
   cases b2 with
   | false =>
    refine AFn.introX (E := En 0 md0) (en_ok 0 _ _ _ _) Tryz.func20 rfl rfl rfl fun _ _ => ?_
    refine ACall.mk _ _ hd ?_
    refine sp1 ?_
    refine ACall.mk _ _ hS ?_
    refine sp0 ?_
    exact Need.mk ⟨[], _, .same, rfl, rfl⟩ trivial
   | true =>
    refine AFn.introX (E := En 0 md0) (en_ok 0 _ _ _ _) Tryz.func20 rfl rfl rfl fun _ _ => ?_
    refine ACall.mk _ _ hd ?_
    refine sp1 ?_
    refine ACall.mk _ _ hS ?_
    refine sp1 ?_
    refine ACall.mk _ _ hO ?_
    refine Fz.mk _ hFz ?_
    refine Fz.mk _ hFz2 ?_
    refine ACall.mk _ _ hR ?_
    refine Need.mk (⟨ClL.mem (.v .nil), no_objs⟩) ?_
    refine Split.mk fun t h3 => ?_
    cases t
    ·skip
     exact Need.mk ⟨[], _, .same, congrArg rb h3.symm, rfl⟩ trivial
    ·skip
     exact Need.mk ⟨[], _, .same, congrArg rb h3.symm, rfl⟩ trivial
theorem spec_FrameText (b : List Ent) (hb : OkE b) (hl : b.length ≤ 1048576) : AFn Tryz.prog 138 [.one (.c (.sl (b.map Ent.enc)))] [] (.one (vs (bt (frameT b)))) [] := by
 cases h : batOk b with
 | true => exact spec_FrameText1 b hb hl h
 | false => exact spec_FrameText0 b hb hl h
theorem l6_Frame (s : ByteArray) (p : Nat) (hs : s.size ≤ 1048576) (hp : p ≤ s.size) (b : List Ent) (z : Int) (hf : frameA s p = (b, z)) : AFn Tryz.prog 136 [av (.string s), av (.int .i64 p)] [] (.tup [.one (.us 83 (b.map Ent.enc)), .one (vi z)]) [] := by
 have hN := l6_Num s p hs (by omega)
 have hr := numA_rng s p (by omega)
 have hgt := numA_gt hp
 unfold frameA at hf
 have hex : ∃ q, numA s p = q := ⟨_, rfl⟩
 obtain ⟨⟨n, q⟩, hq⟩ := hex
 rw [hq] at hN hr hf hgt
 have hN2 : AFn Tryz.prog 174 [av (.string s), av (.int .i64 p)] [] (.tup [.one (vi n), .one (vi q)]) [] := hN
 simp only at hr hf hgt
 clear hN hq
 by_cases h1 : q < 0
 ·rw [if_pos (.inl h1)] at hf
  injection hf with e1 e2
  subst e1; subst e2
  refine AFn.introX (E := En 0 md0) (en_ok 0 md0) Tryz.func136 rfl rfl rfl fun _ _ => ?_
  refine ACall.mk _ _ hN2 ?_
  refine spT (by omega) fun h1 => ?_
  exact Need.mk ⟨[], _, .same, rfl, rfl⟩ trivial
 ·by_cases h2 : n < 0
  ·rw [if_pos (.inr (.inl h2))] at hf
   injection hf with e1 e2
   subst e1; subst e2
   refine AFn.introX (E := En 0 md0) (en_ok 0 md0) Tryz.func136 rfl rfl rfl fun _ _ => ?_
   refine ACall.mk _ _ hN2 ?_
   refine spF (by omega) fun h1 => ?_
   refine spT (by omega) fun h2 => ?_
   exact Need.mk ⟨[], _, .same, rfl, rfl⟩ trivial
  ·by_cases h3 : (s.size : Int) - q - 1 < n
   ·rw [if_pos (.inr (.inr h3))] at hf
    injection hf with e1 e2
    subst e1; subst e2
    refine AFn.introX (E := En 0 md0) (en_ok 0 md0) Tryz.func136 rfl rfl rfl fun _ _ => ?_
    refine ACall.mk _ _ hN2 ?_
    refine spF (by omega) fun h1 => ?_
    refine spF (by omega) fun h2 => ?_
    refine Num.mk _ (wrapI (by omega) (by omega)) ?_
    refine Num.mk _ (wrapI (by omega) (by omega)) ?_
    refine spT (by omega) fun h3 => ?_
    exact Need.mk ⟨[], _, .same, rfl, rfl⟩ trivial
   ·have hgt2 := hgt h1
    rw [if_neg (by omega)] at hf
    have hxs := ext_size s q.toNat (q + n).toNat
    have hB := l6_Body (s.extract q.toNat (q + n).toNat) (by omega)
    have hT := spec_FrameText (bodyA (s.extract q.toNat (q + n).toNat)) (bodyA_Ok (by unfold maxLen; omega)) (Nat.le_trans (bodyA_len _) (by decide))
    generalize bodyA (s.extract q.toNat (q + n).toNat) = B at hB hT hf
    have e3 : ((p : Int)).toNat = p := by omega
    by_cases h4 : bt (frameT B) = s.extract p (q + n + 1).toNat
    ·rw [if_pos h4] at hf
     injection hf with e1 e2
     subst e1; subst e2
     rw [← e3] at h4
     refine AFn.introX (E := En 0 md0) (en_ok 0 md0) Tryz.func136 rfl rfl rfl fun _ _ => ?_
     refine ACall.mk _ _ hN2 ?_
     refine spF (by omega) fun h1 => ?_
     refine spF (by omega) fun h2 => ?_
     refine Num.mk _ (wrapI (by omega) (by omega)) ?_
     refine Num.mk _ (wrapI (by omega) (by omega)) ?_
     refine spF (by omega) fun h3 => ?_
     refine Num.mk _ (wrapI (by omega) (by omega)) ?_
     refine nd ?_
     refine ACall.mk _ _ hB ?_
     refine Fz.mk _ (frzE _) ?_
     refine ACall.mk _ _ hT ?_
     refine Need.mk (⟨ClL.mem (.v .nil), no_objs⟩) ?_
     refine Num.mk _ (wrapI (by omega) (by omega)) ?_
     refine Num.mk _ (wrapI (by omega) (by omega)) ?_
     refine nd ?_
     refine Split.mk fun t h4 => ?_
     cases t
     case true => (exfalso; rw [Bool.not_eq_true', bytes_beq, decide_eq_false_iff_not] at h4; exact absurd ‹_› h4)
     rw [Bool.not_eq_false', bytes_beq, decide_eq_true_iff] at h4
     refine Need.mk (rfl) ?_
     refine Num.mk _ (wrapI (by omega) (by omega)) ?_
     refine Num.mk _ (wrapI (by omega) (by omega)) ?_
     exact Need.mk ⟨[], _, .same, rfl, rfl⟩ trivial
    ·rw [if_neg h4] at hf
     injection hf with e1 e2
     subst e1; subst e2
     rw [← e3] at h4
     refine AFn.introX (E := En 0 md0) (en_ok 0 md0) Tryz.func136 rfl rfl rfl fun _ _ => ?_
     refine ACall.mk _ _ hN2 ?_
     refine spF (by omega) fun h1 => ?_
     refine spF (by omega) fun h2 => ?_
     refine Num.mk _ (wrapI (by omega) (by omega)) ?_
     refine Num.mk _ (wrapI (by omega) (by omega)) ?_
     refine spF (by omega) fun h3 => ?_
     refine Num.mk _ (wrapI (by omega) (by omega)) ?_
     refine nd ?_
     refine ACall.mk _ _ hB ?_
     refine Fz.mk _ (frzE _) ?_
     refine ACall.mk _ _ hT ?_
     refine Need.mk (⟨ClL.mem (.v .nil), no_objs⟩) ?_
     refine Num.mk _ (wrapI (by omega) (by omega)) ?_
     refine Num.mk _ (wrapI (by omega) (by omega)) ?_
     refine nd ?_
     refine Split.mk fun t h4 => ?_
     cases t
     case false => (exfalso; rw [Bool.not_eq_false', bytes_beq, decide_eq_true_iff] at h4; exact absurd h4 ‹_›)
     rw [Bool.not_eq_true', bytes_beq, decide_eq_false_iff_not] at h4
     refine Need.mk (rfl) ?_
     exact Need.mk ⟨[], _, .same, rfl, rfl⟩ trivial
theorem rowsOk (R : List (List C)) (ys : List Ent) (h : R = ys.map Ent.enc) : Plain R ∧ ∀ r ∈ R, r.length = 5 := by
 subst h; exact ⟨plainE ys, lenE ys⟩
theorem sizeOk (a b : List (List C)) (ys zs : List Ent) (ha : a = ys.map Ent.enc) (hb : b = zs.map Ent.enc) (h : ys.length + zs.length ≤ 2000000) : (a.length + b.length) * 56 ≤ 140737488355328 ∧ a.length + b.length ≤ maxLen := by
 subst ha; subst hb
 rw [List.length_map, List.length_map]
 exact ⟨by omega, Nat.le_trans h (by decide)⟩
theorem spec_l4Put (xs : List Ent) (e : Ent) (hx : xs.length ≤ 1048576) : AFn Tryz.prog 137 [sl (xs.map Ent.enc), .agg (e.enc.map .c)] [] (.one (.us 83 ((ins eLess xs e).map Ent.enc))) [] := by
 refine AFn.introX (E := En 0 md0) (en_ok 0 _) Tryz.func137 rfl rfl rfl fun _ _ => ?_
 have hn : (xs.map Ent.enc).length = xs.length := List.length_map ..
 let S : Int → St := fun k => ⟨some (sl (xs.map Ent.enc)) :: none :: none :: some (.bx 3 0) :: none :: some (av (.int .i64 k)) :: List.replicate 31 none, absent :: absent :: absent :: ⟨0, 0, some e.enc⟩ :: List.replicate 33 absent⟩
 refine ALoop.mk (fun m s => ∃ k : Nat, k ≤ xs.length ∧ m = k ∧ ins eLess xs e = ins eLess (xs.take k) e ++ xs.drop k ∧ s = S (k : Int))
  ⟨xs.length, _, Weak.nrm [true, false, false, true, false, true] [(3, 3)] rfl rfl rfl, xs.length, Nat.le_refl _, rfl, by simp, congrArg S (show (((xs.map Ent.enc).length : Nat) : Int) = ((xs.length : Nat) : Int) by rw [hn])⟩ ?_
 rintro m s ⟨k, hk, rfl, hins, hs⟩
 have plain : ∀ ys : List Ent, Plain (ys.map Ent.enc) := plainE
 by_cases hstop : m = 0 ∨ ∃ h : 0 < m, eLess e (xs[m - 1]'(by omega)) = false
 ·have hfin : ins eLess xs e = xs.take m ++ [e] ++ xs.drop m := by
   rw [hins]
   congr 1
   rcases hstop with h | ⟨h, hl⟩
   ·subst h; rfl
   ·have e1 : xs.take m = xs.take (m - 1) ++ [xs[m - 1]'(by omega)] := by
     conv => lhs; rw [show m = m - 1 + 1 by omega]
     exact List.take_succ_eq_append_getElem (by omega)
    rw [e1]; exact ins_stop eLess e _ _ hl
  have d1 : ((xs.map Ent.enc).drop (m : Int).toNat).take (((xs.map Ent.enc).length : Int) - (m : Int)).toNat = (xs.drop m).map Ent.enc := by
   rw [Int.toNat_natCast, ← List.map_drop]
   exact List.take_of_length_le (by rw [List.length_map, List.length_drop, hn]; omega)
  have d2 : ((xs.map Ent.enc).drop (0 : Int).toNat).take ((m : Int) - 0).toNat = (xs.take m).map Ent.enc := by
   rw [show (0 : Int).toNat = 0 from rfl, List.drop_zero, Int.sub_zero, Int.toNat_natCast, ← List.map_take]
  have d3 : ((xs.map Ent.enc).drop (0 : Int).toNat).take ((m : Int) - 0).toNat ++ [e.enc] = (xs.take m ++ [e]).map Ent.enc := by
   rw [d2, List.map_append]; rfl
  have d4 : ((xs.map Ent.enc).drop (0 : Int).toNat).take ((m : Int) - 0).toNat ++ [e.enc] ++ ((xs.map Ent.enc).drop (m : Int).toNat).take (((xs.map Ent.enc).length : Int) - (m : Int)).toNat = (xs.take m ++ [e] ++ xs.drop m).map Ent.enc := by
   rw [d3, d1, ← List.map_append]
  have l1 : ((xs.drop m).map Ent.enc).length = xs.length - m := by rw [List.length_map, List.length_drop]
  have l2 : ((xs.take m).map Ent.enc).length = m := by rw [List.length_map, List.length_take]; omega
  have fin : ∀ rows : List (List C), rows = (xs.take m ++ [e] ++ xs.drop m).map Ent.enc → RV.one (.us 83 rows) = .one (.us 83 ((ins eLess xs e).map Ent.enc)) := fun rows h => by rw [h, hfin]
  rcases Nat.eq_zero_or_pos m with h0 | h0
  ·subst hs
   refine Split.mk fun t ht => ?_
   cases t
   case true => simp at ht; omega
   refine Need.mk rfl ?_
   refine Need.mk ⟨by omega, by omega, by omega, lenE xs⟩ ?_
   refine Need.mk (rowsOk _ _ d1) ?_
   refine Need.mk (sizeOk _ _ [] (xs.drop m) rfl d1 (by rw [List.length_drop]; simp; omega)) ?_
   refine Need.mk ⟨by omega, by omega, by omega, lenE xs⟩ ?_
   refine Need.mk (rowsOk _ _ d2) ?_
   refine Need.mk (sizeOk _ _ [] (xs.take m) rfl d2 (by rw [List.length_take]; simp; omega)) ?_
   refine Need.mk (sizeOk _ _ (xs.take m) [e] d2 rfl (by rw [List.length_take]; simp; omega)) ?_
   refine Need.mk (rowsOk _ _ d1).1 ?_
   refine Need.mk (sizeOk _ _ (xs.take m ++ [e]) (xs.drop m) d3 d1 (by rw [List.length_append, List.length_take, List.length_drop]; simp; omega)) ?_
   refine Need.mk rfl ?_
   exact Need.mk ⟨[], _, .same, fin _ d4, rfl⟩ trivial
  ·have hl : eLess e (xs[m - 1]'(by omega)) = false := by
    refine hstop.elim (fun h => absurd h (by omega)) fun h => ?_
    exact h.2
   subst hs
   refine Split.mk fun t ht => ?_
   cases t
   ·simp at ht; omega
   refine Num.mk ((m - 1 : Nat) : Int) (wrapI' (by omega) (by omega)) ?_
   refine nd ?_
   refine Row.mk _ (map_get _ xs (m - 1) (by omega)) ?_
   refine ACall.mk _ _ (spec_EntryLess e (xs[m - 1]'(by omega))) ?_
   refine Split.mk fun t ht2 => ?_
   cases t
   case true => rw [hl] at ht2; cases ht2
   refine Need.mk rfl ?_
   refine Need.mk ⟨by omega, by omega, by omega, lenE xs⟩ ?_
   refine Need.mk (rowsOk _ _ d1) ?_
   refine Need.mk (sizeOk _ _ [] (xs.drop m) rfl d1 (by rw [List.length_drop]; simp; omega)) ?_
   refine Need.mk ⟨by omega, by omega, by omega, lenE xs⟩ ?_
   refine Need.mk (rowsOk _ _ d2) ?_
   refine Need.mk (sizeOk _ _ [] (xs.take m) rfl d2 (by rw [List.length_take]; simp; omega)) ?_
   refine Need.mk (sizeOk _ _ (xs.take m) [e] d2 rfl (by rw [List.length_take]; simp; omega)) ?_
   refine Need.mk (rowsOk _ _ d1).1 ?_
   refine Need.mk (sizeOk _ _ (xs.take m ++ [e]) (xs.drop m) d3 d1 (by rw [List.length_append, List.length_take, List.length_drop]; simp; omega)) ?_
   refine Need.mk rfl ?_
   exact Need.mk ⟨[], _, .same, fin _ d4, rfl⟩ trivial
 ·have h0 : 0 < m := Nat.pos_of_ne_zero fun h => hstop (.inl h)
  have hl : eLess e (xs[m - 1]'(by omega)) = true := by
   cases hx : eLess e (xs[m - 1]'(by omega)) with
   | true => rfl
   | false => exact absurd (.inr ⟨h0, hx⟩) hstop
  have e1 : xs.take m = xs.take (m - 1) ++ [xs[m - 1]'(by omega)] := by
   conv => lhs; rw [show m = m - 1 + 1 by omega]
   exact List.take_succ_eq_append_getElem (by omega)
  have hins' : ins eLess xs e = ins eLess (xs.take (m - 1)) e ++ xs.drop (m - 1) := by
   rw [hins, e1, ins_step eLess e _ _ hl, List.append_assoc]
   congr 1
   conv => rhs; rw [List.drop_eq_getElem_cons (show m - 1 < xs.length by omega)]
   rw [show m - 1 + 1 = m by omega]; rfl
  subst hs
  refine Split.mk fun t ht => ?_
  cases t
  ·simp at ht; omega
  refine Num.mk ((m - 1 : Nat) : Int) (wrapI' (by omega) (by omega)) ?_
  refine nd ?_
  refine Row.mk _ (map_get _ xs (m - 1) (by omega)) ?_
  refine ACall.mk _ _ (spec_EntryLess e (xs[m - 1]'(by omega))) ?_
  refine Split.mk fun t ht2 => ?_
  cases t
  ·rw [hl] at ht2; cases ht2
  refine Need.mk rfl ?_
  refine Num.mk ((m - 1 : Nat) : Int) (wrapI' (by omega) (by omega)) ?_
  exact ⟨m - 1, _, by omega, Weak.nrm [true, false, false, true, false, true] [(3, 3)] rfl rfl rfl, m - 1, by omega, rfl, hins', rfl⟩
theorem spec_l6Left (bs : List (List Ent)) (seq : Int) (h : ∀ b ∈ bs, OkE b ∧ 1 ≤ b.length ∧ b.length ≤ 1048576) (hl : (logT bs).length ≤ 1048576) (hn : bs.length ≤ 1048576) : AFn Tryz.prog 98 [.one (.c (.sl (bs.map encX))), av (.int .i64 seq)] [] (.one (vs (bt (logT (leftL bs seq))))) [] := by
 have hround : ∀ (i : Nat) (o : ByteArray), i < bs.length → o = bt (logT (leftL (bs.take i) seq)) → ∃ (b : List Ent) (e : Ent) (t : ByteArray), (bs.map encX)[i]? = some [.sl (b.map Ent.enc)] ∧ (b.map Ent.enc).length = b.length ∧ 1 ≤ b.length ∧
   (b.map Ent.enc)[b.length - 1]? = some e.enc ∧ IntKind.i64.wrap (((b.map Ent.enc).length : Int) - 1) = ((b.length - 1 : Nat) : Int) ∧
   AFn Tryz.prog 138 [.one (.c (.sl (b.map Ent.enc)))] [] (.one (vs t)) [] ∧
   ((e.seq > seq ∧ o ++ t = bt (logT (leftL (bs.take (i + 1)) seq))) ∨ (¬ e.seq > seq ∧ o = bt (logT (leftL (bs.take (i + 1)) seq)))) ∧ o.size ≤ 1048576 ∧ t.size ≤ 1300 := by
  intro i o hi ho
  obtain ⟨h1, h2, h3⟩ := h _ (List.getElem_mem hi)
  have hm : ((bs[i]'hi).map Ent.enc).length = (bs[i]'hi).length := List.length_map ..
  have hlg := lastS_get (b := bs[i]'hi) (by omega)
  refine ⟨bs[i]'hi, (bs[i]'hi)[(bs[i]'hi).length - 1]'(by omega), bt (frameT (bs[i]'hi)), map_get encX bs i hi, hm, h2, map_get _ _ _ _, ?_, spec_FrameText _ h1 h3, ?_, ?_, ?_⟩
  ·rw [hm, wrapI (by omega) (by omega)]; omega
  ·rw [← hlg]
   by_cases hc : seq < lastS (bs[i]'hi)
   ·refine .inl ⟨hc, ?_⟩
    rw [leftT_step hi, if_pos hc, ← bt_app, ho]
   ·refine .inr ⟨hc, ?_⟩
    rw [leftT_step hi, if_neg hc, List.append_nil, ho]
  ·rw [ho, bt_size]; exact Nat.le_trans (leftT_len bs seq i) hl
  ·rw [bt_size]; exact frameT_le _
 have hnl : (bs.map encX).length = bs.length := List.length_map ..
 refine AFn.introX (E := En 0 md0) (en_ok 0 _) Tryz.func98 rfl rfl rfl fun _ _ => ?_
 let S : Nat → ByteArray → St := fun i o => ⟨some (sl (List.map encX bs)) :: some (av (.int .i64 seq)) :: none :: none :: none :: some (av (.string o)) :: some (av (.int .i64 i)) :: List.replicate 29 none, List.replicate 36 absent⟩
 refine ALoop.mk (fun m s => ∃ (i : Nat) (o : ByteArray), (i ≤ bs.length ∧ m = bs.length - i) ∧ o = bt (logT (leftL (bs.take i) seq)) ∧ s = S i o)
  ⟨_, _, Weak.nrm [true, true, false, false, false, true, true] [] rfl rfl rfl, 0, ⟨#[]⟩, ⟨Nat.zero_le _, rfl⟩, rfl, rfl⟩ ?_
 rintro m s ⟨i, o, ⟨hi, rfl⟩, ho, hs⟩
 by_cases hi2 : i < bs.length
 ·refine Exists.elim (hround i o hi2 ho) fun b hx => ?_
  refine Exists.elim hx fun e hx => ?_
  refine Exists.elim hx fun t hx => ?_
  have hr := hx.1
  have hbl := hx.2.1
  have hb1 := hx.2.2.1
  have hr2 := hx.2.2.2.1
  have hw := hx.2.2.2.2.1
  have hF := hx.2.2.2.2.2.1
  have hT := hx.2.2.2.2.2.2.1
  have hz := hx.2.2.2.2.2.2.2.1
  have hz2 := hx.2.2.2.2.2.2.2.2
  clear hx hround ho
  refine Or.elim hT (fun hq => ?_) fun hq => ?_
  ·have hc2 := hq.1
   have hq2 := hq.2
   clear hT hq
   subst hs
   refine spT (by omega) fun h1 => ?_
   refine nd ?_
   refine Row.mk _ hr ?_
   refine nd ?_
   refine Row.mk _ hr ?_
   refine Num.mk _ hw ?_
   refine nd ?_
   refine Row.mk _ hr2 ?_
   refine spT (by omega) fun h2 => ?_
   refine Need.mk (rfl) ?_
   refine nd ?_
   refine Row.mk _ hr ?_
   refine ACall.mk _ _ hF ?_
   refine Need.mk (strFits (by omega)) ?_
   refine Num.mk _ (wrapS (by omega)) ?_
   exact ⟨bs.length - (i + 1), _, by omega, Weak.nrm [true, true, false, false, false, true, true] [] rfl rfl rfl, i + 1, o ++ t, ⟨by omega, rfl⟩, hq2, rfl⟩
  ·have hc2 := hq.1
   have hq2 := hq.2
   clear hT hq
   subst hs
   refine spT (by omega) fun h1 => ?_
   refine nd ?_
   refine Row.mk _ hr ?_
   refine nd ?_
   refine Row.mk _ hr ?_
   refine Num.mk _ hw ?_
   refine nd ?_
   refine Row.mk _ hr2 ?_
   refine spF (by omega) fun h2 => ?_
   refine Need.mk (rfl) ?_
   refine Num.mk _ (wrapS (by omega)) ?_
   exact ⟨bs.length - (i + 1), _, by omega, Weak.nrm [true, true, false, false, false, true, true] [] rfl rfl rfl, i + 1, o, ⟨by omega, rfl⟩, hq2, rfl⟩
 ·have hib : i = bs.length := by omega
  subst hib
  rw [List.take_length] at ho
  clear hround
  have hres : RV.one (vs o) = RV.one (vs (bt (logT (leftL bs seq)))) := by rw [ho]
  subst hs
  refine spF (by omega) fun h1 => ?_
  exact Need.mk ⟨[], _, .same, hres, rfl⟩ trivial
theorem spec_l1Max (a b : Int) : AFn Tryz.prog 71 [av (.int .i64 a), av (.int .i64 b)] [] (.one (vi (max a b))) [] := by
 by_cases h : a > b
 ·have hres : max a b = a := by omega
  rw [hres]
  refine AFn.introX (E := En 0 md0) (en_ok 0 _) Tryz.func71 rfl rfl rfl fun _ _ => ?_
  refine spT (by omega) fun h1 => ?_
  exact Need.mk ⟨[], _, .same, rfl, rfl⟩ trivial
 ·have hres : max a b = b := by omega
  rw [hres]
  refine AFn.introX (E := En 0 md0) (en_ok 0 _) Tryz.func71 rfl rfl rfl fun _ _ => ?_
  refine spF (by omega) fun h1 => ?_
  exact Need.mk ⟨[], _, .same, rfl, rfl⟩ trivial
theorem spec_l6Mem (bs : List (List Ent)) (seq : Int) (hn : bs.length ≤ 1048576) (hf : bs.flatten.length ≤ 1048576) : AFn Tryz.prog 97 [.one (.c (.sl (bs.map encX))), av (.int .i64 seq)] [] (.tup [.one (.us 83 ((freshD bs seq).1.map Ent.enc)), .one (vi (freshD bs seq).2)]) [] := by
 have hnl : (bs.map encX).length = bs.length := List.length_map ..
 obtain ⟨g, hg⟩ : ∃ g : Nat → List Ent, ∀ i (hi : i < bs.length), bs[i]'hi = g i := ⟨fun i => bs.getD i [], fun i hi => by simp [List.getD, hi]⟩
 have hrow : ∀ i, i < bs.length → (bs.map encX)[i]? = some [.sl ((g i).map Ent.enc)] ∧ ((g i).map Ent.enc).length = (g i).length ∧ (g i).length ≤ 1048576 := fun i hi => by
  refine ⟨by rw [← hg i hi]; exact map_get encX bs i hi, List.length_map .., ?_⟩
  rw [← hg i hi]
  have h1 := flat_take bs hi
  have h2 := flat_take_le bs (i + 1)
  rw [h1, List.length_append] at h2
  omega
 have hround : ∀ (i k : Nat) (O : List Ent) (z : Int), i < bs.length → k < (g i).length → O = isort eLess (freshAt bs seq i k) → z = maxS seq (freshAt bs seq i k) → ∃ (e : Ent) (O2 : List Ent) (z2 : Int),
   ((g i).map Ent.enc)[k]? = some e.enc ∧ AFn Tryz.prog 137 [sl (O.map Ent.enc), .agg (e.enc.map .c)] [] (.one (.us 83 (O2.map Ent.enc))) [] ∧ AFn Tryz.prog 71 [av (.int .i64 z), av (.int .i64 e.seq)] [] (.one (vi z2)) [] ∧
   ((e.seq > seq ∧ O2 = isort eLess (freshAt bs seq i (k + 1)) ∧ z2 = maxS seq (freshAt bs seq i (k + 1))) ∨ (¬ e.seq > seq ∧ O = isort eLess (freshAt bs seq i (k + 1)) ∧ z = maxS seq (freshAt bs seq i (k + 1)))) := by
  intro i k O z hi hk hO hz
  have hgi := hg i hi
  have hk2 : k < (bs[i]'hi).length := by rw [hgi]; exact hk
  have hin := freshAt_in (seq := seq) hi hk2
  have hlen : O.length ≤ 1048576 := by rw [hO, isort_len]; exact Nat.le_trans (freshAt_len hi) hf
  refine ⟨(bs[i]'hi)[k]'hk2, _, _, by rw [← hgi]; exact map_get _ _ _ hk2, spec_l4Put O _ hlen, spec_l1Max z _, ?_⟩
  by_cases hc : seq < ((bs[i]'hi)[k]'hk2).seq
  ·rw [if_pos hc] at hin
   exact .inl ⟨hc, by rw [hin, isort_snoc, hO], by rw [hin, maxS_snoc, hz]⟩
  ·rw [if_neg hc, List.append_nil] at hin
   exact .inr ⟨hc, by rw [hin, hO], by rw [hin, hz]⟩
 have hnext : ∀ i (hi : i < bs.length), freshAt bs seq i (g i).length = freshAt bs seq (i + 1) 0 := fun i hi => by rw [← hg i hi]; exact freshAt_next hi
 have hend : freshAt bs seq bs.length 0 = freshE bs seq := by rw [freshAt_0, List.take_length]
 refine AFn.introX (E := En 0 md0) (en_ok 0 _) Tryz.func97 rfl rfl rfl fun _ _ => ?_
 let S : Nat → List Ent → Int → St := fun i O z => ⟨some (sl (List.map encX bs)) :: some (av (.int .i64 seq)) :: none :: none :: none :: none :: some (.one (.ref 6 0 (.cell 0))) :: some (av (.int .i64 z)) :: some (av (.int .i64 i)) :: List.replicate 49 none, absent :: absent :: absent :: absent :: absent :: absent :: ⟨0, 1, some [.us 83 (O.map Ent.enc)]⟩ :: List.replicate 51 absent⟩
 refine ALoop.mk (fun m s => ∃ (i : Nat) (O : List Ent) (z : Int), (i ≤ bs.length ∧ m = bs.length - i) ∧ O = isort eLess (freshAt bs seq i 0) ∧ z = maxS seq (freshAt bs seq i 0) ∧ s = S i O z)
  ⟨_, _, Weak.trans (Weak.nrm [true, true, false, false, false, false, true, true, true] [(10, 6)] rfl rfl rfl) Weak.one, 0, [], seq, ⟨Nat.zero_le _, rfl⟩, rfl, rfl, rfl⟩ ?_
 rintro m s ⟨i, O, z, ⟨hi, rfl⟩, hO, hz, hs⟩
 by_cases hi2 : i < bs.length
 ·have hx := hrow i hi2
  have hr := hx.1
  have hgl := hx.2.1
  have hg2 := hx.2.2
  have hnx := hnext i hi2
  have hrd := hround i
  clear hx hround hrow hnext hend hg
  subst hs
  refine spT (by omega) fun h1 => ?_
  let T : Nat → List Ent → Int → St := fun k O z => ⟨some (sl (List.map encX bs)) :: some (av (.int .i64 seq)) :: none :: none :: none :: none :: some (.one (.ref 6 0 (.cell 0))) :: some (av (.int .i64 z)) :: some (av (.int .i64 ↑i)) :: some (av (.int .i64 (k : Nat))) :: List.replicate 48 none, absent :: absent :: absent :: absent :: absent :: absent :: ⟨0, 1, some [.us 83 (List.map Ent.enc O)]⟩ :: List.replicate 51 absent⟩
  refine ALoop.mk (fun m s => ∃ (k : Nat) (O : List Ent) (z : Int), (k ≤ (g i).length ∧ m = (g i).length - k) ∧ O = isort eLess (freshAt bs seq i k) ∧ z = maxS seq (freshAt bs seq i k) ∧ s = T k O z)
   ⟨_, _, Weak.nrm [true, true, false, false, false, false, true, true, true, true] [(6, 6)] rfl rfl rfl, 0, O, z, ⟨Nat.zero_le _, rfl⟩, hO, hz, rfl⟩ ?_
  rintro m s ⟨k, O2, z2, ⟨hk, rfl⟩, hO2, hz2, hs⟩
  clear hO hz
  by_cases hk2 : k < (g i).length
  ·refine Exists.elim (hrd k O2 z2 hi2 hk2 hO2 hz2) fun e hx => ?_
   refine Exists.elim hx fun O3 hx => ?_
   refine Exists.elim hx fun z3 hx => ?_
   have hr2 := hx.1
   have hP := hx.2.1
   have hM := hx.2.2.1
   have hT := hx.2.2.2
   clear hx hrd hO2 hz2 hnx
   refine Or.elim hT (fun hq => ?_) fun hq => ?_
   ·have hc2 := hq.1
    have hq1 := hq.2.1
    have hq2 := hq.2.2
    clear hT hq
    subst hs
    refine nd ?_
    refine Row.mk _ hr ?_
    refine spT (by omega) fun h1 => ?_
    refine nd ?_
    refine Row.mk _ hr ?_
    refine nd ?_
    refine Row.mk _ hr2 ?_
    refine spT (by omega) fun h2 => ?_
    refine nd ?_
    refine Row.mk _ hr ?_
    refine nd ?_
    refine Row.mk _ hr2 ?_
    refine Fz.mk _ (frzE _) ?_
    refine ACall.mk _ _ hP ?_
    refine Need.mk (⟨ClL.mem (.us (clE _) .nil), no_objs⟩) ?_
    refine nd ?_
    refine Row.mk _ hr ?_
    refine nd ?_
    refine Row.mk _ hr2 ?_
    refine ACall.mk _ _ hM ?_
    refine Num.mk _ (wrapS (by omega)) ?_
    exact ⟨(g i).length - (k + 1), _, by omega, Weak.nrm [true, true, false, false, false, false, true, true, true, true] [(45, 6)] rfl rfl rfl, k + 1, O3, z3, ⟨by omega, rfl⟩, hq1, hq2, rfl⟩
   ·have hc2 := hq.1
    have hq1 := hq.2.1
    have hq2 := hq.2.2
    clear hT hq
    subst hs
    refine nd ?_
    refine Row.mk _ hr ?_
    refine spT (by omega) fun h1 => ?_
    refine nd ?_
    refine Row.mk _ hr ?_
    refine nd ?_
    refine Row.mk _ hr2 ?_
    refine spF (by omega) fun h2 => ?_
    refine Num.mk _ (wrapS (by omega)) ?_
    exact ⟨(g i).length - (k + 1), _, by omega, Weak.nrm [true, true, false, false, false, false, true, true, true, true] [(6, 6)] rfl rfl rfl, k + 1, O2, z2, ⟨by omega, rfl⟩, hq1, hq2, rfl⟩
  ·have hkg : k = (g i).length := by omega
   subst hkg
   rw [hnx] at hO2 hz2
   clear hrd hnx
   subst hs
   refine nd ?_
   refine Row.mk _ hr ?_
   refine spF (by omega) fun h1 => ?_
   refine Num.mk _ (wrapS (by omega)) ?_
   exact ⟨bs.length - (i + 1), _, by omega, Weak.nrm [true, true, false, false, false, false, true, true, true] [(6, 6)] rfl rfl rfl, i + 1, O2, z2, ⟨by omega, rfl⟩, hO2, hz2, rfl⟩
 ·have hib : i = bs.length := by omega
  subst hib
  rw [hend] at hO hz
  clear hround hrow hnext hend hg
  have hres : RV.tup [.one (.us 83 (O.map Ent.enc)), .one (vi z)] = RV.tup [.one (.us 83 ((freshD bs seq).1.map Ent.enc)), .one (vi (freshD bs seq).2)] := by rw [hO, hz]; rfl
  subst hs
  refine spF (by omega) fun h1 => ?_
  exact Need.mk ⟨[], _, .same, hres, rfl⟩ trivial
theorem spec_FrameRead (s : ByteArray) (hs : s.size ≤ 1048576) (R : List (List Ent)) (r : Bs) (hR : readD (tb s) = (R, r)) : AFn Tryz.prog 96 [av (.string s)] [] (.tup [.one (.us 32 (R.map encXO)), .one (vi ((s.size : Int) - r.length))]) [] := by
 refine AFn.introX (E := En 0 md0) (en_ok 0 md0) Tryz.func96 rfl rfl rfl fun _ _ => ?_
 let S : List (List Ent) → Nat → St := fun out p => ⟨some (av (.string s)) :: none :: none :: none :: some (.one (.ref 4 0 (.cell 0))) :: some (av (.int .i64 p)) :: List.replicate 24 none, absent :: absent :: absent :: absent :: ⟨0, 1, some [.us 32 (out.map encXO)]⟩ :: List.replicate 25 absent⟩
 refine ALoop.mk (fun m s' => ∃ (out : List (List Ent)) (p : Nat), (p ≤ s.size ∧ out.length ≤ p ∧ m = s.size - p) ∧ readD (tb s) = (out ++ (readD ((tb s).drop p)).1, (readD ((tb s).drop p)).2) ∧ s' = S out p)
  ⟨_, _, Weak.trans (Weak.nrm [true, false, false, false, true, true] [(8, 4)] rfl rfl rfl) Weak.one, [], 0, ⟨Nat.zero_le _, Nat.zero_le _, rfl⟩, rfl, rfl⟩ ?_
 rintro m st ⟨out, p, ⟨hp, hop, rfl⟩, hI, hst⟩
 have hol : (out.map encXO).length = out.length := List.length_map ..
 by_cases hlt : p < s.size
 ·have hF := frameA_rng hp
  by_cases hn : frameD ((tb s).drop p) = none
  ·have hA := l6_Frame s p hs hp [] (-1) (frameA_no hp hn)
   have hres : RV.tup [.one (.us 32 (out.map encXO)), .one (vi (p : Int))] = RV.tup [.one (.us 32 (R.map encXO)), .one (vi ((s.size : Int) - r.length))] := by
    rw [readD_none hn, hR] at hI
    injection hI with e1 e2
    rw [List.append_nil] at e1
    rw [e1, e2, List.length_drop, tb_len, show (s.size : Int) - ((s.size - p : Nat) : Int) = p by omega]
   subst hst
   refine spT (by omega) fun h1 => ?_
   refine ACall.mk _ _ hA ?_
   refine sp1 ?_
   exact Need.mk ⟨[], _, .same, hres, rfl⟩ trivial
  ·have hex : ∃ (b : List Ent) (q : Nat), frameA s p = (b, (q : Int)) ∧ p < q ∧ q ≤ s.size ∧ frameD ((tb s).drop p) = some (b, (tb s).drop q) := hF.resolve_left fun h => hn h.2
   obtain ⟨b, q, h1, h2, h3, h4⟩ := hex
   have hA := l6_Frame s p hs hp b q h1
   rw [readD_some h4] at hI
   have hI2 : readD (tb s) = ((out ++ [b]) ++ (readD ((tb s).drop q)).1, (readD ((tb s).drop q)).2) := by rw [hI]; simp
   have hol2 : (out ++ [b]).length = out.length + 1 := by simp
   have hmap : out.map encXO ++ [encXO b] = (out ++ [b]).map encXO := by rw [List.map_append]; rfl
   clear hF hn h1 h4 hI
   subst hst
   refine spT (by omega) fun h1 => ?_
   refine ACall.mk _ _ hA ?_
   refine sp0 ?_
   refine apq (A' := _) (B' := [encXO b]) rfl rfl ?_
   exact ⟨_, _, by omega, Weak.nrm [true, false, false, false, true, true] [(26, 4)] rfl rfl rfl, out ++ [b], q, ⟨h3, by omega, rfl⟩, hI2, congrArg (fun R => (⟨some (av (.string s)) :: none :: none :: none :: some (.one (.ref 4 0 (.cell 0))) :: some (av (.int .i64 q)) :: List.replicate 24 none, absent :: absent :: absent :: absent :: ⟨0, 1, some [.us 32 R]⟩ :: List.replicate 25 absent⟩ : St)) hmap⟩
 ·have hres : RV.tup [.one (.us 32 (out.map encXO)), .one (vi (p : Int))] = RV.tup [.one (.us 32 (R.map encXO)), .one (vi ((s.size : Int) - r.length))] := by
   rw [drop_nil.2 (by omega), readD_nil, hR] at hI
   injection hI with e1 e2
   rw [List.append_nil] at e1
   rw [e1, e2, show (s.size : Int) - (([] : Bs).length : Int) = p by simp; omega]
  subst hst
  refine spF (by omega) fun h1 => ?_
  exact Need.mk ⟨[], _, .same, hres, rfl⟩ trivial
theorem spec_l6Open (s : Sto) (lv2 : List (List C)) (hs : s.disk.log.size ≤ 12000) (hC : AFn Tryz.prog 70 [sl (s.disk.levels.map encL)] [] (.one (.us 110 lv2)) []) : AFn Tryz.prog 53 [.agg (s.enc.map .c)] [] (.agg [vb true, vi (openD s).tree.seq, .us 83 ((openD s).tree.mem.map Ent.enc), .us 110 lv2, .us 3 [], vs (openD s).disk.log, vi (openD s).disk.safe, .sl (s.disk.levels.map encL), vi s.disk.seq]) [] := by
 obtain ⟨up, ⟨tseq, mem, lv, snaps⟩, ⟨log, safe, dlv, dseq⟩⟩ := s
 simp only at hs hC
 have hex : ∃ x, readD (tb log) = x := ⟨_, rfl⟩
 obtain ⟨⟨R, r⟩, hR⟩ := hex
 have hRd := spec_FrameRead log (by omega) R r hR
 have hbR : batD ⟨log, safe, dlv, dseq⟩ = R := congrArg Prod.fst hR
 have hE := readD_ents hR
 have hok := hE.2.2.2
 have hRn := hE.2.1
 have hRf := hE.1
 rw [tb_len] at hRn hRf
 have hlog : (logT R).length ≤ 12000 := by
  have := batD_log ⟨log, safe, dlv, dseq⟩
  rw [hbR] at this
  exact Nat.le_trans this hs
 have hM := spec_l6Mem R dseq (by omega) (by omega)
 have hL := spec_l6Left R dseq (fun b hb => by
  have hp := batOk_p (hok b hb)
  refine ⟨fun e he => ?_, hp.1, by omega⟩
  have hq := entOk_p (hp.2.2.1 e he)
  have hk := (keyOk_no32 hq.1).2
  rw [tb_len] at hk
  have hm : 60 ≤ maxLen := by decide
  exact ⟨by omega, by omega⟩) (by omega) (by omega)
 have hop : openD ⟨up, ⟨tseq, mem, lv, snaps⟩, ⟨log, safe, dlv, dseq⟩⟩ = ⟨true, ⟨maxS dseq (freshE R dseq), isort eLess (freshE R dseq), dlv, []⟩, ⟨bt (logT (leftL R dseq)), ((logT (leftL R dseq)).length : Nat), dlv, dseq⟩⟩ := by unfold openD; rw [hbR]
 rw [hop]
 rw [← bt_size (logT (leftL R dseq))]
 generalize bt (logT (leftL R dseq)) = o at hL
 show AFn Tryz.prog 53 [.agg [.c (vb up), .c (vi tseq), .c (.sl (mem.map Ent.enc)), .c (.sl (lv.map encL)), .c (.sl (snaps.map encI)), .c (vs log), .c (vi safe), .c (.sl (dlv.map encL)), .c (vi dseq)]] [] (.agg [vb true, vi (maxS dseq (freshE R dseq)), .us 83 ((isort eLess (freshE R dseq)).map Ent.enc), .us 110 lv2, .us 3 [], vs o, vi (o.size : Nat), .sl (dlv.map encL), vi dseq]) []
 have hM : AFn Tryz.prog 97 [.one (.c (.sl (R.map encX))), av (.int .i64 dseq)] [] (.tup [.one (.us 83 ((isort eLess (freshE R dseq)).map Ent.enc)), .one (vi (maxS dseq (freshE R dseq)))]) [] := hM
 clear hop hE hok
 refine AFn.introX (E := En 0 md0 (fz := [3])) (en_ok 0 _ _ _ _) Tryz.func53 rfl rfl rfl fun _ _ => ?_
 refine ACall.mk _ _ hRd ?_
 refine Fz.mk _ (frzX _) ?_
 refine ACall.mk _ _ hM ?_
 refine ACall.mk _ _ hL ?_
 refine ACall.mk _ _ hC ?_
 exact Need.mk ⟨[], _, .same, rfl, rfl⟩ trivial
theorem spec_l6Up (s : Sto) (hs : s.disk.log.size ≤ 12000) (h0 : 0 ≤ s.disk.seq) (hT : AFn Tryz.prog 59 [.agg (s.tree.enc.map .c)] [] (rb (treeOk s.tree)) []) : AFn Tryz.prog 60 [.agg (s.enc.map .c)] [] (rb (upB s)) [] := by
 obtain ⟨up, ⟨tseq, mem, lv, snaps⟩, ⟨log, safe, dlv, dseq⟩⟩ := s
 simp only at hs h0 hT
 have hex : ∃ x, readD (tb log) = x := ⟨_, rfl⟩
 obtain ⟨⟨R, r⟩, hR⟩ := hex
 have hRd := spec_FrameRead log (by omega) R r hR
 have hbR : batD ⟨log, safe, dlv, dseq⟩ = R := congrArg Prod.fst hR
 have hE := readD_ents hR
 have hRn := hE.2.1
 have hRf := hE.1
 rw [tb_len] at hRn hRf
 have hM := spec_l6Mem R dseq (by omega) (by omega)
 have hM : AFn Tryz.prog 97 [.one (.c (.sl (R.map encX))), av (.int .i64 dseq)] [] (.tup [.one (.us 83 ((isort eLess (freshE R dseq)).map Ent.enc)), .one (vi (maxS dseq (freshE R dseq)))]) [] := hM
 have hV := spec_l5Levels dlv lv
 have hQ := spec_l4Same (isort eLess (freshE R dseq)) mem
 have hup : upB ⟨up, ⟨tseq, mem, lv, snaps⟩, ⟨log, safe, dlv, dseq⟩⟩ = (treeOk ⟨tseq, mem, lv, snaps⟩ && (decide (lv = dlv) && (decide (dseq ≤ tseq) && (decide (r = []) && (decide (maxS dseq (freshE R dseq) = tseq) && decide (isort eLess (freshE R dseq) = mem)))))) := by
  unfold upB; rw [hbR]; show _ = _; simp only [hR]
 rw [hup]
 have hrl : r = [] ↔ r.length = 0 := List.length_eq_zero_iff.symm
 have hrle : r.length ≤ log.size := by have := hE.2.2.1; rwa [tb_len] at this
 have hfin : ∀ (b1 b2 b3 b4 b5 b6 : Bool), treeOk ⟨tseq, mem, lv, snaps⟩ = b1 → decide (dlv = lv) = b2 → decide (dseq ≤ tseq) = b3 → decide (r.length = 0) = b4 → decide (maxS dseq (freshE R dseq) = tseq) = b5 → decide (isort eLess (freshE R dseq) = mem) = b6 →
   (treeOk ⟨tseq, mem, lv, snaps⟩ && (decide (lv = dlv) && (decide (dseq ≤ tseq) && (decide (r = []) && (decide (maxS dseq (freshE R dseq) = tseq) && decide (isort eLess (freshE R dseq) = mem)))))) = (b1 && (b2 && (b3 && (b4 && (b5 && b6))))) := by
  intro b1 b2 b3 b4 b5 b6 e1 e2 e3 e4 e5 e6
  rw [← e1, ← e2, ← e3, ← e4, ← e5, ← e6]
  simp only [eq_comm (a := lv), hrl]
 have hT : AFn Tryz.prog 59 [.agg [.c (vi tseq), .c (.sl (mem.map Ent.enc)), .c (.sl (lv.map encL)), .c (.sl (snaps.map encI))]] [] (rb (treeOk ⟨tseq, mem, lv, snaps⟩)) [] := hT
 have hfin := hfin _ _ _ _ _ _ rfl rfl rfl rfl rfl rfl
 rw [hfin]
 generalize treeOk ⟨tseq, mem, lv, snaps⟩ = b1 at hT
 generalize decide (dlv = lv) = b2 at hV
 generalize decide (isort eLess (freshE R dseq) = mem) = b6 at hQ
 generalize maxS dseq (freshE R dseq) = z at hM
 clear hfin hup hE hrl hbR hR hRn hRf
 show AFn Tryz.prog 60 [.agg [.c (vb up), .c (vi tseq), .c (.sl (mem.map Ent.enc)), .c (.sl (lv.map encL)), .c (.sl (snaps.map encI)), .c (vs log), .c (vi safe), .c (.sl (dlv.map encL)), .c (vi dseq)]] [] _ []
 cases b1 with
 | false =>
  refine AFn.introX (E := En 0 md0 (fz := [3, 5])) (en_ok 0 _ _ _ _) Tryz.func60 rfl rfl rfl fun _ _ => ?_
  refine ACall.mk _ _ hT ?_
  refine sp0 ?_
  exact Need.mk ⟨[], _, .same, rfl, rfl⟩ trivial
 | true =>
  cases b2 with
  | false =>
   refine AFn.introX (E := En 0 md0 (fz := [3, 5])) (en_ok 0 _ _ _ _) Tryz.func60 rfl rfl rfl fun _ _ => ?_
   refine ACall.mk _ _ hT ?_
   refine sp1 ?_
   refine ACall.mk _ _ hV ?_
   refine sp0 ?_
   exact Need.mk ⟨[], _, .same, rfl, rfl⟩ trivial
  | true =>
   by_cases h3 : dseq ≤ tseq
   ·rw [decide_eq_true h3]
    by_cases h4 : r.length = 0
    ·rw [decide_eq_true h4]
     by_cases h5 : z = tseq
     ·rw [decide_eq_true h5]
      cases b6 with
      | false =>
       refine AFn.introX (E := En 0 md0 (fz := [3, 5])) (en_ok 0 _ _ _ _) Tryz.func60 rfl rfl rfl fun _ _ => ?_
       refine ACall.mk _ _ hT ?_
       refine sp1 ?_
       refine ACall.mk _ _ hV ?_
       refine sp1 ?_
       refine spF (by omega) fun h3 => ?_
       refine spF (by omega) fun h4 => ?_
       refine ACall.mk _ _ hRd ?_
       refine Fz.mk _ (frzX _) ?_
       refine ACall.mk _ _ hM ?_
       refine Fz.mk _ (frzE _) ?_
       refine sqT (by omega) fun h5 => ?_
       refine ACall.mk _ _ hQ ?_
       refine sp0 ?_
       exact Need.mk ⟨[], _, .same, rfl, rfl⟩ trivial
      | true =>
       refine AFn.introX (E := En 0 md0 (fz := [3, 5])) (en_ok 0 _ _ _ _) Tryz.func60 rfl rfl rfl fun _ _ => ?_
       refine ACall.mk _ _ hT ?_
       refine sp1 ?_
       refine ACall.mk _ _ hV ?_
       refine sp1 ?_
       refine spF (by omega) fun h3 => ?_
       refine spF (by omega) fun h4 => ?_
       refine ACall.mk _ _ hRd ?_
       refine Fz.mk _ (frzX _) ?_
       refine ACall.mk _ _ hM ?_
       refine Fz.mk _ (frzE _) ?_
       refine sqT (by omega) fun h5 => ?_
       refine ACall.mk _ _ hQ ?_
       refine sp1 ?_
       refine sqT (by omega) fun h7 => ?_
       exact Need.mk ⟨[], _, .same, rfl, rfl⟩ trivial
     ·rw [decide_eq_false h5]
      cases b6 with
      | false =>
       refine AFn.introX (E := En 0 md0 (fz := [3, 5])) (en_ok 0 _ _ _ _) Tryz.func60 rfl rfl rfl fun _ _ => ?_
       refine ACall.mk _ _ hT ?_
       refine sp1 ?_
       refine ACall.mk _ _ hV ?_
       refine sp1 ?_
       refine spF (by omega) fun h3 => ?_
       refine spF (by omega) fun h4 => ?_
       refine ACall.mk _ _ hRd ?_
       refine Fz.mk _ (frzX _) ?_
       refine ACall.mk _ _ hM ?_
       refine Fz.mk _ (frzE _) ?_
       refine sqT (by omega) fun h5 => ?_
       refine ACall.mk _ _ hQ ?_
       refine sp0 ?_
       exact Need.mk ⟨[], _, .same, rfl, rfl⟩ trivial
      | true =>
       refine AFn.introX (E := En 0 md0 (fz := [3, 5])) (en_ok 0 _ _ _ _) Tryz.func60 rfl rfl rfl fun _ _ => ?_
       refine ACall.mk _ _ hT ?_
       refine sp1 ?_
       refine ACall.mk _ _ hV ?_
       refine sp1 ?_
       refine spF (by omega) fun h3 => ?_
       refine spF (by omega) fun h4 => ?_
       refine ACall.mk _ _ hRd ?_
       refine Fz.mk _ (frzX _) ?_
       refine ACall.mk _ _ hM ?_
       refine Fz.mk _ (frzE _) ?_
       refine sqT (by omega) fun h5 => ?_
       refine ACall.mk _ _ hQ ?_
       refine sp1 ?_
       refine sqF (by omega) fun h7 => ?_
       exact Need.mk ⟨[], _, .same, rfl, rfl⟩ trivial
    ·rw [decide_eq_false h4]
     refine AFn.introX (E := En 0 md0 (fz := [3, 5])) (en_ok 0 _ _ _ _) Tryz.func60 rfl rfl rfl fun _ _ => ?_
     refine ACall.mk _ _ hT ?_
     refine sp1 ?_
     refine ACall.mk _ _ hV ?_
     refine sp1 ?_
     refine spF (by omega) fun h3 => ?_
     refine spF (by omega) fun h4 => ?_
     refine ACall.mk _ _ hRd ?_
     refine Fz.mk _ (frzX _) ?_
     refine ACall.mk _ _ hM ?_
     refine Fz.mk _ (frzE _) ?_
     refine sqF (by omega) fun h5 => ?_
     exact Need.mk ⟨[], _, .same, rfl, rfl⟩ trivial
   ·rw [decide_eq_false h3]
    refine AFn.introX (E := En 0 md0 (fz := [3, 5])) (en_ok 0 _ _ _ _) Tryz.func60 rfl rfl rfl fun _ _ => ?_
    refine ACall.mk _ _ hT ?_
    refine sp1 ?_
    refine ACall.mk _ _ hV ?_
    refine sp1 ?_
    refine spF (by omega) fun h3 => ?_
    refine spT (by omega) fun h4 => ?_
    exact Need.mk ⟨[], _, .same, rfl, rfl⟩ trivial
theorem spec_StoreOkUp (s : Sto) (hu : s.up = true) (hD : AFn Tryz.prog 59 [.agg [.c (vi s.disk.seq), .c (.sl []), .c (.sl (s.disk.levels.map encL)), .c (.sl [])]] [] (rb (treeOk ⟨s.disk.seq, [], s.disk.levels, []⟩)) []) (hU : diskB s.disk = true → AFn Tryz.prog 60 [.agg (s.enc.map .c)] [] (rb (upB s)) []) : AFn Tryz.prog 21 [.agg (s.enc.map .c)] [] (rb (storeOk s)) [] := by
 rw [storeOk_up hu]
 generalize upB s = b1 at hU
 obtain ⟨up, ⟨tseq, mem, lv, snaps⟩, ⟨log, safe, dlv, dseq⟩⟩ := s
 simp only at hu hU hD
 subst hu
 have hU : ∀ _ : Unit, diskB ⟨log, safe, dlv, dseq⟩ = true → AFn Tryz.prog 60 [.agg [.c (vb true), .c (vi tseq), .c (.sl (mem.map Ent.enc)), .c (.sl (lv.map encL)), .c (.sl (snaps.map encI)), .c (vs log), .c (vi safe), .c (.sl (dlv.map encL)), .c (vi dseq)]] [] (rb b1) [] := fun _ => hU
 have e0 : diskB ⟨log, safe, dlv, dseq⟩ = (decide (log.size ≤ 12000) && (decide (0 ≤ safe) && (decide (safe ≤ log.size) && treeOk ⟨dseq, [], dlv, []⟩))) := rfl
 show AFn Tryz.prog 21 [.agg [.c (vb true), .c (vi tseq), .c (.sl (mem.map Ent.enc)), .c (.sl (lv.map encL)), .c (.sl (snaps.map encI)), .c (vs log), .c (vi safe), .c (.sl (dlv.map encL)), .c (vi dseq)]] [] (rb (diskB ⟨log, safe, dlv, dseq⟩ && b1)) []
 rw [e0] at hU ⊢
 clear e0
 generalize treeOk ⟨dseq, [], dlv, []⟩ = b0 at hD hU
 by_cases h1 : log.size ≤ 12000
 ·by_cases h2 : 0 ≤ safe
  ·by_cases h3 : safe ≤ log.size
   ·cases b0 with
    | false =>
     rw [decide_eq_true h1, decide_eq_true h2, decide_eq_true h3]
     refine AFn.introX (E := En 0 md0) (en_ok 0 _) Tryz.func21 rfl rfl rfl fun _ _ => ?_
     refine spF (by omega) fun h1 => ?_
     refine spF (by omega) fun h2 => ?_
     refine spF (by omega) fun h3 => ?_
     refine ACall.mk _ _ hD ?_
     refine sp0 ?_
     exact Need.mk ⟨[], _, .same, rfl, rfl⟩ trivial
    | true =>
     have hU := hU () (by rw [decide_eq_true h1, decide_eq_true h2, decide_eq_true h3]; rfl)
     rw [decide_eq_true h1, decide_eq_true h2, decide_eq_true h3]
     refine AFn.introX (E := En 0 md0) (en_ok 0 _) Tryz.func21 rfl rfl rfl fun _ _ => ?_
     refine spF (by omega) fun h1 => ?_
     refine spF (by omega) fun h2 => ?_
     refine spF (by omega) fun h3 => ?_
     refine ACall.mk _ _ hD ?_
     refine sp1 ?_
     refine ACall.mk _ _ hU ?_
     refine Split.mk fun t h5 => ?_
     cases t
     ·skip
      exact Need.mk ⟨[], _, .same, congrArg rb h5.symm, rfl⟩ trivial
     ·skip
      exact Need.mk ⟨[], _, .same, congrArg rb h5.symm, rfl⟩ trivial
   ·rw [decide_eq_true h1, decide_eq_true h2, decide_eq_false h3]
    clear hU
    refine AFn.introX (E := En 0 md0) (en_ok 0 _) Tryz.func21 rfl rfl rfl fun _ _ => ?_
    refine spF (by omega) fun h1 => ?_
    refine spF (by omega) fun h2 => ?_
    refine spT (by omega) fun h3 => ?_
    exact Need.mk ⟨[], _, .same, rfl, rfl⟩ trivial
  ·rw [decide_eq_true h1, decide_eq_false h2]
   clear hU
   refine AFn.introX (E := En 0 md0) (en_ok 0 _) Tryz.func21 rfl rfl rfl fun _ _ => ?_
   refine spF (by omega) fun h1 => ?_
   refine spT (by omega) fun h2 => ?_
   exact Need.mk ⟨[], _, .same, rfl, rfl⟩ trivial
 ·rw [decide_eq_false h1]
  clear hU
  refine AFn.introX (E := En 0 md0) (en_ok 0 _) Tryz.func21 rfl rfl rfl fun _ _ => ?_
  refine spT (by omega) fun h1 => ?_
  exact Need.mk ⟨[], _, .same, rfl, rfl⟩ trivial
theorem spec_StoreOkDown (s : Sto) (hu : s.up = false) (hD : AFn Tryz.prog 59 [.agg [.c (vi s.disk.seq), .c (.sl []), .c (.sl (s.disk.levels.map encL)), .c (.sl [])]] [] (rb (treeOk ⟨s.disk.seq, [], s.disk.levels, []⟩)) [])
  (hO : diskB s.disk = true → AFn Tryz.prog 53 [.agg (s.enc.map .c)] [] (.agg [vb true, vi (openD s).tree.seq, .us 83 ((openD s).tree.mem.map Ent.enc), .us 110 (s.disk.levels.map encLO), .us 3 [], vs (openD s).disk.log, vi (openD s).disk.safe, .sl (s.disk.levels.map encL), vi s.disk.seq]) [])
  (hU : diskB s.disk = true → AFn Tryz.prog 60 [.agg ((openD s).enc.map .c)] [] (rb (upB (openD s))) []) : AFn Tryz.prog 21 [.agg (s.enc.map .c)] [] (rb (storeOk s)) [] := by
 have hst : storeOk s = (diskB s.disk && (decide (s.tree = tre00) && upB (openD s))) := by unfold storeOk; rw [hu]; rfl
 have hS := spec_TreeSame s.tree tre00
 rw [hst]
 have hoenc : (openD s).enc = [vb true, vi (openD s).tree.seq, .sl ((openD s).tree.mem.map Ent.enc), .sl (s.disk.levels.map encL), .sl [], vs (openD s).disk.log, vi (openD s).disk.safe, .sl (s.disk.levels.map encL), vi s.disk.seq] := rfl
 rw [hoenc] at hU
 generalize upB (openD s) = b3 at hU
 generalize (openD s).tree.seq = o1 at hU hO
 generalize (openD s).tree.mem = o2 at hU hO
 generalize (openD s).disk.log = o3 at hU hO
 generalize (openD s).disk.safe = o4 at hU hO
 clear hoenc hst
 have hFz := frzE (e := 83) o2
 have hFz2 := frzI (e := 3) []
 have hFz3 := frzRR s.disk.levels
 obtain ⟨up, ⟨tseq, mem, lv, snaps⟩, ⟨log, safe, dlv, dseq⟩⟩ := s
 simp only at hu hU hD hS hO hFz3
 subst hu
 have hS : AFn Tryz.prog 61 [.agg [.c (vi tseq), .c (.sl (mem.map Ent.enc)), .c (.sl (lv.map encL)), .c (.sl (snaps.map encI))], .agg [.c (vi 0), .c (.sl []), .c (.sl []), .c (.sl [])]] [] (rb (decide (⟨tseq, mem, lv, snaps⟩ = tre00))) [] := hS
 generalize decide ((⟨tseq, mem, lv, snaps⟩ : Tre) = tre00) = b2 at hS
 have hU : ∀ _ : Unit, diskB ⟨log, safe, dlv, dseq⟩ = true → AFn Tryz.prog 60 [.agg [.c (vb true), .c (vi o1), .c (.sl (o2.map Ent.enc)), .c (.sl (dlv.map encL)), .c (.sl []), .c (vs o3), .c (vi o4), .c (.sl (dlv.map encL)), .c (vi dseq)]] [] (rb b3) [] := fun _ => hU
 have hO : ∀ _ : Unit, diskB ⟨log, safe, dlv, dseq⟩ = true → AFn Tryz.prog 53 [.agg [.c (vb false), .c (vi tseq), .c (.sl (mem.map Ent.enc)), .c (.sl (lv.map encL)), .c (.sl (snaps.map encI)), .c (vs log), .c (vi safe), .c (.sl (dlv.map encL)), .c (vi dseq)]] [] (.agg [vb true, vi o1, .us 83 (o2.map Ent.enc), .us 110 (dlv.map encLO), .us 3 [], vs o3, vi o4, .sl (dlv.map encL), vi dseq]) [] := fun _ => hO
 have e0 : diskB ⟨log, safe, dlv, dseq⟩ = (decide (log.size ≤ 12000) && (decide (0 ≤ safe) && (decide (safe ≤ log.size) && treeOk ⟨dseq, [], dlv, []⟩))) := rfl
 show AFn Tryz.prog 21 [.agg [.c (vb false), .c (vi tseq), .c (.sl (mem.map Ent.enc)), .c (.sl (lv.map encL)), .c (.sl (snaps.map encI)), .c (vs log), .c (vi safe), .c (.sl (dlv.map encL)), .c (vi dseq)]] [] (rb (diskB ⟨log, safe, dlv, dseq⟩ && (b2 && b3))) []
 rw [e0] at hU hO ⊢
 clear e0
 generalize treeOk ⟨dseq, [], dlv, []⟩ = b0 at hD hU hO
 by_cases h1 : log.size ≤ 12000
 ·by_cases h2 : 0 ≤ safe
  ·by_cases h3 : safe ≤ log.size
   ·cases b0 with
    | false =>
     rw [decide_eq_true h1, decide_eq_true h2, decide_eq_true h3]
     clear hU hO
     refine AFn.introX (E := En 0 md0) (en_ok 0 _) Tryz.func21 rfl rfl rfl fun _ _ => ?_
     refine spF (by omega) fun h1 => ?_
     refine spF (by omega) fun h2 => ?_
     refine spF (by omega) fun h3 => ?_
     refine ACall.mk _ _ hD ?_
     refine sp0 ?_
     exact Need.mk ⟨[], _, .same, rfl, rfl⟩ trivial
    | true =>
     have hU := hU () (by rw [decide_eq_true h1, decide_eq_true h2, decide_eq_true h3]; rfl)
     have hO := hO () (by rw [decide_eq_true h1, decide_eq_true h2, decide_eq_true h3]; rfl)
     rw [decide_eq_true h1, decide_eq_true h2, decide_eq_true h3]
     cases b2 with
     | false =>
      refine AFn.introX (E := En 0 md0) (en_ok 0 _) Tryz.func21 rfl rfl rfl fun _ _ => ?_
      refine spF (by omega) fun h1 => ?_
      refine spF (by omega) fun h2 => ?_
      refine spF (by omega) fun h3 => ?_
      refine ACall.mk _ _ hD ?_
      refine sp1 ?_
      refine ACall.mk _ _ hS ?_
      refine sp0 ?_
      exact Need.mk ⟨[], _, .same, rfl, rfl⟩ trivial
     | true =>
      refine AFn.introX (E := En 0 md0) (en_ok 0 _) Tryz.func21 rfl rfl rfl fun _ _ => ?_
      refine spF (by omega) fun h1 => ?_
      refine spF (by omega) fun h2 => ?_
      refine spF (by omega) fun h3 => ?_
      refine ACall.mk _ _ hD ?_
      refine sp1 ?_
      refine ACall.mk _ _ hS ?_
      refine sp1 ?_
      refine ACall.mk _ _ hO ?_
      refine Fz.mk _ hFz ?_
      refine Fz.mk _ hFz3 ?_
      refine Fz.mk _ hFz2 ?_
      refine ACall.mk _ _ hU ?_
      refine Need.mk (⟨ClL.mem (.v .nil), no_objs⟩) ?_
      refine Split.mk fun t h6 => ?_
      cases t
      ·skip
       exact Need.mk ⟨[], _, .same, congrArg rb h6.symm, rfl⟩ trivial
      ·skip
       exact Need.mk ⟨[], _, .same, congrArg rb h6.symm, rfl⟩ trivial
   ·rw [decide_eq_true h1, decide_eq_true h2, decide_eq_false h3]
    clear hU hO
    refine AFn.introX (E := En 0 md0) (en_ok 0 _) Tryz.func21 rfl rfl rfl fun _ _ => ?_
    refine spF (by omega) fun h1 => ?_
    refine spF (by omega) fun h2 => ?_
    refine spT (by omega) fun h3 => ?_
    exact Need.mk ⟨[], _, .same, rfl, rfl⟩ trivial
  ·rw [decide_eq_true h1, decide_eq_false h2]
   clear hU hO
   refine AFn.introX (E := En 0 md0) (en_ok 0 _) Tryz.func21 rfl rfl rfl fun _ _ => ?_
   refine spF (by omega) fun h1 => ?_
   refine spT (by omega) fun h2 => ?_
   exact Need.mk ⟨[], _, .same, rfl, rfl⟩ trivial
 ·rw [decide_eq_false h1]
  clear hU hO
  refine AFn.introX (E := En 0 md0) (en_ok 0 _) Tryz.func21 rfl rfl rfl fun _ _ => ?_
  refine spT (by omega) fun h1 => ?_
  exact Need.mk ⟨[], _, .same, rfl, rfl⟩ trivial
theorem spec_StoreOk (s : Sto) (hok : s.Ok) (ht : s.tree.Small) (hsd : s.disk.Small) : AFn Tryz.prog 21 [.agg (s.enc.map .c)] [] (rb (storeOk s)) [] := by
 have h40 : (1048576 : Nat) ≤ 1099511627776 := by decide
 have hz1 : ∀ l ∈ s.disk.levels, ∀ r ∈ l, r.ents.length ≤ 1099511627776 := fun l hl r hr => Nat.le_trans ((hsd.2 l hl).2 r hr) h40
 have hz2 : ∀ l ∈ s.tree.levels, ∀ r ∈ l, r.ents.length ≤ 1099511627776 := fun l hl r hr => Nat.le_trans ((ht.2.2.1 l hl).2 r hr) h40
 have hD := spec_TreeOk ⟨s.disk.seq, [], s.disk.levels, []⟩ ⟨fun e he => (nomatch he), hok.2.2⟩ (Nat.zero_le _) hz1
 have hq : diskB s.disk = true → 0 ≤ s.disk.seq := fun h => (treeOk_first (diskB_iff.1 h).2.2.2).1
 have hlg : diskB s.disk = true → s.disk.log.size ≤ 12000 := fun h => (diskB_iff.1 h).1
 cases hu : s.up with
 | true => exact spec_StoreOkUp s hu hD fun h => spec_l6Up s (hlg h) (hq h) (spec_TreeOk s.tree hok.1 (Nat.le_trans ht.2.2.2 h40) hz2)
 | false =>
  have ho := open_Ok hok.2
  exact spec_StoreOkDown s hu hD (fun h => spec_l6Open s _ (hlg h) (spec_l5CopyLevels s.disk.levels hsd.1 hsd.2)) fun h => spec_l6Up (openD s) (Nat.le_trans open_log (hlg h)) (hq h) (spec_TreeOk (openD s).tree ho.1 (Nat.zero_le _) hz1)
theorem storeDo_c1 (f : FuncId) (o : C) (x : Sto) (b : Bool) (s : Sto) (hO : AFn Tryz.prog 20 [.agg (s.enc.map .c)] [] (rb (storeOk s)) []) (hd : storeOk s = true → AFnK Tryz.prog f [.agg (s.enc.map .c), .bx 0 0] [[o]] [0] (.tup [.agg x.enc, .one (vb b)]) [[o]])
  (hb : b = false → x = s) (hc1 : AFn Tryz.prog 76 [.agg (s.enc.map .c)] [] (.agg (encSO s)) []) (hc2 : storeOk s = true → AFn Tryz.prog 76 [.agg (x.enc.map .c)] [] (.agg (encSO x)) []) :
  AFnK Tryz.prog 35 [.agg (s.enc.map .c), .clo f [.bx 0 0]] [[o]] [0] (.tup [.agg (encSO (if storeOk s then x else sto00)), .one (vb (storeOk s && b))]) [[o]] := by
 generalize storeOk s = b0 at hO hd hc2
 cases b0 with
 | false =>
  clear hd hc2 hb
  refine AFnK.introX (E := En 1 md0) (en_ok 1 _ _ _ _ _) Tryz.func35 rfl rfl rfl fun _ _ => ?_
  refine ACall.mk _ _ hO ?_
  refine sp0 ?_
  exact Need.mk ⟨[], _, .same, rfl, rfl⟩ trivial
 | true =>
  have hd := hd rfl
  have hc2 := hc2 rfl
  cases b with
  | false =>
   have hx := hb rfl
   subst hx
   clear hb hc2
   refine AFnK.introX (E := En 1 md0) (en_ok 1 _ _ _ _ _) Tryz.func35 rfl rfl rfl fun _ _ => ?_
   refine ACall.mk _ _ hO ?_
   refine sp1 ?_
   refine ACall.mk _ _ hd ?_
   refine sp0 ?_
   refine ACall.mk _ _ hc1 ?_
   exact Need.mk ⟨[], _, .same, rfl, rfl⟩ trivial
  | true =>
   clear hb
   refine AFnK.introX (E := En 1 md0) (en_ok 1 _ _ _ _ _) Tryz.func35 rfl rfl rfl fun _ _ => ?_
   refine ACall.mk _ _ hO ?_
   refine sp1 ?_
   refine ACall.mk _ _ hd ?_
   refine sp1 ?_
   refine ACall.mk _ _ hc2 ?_
   exact Need.mk ⟨[], _, .same, rfl, rfl⟩ trivial
theorem impl_fallen (s : Sto) (keep : Int) (n : Nat) (hl : s.disk.log.size ≤ maxLen) (hn : n ≤ s.disk.log.size) (hk : (n : Int) = min (max keep s.disk.safe) s.disk.log.size) : AFn Tryz.prog 37 [.agg (s.enc.map .c), av (.int .i64 keep)] [] (.agg (downD s n).enc) [] := by
 obtain ⟨up, ⟨tseq, mem, lv, snaps⟩, ⟨log, safe, dlv, dseq⟩⟩ := s
 simp only at hn hk hl
 have e1 : (if keep < safe then safe else keep) = max keep safe := by by_cases h : keep < safe <;> simp [h] <;> omega
 have e2 : (if (log.size : Int) < (if keep < safe then safe else keep) then (log.size : Int) else (if keep < safe then safe else keep)) = (n : Int) := by rw [e1, hk]; by_cases h : (log.size : Int) < max keep safe <;> simp [h] <;> omega
 have hT : downD ⟨up, ⟨tseq, mem, lv, snaps⟩, ⟨log, safe, dlv, dseq⟩⟩ n = ⟨false, tre00, ⟨log.extract 0 n, n, dlv, dseq⟩⟩ := rfl
 rw [hT]
 have hneed : (0 : Int) ≤ 0 ∧ (0 ≤ (if (log.size : Int) < (if keep < safe then safe else keep) then (log.size : Int) else (if keep < safe then safe else keep)) ∧ (if (log.size : Int) < (if keep < safe then safe else keep) then (log.size : Int) else (if keep < safe then safe else keep)) ≤ log.size) := by rw [e2]; omega
 have hres : ∀ x : Int, x = (n : Int) → RV.agg [vb false, vi 0, .sl [], .sl [], .sl [], vs (log.extract (Int.toNat 0) x.toNat), vi x, .sl (dlv.map encL), vi dseq] = .agg (Sto.enc ⟨false, tre00, ⟨log.extract 0 n, n, dlv, dseq⟩⟩) := fun x hx => by subst hx; rfl
 refine AFn.introX (E := En 0 md0) (en_ok 0 _ _ _ _ _) Tryz.func37 rfl rfl rfl fun _ _ => ?_
 refine Need.mk hneed ?_
 exact Need.mk ⟨[false, false, true, true, true], _, .keep (.keep (.frz (frzE []) (.frz (frzRR []) (.frz (frzI []) .same)))), hres _ e2, rfl⟩ trivial
theorem impl_StoreFall1 (s : Sto) (keep : Int) (hF : s.up = true → AFn Tryz.prog 37 [.agg (s.enc.map .c), av (.int .i64 keep)] [] (.agg (downD s (keepN s keep)).enc) []) :
  AFnK Tryz.prog 36 [.agg (s.enc.map .c), .bx 0 0] [[vi keep]] [0] (.tup [.agg (fallD keep s).enc, .one (vb s.up)]) [[vi keep]] := by
 cases hu : s.up with
 | false =>
  have hup : fallD keep s = s := by unfold fallD; rw [hu]; rfl
  rw [hup]
  obtain ⟨up, tree, disk⟩ := s
  simp only at hu
  subst hu
  clear hF
  refine AFnK.introX (E := En 1 md0) (en_ok 1 _ _ _ _ _) Tryz.func36 rfl rfl rfl fun _ _ => ?_
  exact Need.mk ⟨[], _, .same, rfl, rfl⟩ trivial
 | true =>
  have hup : fallD keep s = downD s (keepN s keep) := by unfold fallD; rw [hu]; rfl
  rw [hup]
  have hF := hF hu
  generalize downD s (keepN s keep) = x at hF
  obtain ⟨up, tree, disk⟩ := s
  simp only at hu
  subst hu
  refine AFnK.introX (E := En 1 md0) (en_ok 1 _ _ _ _ _) Tryz.func36 rfl rfl rfl fun _ _ => ?_
  refine ACall.mk _ _ hF ?_
  exact Need.mk ⟨[], _, .same, rfl, rfl⟩ trivial
theorem h40n : (1048576 : Nat) ≤ 1099511627776 := by decide
theorem impl_stOk (s : Sto) (hok : s.Ok) (hlg : s.disk.log.size ≤ 1048576) (sa : s.tree.Small) (sd : s.disk.Small) : AFn Tryz.prog 20 [.agg (s.enc.map .c)] [] (rb (storeOk s)) [] :=
 impl_StoreOk s hok hlg (fun l hl r hr => Nat.le_trans ((sd.2 l hl).2 r hr) h40n) fun l hl r hr => Nat.le_trans ((sa.2.2.1 l hl).2 r hr) h40n
theorem storeOk_log {s : Sto} (h : storeOk s = true) : diskB s.disk = true ∧ s.disk.log.size ≤ 12000 := by
 unfold storeOk at h
 rw [Bool.and_eq_true] at h
 exact ⟨h.1, (diskB_iff.1 h.1).1⟩
theorem downD_small {s : Sto} (n : Nat) (sd : s.disk.Small) : (downD s n).tree.Small ∧ (downD s n).disk.Small := ⟨⟨Nat.zero_le _, Nat.zero_le _, fun l hl => (nomatch hl), Nat.zero_le _⟩, sd⟩
theorem impl_StoreFall (s : Sto) (keep : Int) (hok : s.Ok) (hlg : s.disk.log.size ≤ 1048576) (sa : s.tree.Small) (sd : s.disk.Small) : AFn Tryz.prog 12 [.agg (s.enc.map .c), av (.int .i64 keep)] [] (.agg (encSO (storeDo s (fallD keep)))) [] := by
 have hD := storeDo_c1 36 (vi keep) (fallD keep s) s.up s (impl_stOk s hok hlg sa sd) (fun h => impl_StoreFall1 s keep fun _ => by
   have hk := keepN_le (storeOk_log h).1 keep
   exact impl_fallen s keep _ hok.2.1 hk.1 hk.2.2) (fun h => by unfold fallD; rw [h]; rfl) (impl_storeCopy s sa sd)
  (fun h => impl_storeCopy (fallD keep s) (by unfold fallD; split; exact (downD_small _ sd).1; exact sa) (by unfold fallD; split; exact (downD_small _ sd).2; exact sd))
 have hD : AFnK Tryz.prog 35 [.agg (s.enc.map .c), .clo 36 [.bx 0 0]] [[vi keep]] [0] (.tup [.agg (encSO (storeDo s (fallD keep))), .one (vb (storeOk s && s.up))]) [[vi keep]] := hD
 generalize storeDo s (fallD keep) = x at hD
 generalize (storeOk s && s.up) = b at hD
 cases b with
 | false =>
  refine AFn.introX (E := En 0 md0) (en_ok 0 _ _ _ _ _) Tryz.func12 rfl rfl rfl fun _ _ => ?_
  refine ACall.mk _ _ hD ?_
  refine sp0 ?_
  exact Need.mk ⟨[], _, .same, rfl, rfl⟩ trivial
 | true =>
  refine AFn.introX (E := En 0 md0) (en_ok 0 _ _ _ _ _) Tryz.func12 rfl rfl rfl fun _ _ => ?_
  refine ACall.mk _ _ hD ?_
  refine sp1 ?_
  exact Need.mk ⟨[], _, .same, rfl, rfl⟩ trivial
def mdv (l : List FuncId) (g : List FuncId) : FuncId → Nat := fun f => bif l.elem f then 1 else bif g.elem f then 2 else 0
theorem storeOk_tre {s : Sto} (h : storeOk s = true) (hu : s.up = false) : s.tree = tre00 := by
 rw [storeOk_down hu] at h
 simp only [Bool.and_eq_true, decide_eq_true_iff] at h
 exact h.2.1
theorem spec_copy (s : Sto) (h : storeOk s = true) (sa : s.tree.Small) (sd : s.disk.Small) : AFn Tryz.prog 31 [.agg (s.enc.map .c)] [] (.agg (encSO s)) [] := by
 cases hu : s.up with
 | true => exact spec_l6CopyU s hu sa sd
 | false =>
  have := spec_l6CopyD s hu sa sd
  rw [← storeOk_tre h hu] at this
  exact this
theorem spec_l1Min (a b : Int) : AFn Tryz.prog 72 [av (.int .i64 a), av (.int .i64 b)] [] (.one (vi (min a b))) [] := by
 by_cases h : a < b
 ·have hres : min a b = a := by omega
  rw [hres]
  refine AFn.introX (E := En 0 md0) (en_ok 0 _) Tryz.func72 rfl rfl rfl fun _ _ => ?_
  refine spT (by omega) fun h1 => ?_
  exact Need.mk ⟨[], _, .same, rfl, rfl⟩ trivial
 ·have hres : min a b = b := by omega
  rw [hres]
  refine AFn.introX (E := En 0 md0) (en_ok 0 _) Tryz.func72 rfl rfl rfl fun _ _ => ?_
  refine spF (by omega) fun h1 => ?_
  exact Need.mk ⟨[], _, .same, rfl, rfl⟩ trivial
theorem spec_l6Fall (s : Sto) (keep : Int) (n : Nat) (hl : s.disk.log.size ≤ maxLen) (hn : n ≤ s.disk.log.size) (hk : (n : Int) = max s.disk.safe (min keep s.disk.log.size)) : AFn Tryz.prog 32 [.agg (s.enc.map .c), av (.int .i64 keep)] [] (.agg (downD s n).enc) [] := by
 have h1 := spec_l1Min keep s.disk.log.size
 have h2 := spec_l1Max s.disk.safe (min keep s.disk.log.size)
 rw [← hk] at h2
 clear hk
 obtain ⟨up, ⟨tseq, mem, lv, snaps⟩, ⟨log, safe, dlv, dseq⟩⟩ := s
 simp only at hn hl h1 h2
 generalize min keep (log.size : Int) = z at h1 h2
 have hT : downD ⟨up, ⟨tseq, mem, lv, snaps⟩, ⟨log, safe, dlv, dseq⟩⟩ n = ⟨false, tre00, ⟨log.extract 0 n, n, dlv, dseq⟩⟩ := rfl
 rw [hT]
 refine AFn.introX (E := En 0 md0) (en_ok 0 _ _ _ _ _) Tryz.func32 rfl rfl rfl fun _ _ => ?_
 refine ACall.mk _ _ h1 ?_
 refine ACall.mk _ _ h2 ?_
 refine Need.mk (rfl) ?_
 refine Need.mk (⟨by omega, by simp only [List.length_map]; omega⟩) ?_
 exact Need.mk ⟨[false, false, true, true, true], _, .keep (.keep (.frz (frzE []) (.frz (frzRR []) (.frz (frzI []) .same)))), rfl, rfl⟩ trivial
theorem spec_StoreFall (s : Sto) (keep : Int) (hok : s.Ok) (sa : s.tree.Small) (sd : s.disk.Small) : AFn Tryz.prog 10 [.agg (s.enc.map .c), av (.int .i64 keep)] [] (.agg (storeDo s (fallD keep)).enc) [] := by
 have hO := spec_StoreOk s hok sa sd
 have hC := spec_copy s
 have hP : storeOk s = true → AFn Tryz.prog 32 [.agg (s.enc.map .c), av (.int .i64 keep)] [] (.agg (downD s (keepN s keep)).enc) [] := fun h => by
  have hk := keepN_le (storeOk_log h).1 keep
  exact spec_l6Fall s keep _ hok.2.1 hk.1 hk.2.1
 have hx : storeDo s (fallD keep) = if storeOk s then fallD keep s else sto00 := rfl
 rw [hx]
 have hFe := frzE (e := 83) s.tree.mem
 have hFr := frzRR s.tree.levels
 have hFi := frzI (e := 3) s.tree.snaps
 have hFd := frzRR s.disk.levels
 generalize storeOk s = b0 at hO hC hP
 cases b0 with
 | false =>
  clear hC hP
  refine AFn.introX (E := En 0 md0) (en_ok 0 _ _ _ _ _) Tryz.func10 rfl rfl rfl fun _ _ => ?_
  refine ACall.mk _ _ hO ?_
  refine sp0 ?_
  exact Need.mk ⟨[false, false, true, true, true, false, false, true], _, .keep (.keep (.frz (frzE []) (.frz (frzRR []) (.frz (frzI []) (.keep (.keep (.frz (frzRR []) .same))))))), rfl, rfl⟩ trivial
 | true =>
  have hC := hC rfl sa sd
  have hP := hP rfl
  cases hu : s.up with
  | false =>
   have hup : fallD keep s = s := by unfold fallD; rw [hu]; rfl
   rw [if_pos rfl, hup]
   obtain ⟨up, ⟨tseq, mem, lv, snaps⟩, ⟨log, safe, dlv, dseq⟩⟩ := s
   simp only at hu
   subst hu
   clear hP
   refine AFn.introX (E := En 0 md0) (en_ok 0 _ _ _ _ _) Tryz.func10 rfl rfl rfl fun _ _ => ?_
   refine ACall.mk _ _ hO ?_
   refine sp1 ?_
   refine ACall.mk _ _ hC ?_
   exact Need.mk ⟨[false, false, true, true, true, false, false, true], _, .keep (.keep (.frz hFe (.frz hFr (.frz hFi (.keep (.keep (.frz hFd .same))))))), rfl, rfl⟩ trivial
  | true =>
   have hup : fallD keep s = downD s (keepN s keep) := by unfold fallD; rw [hu]; rfl
   rw [if_pos rfl, hup]
   generalize downD s (keepN s keep) = x at hP
   obtain ⟨up, ⟨tseq, mem, lv, snaps⟩, ⟨log, safe, dlv, dseq⟩⟩ := s
   simp only at hu hFe hFr hFi hFd
   subst hu
   refine AFn.introX (E := En 0 (mdv [] [32])) (en_ok 0 _ _ _ _ _) Tryz.func10 rfl rfl rfl fun _ _ => ?_
   refine ACall.mk _ _ hO ?_
   refine sp1 ?_
   refine ACall.mk _ _ hC ?_
   refine Fz.mk _ hFe ?_
   refine Fz.mk _ hFr ?_
   refine Fz.mk _ hFi ?_
   refine Fz.mk _ hFd ?_
   refine ACall.mk _ _ hP ?_
   exact Need.mk ⟨[], _, .same, rfl, rfl⟩ trivial
theorem laws_markText (k : Nat) (hk : k ≤ 4611686018427387904) : AFn Tryz.prog 129 [av (.int .i64 k)] [] (.one (vs (markT k))) [] := by
 refine AFn.introX (E := En 0 md0) (en_ok 0 md0) Tryz.func129 rfl rfl rfl fun _ _ => ?_
 refine Split.mk fun t ht => ?_
 cases t
 ·have h0 : 0 < k := by simp at ht; omega
  refine ALoop.mk (fun n s => ∃ (j : Nat) (out : ByteArray), n = j ∧ j + out.size ≤ 4611686018427387904 ∧ digs j out = digs k ⟨#[]⟩ ∧
   s = ⟨some (av (.int .i64 j)) :: none :: some (av (.string ⟨#[]⟩)) :: some (av (.string out)) :: List.replicate 16 none, List.replicate 20 absent⟩)
   ⟨k, _, Weak.nrm [true, false, true, true] [] rfl rfl rfl, k, ⟨#[]⟩, rfl, hk, rfl, rfl⟩ ?_
  rintro j s ⟨_, out, rfl, hb, hd, rfl⟩
  refine Split.mk fun t ht => ?_
  cases t
  ·have hj : j = 0 := by simp at ht; omega
   subst hj
   refine Need.mk (strFits1 (by omega)) ?_
   refine Need.mk ⟨[], _, .same, ?_, rfl⟩ trivial
   have : markT k = ⟨#[109]⟩ ++ digs k ⟨#[]⟩ := by simp [markT]; omega
   rw [this, ← hd, digs_zero]; rfl
  ·have hj : 0 < j := by simpa using ht
   refine Need.mk (by decide) ?_
   refine Num.mk ((48 + j % 10 : Nat) : Int) (by rw [show ((j : Int).tmod 10) = ((j % 10 : Nat) : Int) from rfl, wrapI] <;> omega) ?_
   refine Num.mk ((48 + j % 10 : Nat) : Int) (by rw [wrapU8] <;> omega) ?_
   refine Need.mk (strFits1 (by omega)) ?_
   refine Need.mk (by decide) ?_
   refine Num.mk ((j / 10 : Nat) : Int) (by rw [show ((j : Int).tdiv 10) = ((j / 10 : Nat) : Int) from rfl, wrapI] <;> omega) ?_
   refine ⟨j / 10, _, by omega, Weak.nrm [true, false, true, true] [] rfl rfl rfl, j / 10, dig j ++ out, rfl, ?_, ?_, rfl⟩
   ·rw [ByteArray.size_append, show (dig j).size = 1 from rfl]; omega
   ·rw [← digs_succ hj]; exact hd
 ·have h0 : k = 0 := by simp at ht; omega
  subst h0
  exact Need.mk ⟨[], _, .same, rfl, rfl⟩ trivial
theorem laws_markEntryS (xs : List Ent) (k : Nat) (hk : k + 5 * xs.length ≤ 4611686018427387904) : AFn Tryz.prog 80 [.one (.ref 0 0 (.cell 0)), av (.int .i64 k)] [[.us 83 (xs.map Ent.enc)]] (.one (vi ((k + 5 * xs.length : Nat) : Int))) [[.us 83 ((markL k xs.length).map Ent.enc)]] := by
 refine AFn.introX (E := En 1 md0) (en_ok 1 md0) Tryz.func80 rfl rfl rfl fun _ _ => ?_
 let S : List (List C) → Nat → Nat → St := fun rows i m => ⟨some (.one (.ref 0 0 (.cell 0))) :: some (av (.int .i64 m)) :: none :: none :: none :: some (av (.int .i64 i)) :: List.replicate 44 none, ⟨0, 1, some [.us 83 rows]⟩ :: List.replicate 50 absent⟩
 refine ALoop.mk (fun n s => ∃ (i : Nat) (ys : List Ent), i ≤ xs.length ∧ n = xs.length - i ∧ ys.length = xs.length ∧ (∀ j : Nat, j < i → ys[j]? = some (markE (k + 5 * j))) ∧ s = S (ys.map Ent.enc) i (k + 5 * i))
  ⟨xs.length, _, Weak.nrm [true, true, false, false, false, true] [(0, 0)] rfl rfl rfl, 0, xs, Nat.zero_le _, rfl, rfl, by intro j hj; omega, rfl⟩ ?_
 rintro n s ⟨i, ys, hi, rfl, hl, hm, rfl⟩
 refine Split.mk fun t ht => ?_
 rw [List.length_map] at ht
 cases t
 ·have hia : i = xs.length := by simp at ht; omega
  subst hia
  refine Need.mk ⟨[], _, .same, rfl, ?_⟩ trivial
  rw [← markL_of hl hm]; rfl
 ·have hia : i < ys.length := by simpa using ht
  have hlen : i < (ys.map Ent.enc).length := by rw [List.length_map]; exact hia
  refine ACall.mk _ _ (laws_markText (k + 5 * i) (by omega)) ?_
  refine Need.mk ⟨by omega, by simpa using hia⟩ ?_
  refine Row.mk _ (map_get _ ys i hia) ?_
  refine Num.mk _ (wrapS (by omega)) ?_
  refine Need.mk ⟨by omega, by simpa using hia⟩ ?_
  refine Row.mk _ (set_get _ _ _ hlen) ?_
  refine Num.mk _ (wrapS (by omega)) ?_
  refine Need.mk ⟨by omega, by simpa using hia⟩ ?_
  refine Row.mk _ (set_get _ _ _ (by simpa using hia)) ?_
  refine Num.mk _ (wrapS (by omega)) ?_
  refine ACall.mk _ _ (laws_markText (k + 5 * i + 1 + 1 + 1) (by omega)) ?_
  refine Need.mk ⟨by omega, by simpa using hia⟩ ?_
  refine Row.mk _ (set_get _ _ _ (by simpa using hia)) ?_
  refine Num.mk _ (wrapS (by omega)) ?_
  refine Need.mk ⟨by omega, by simpa using hia⟩ ?_
  refine Row.mk _ (set_get _ _ _ (by simpa using hia)) ?_
  refine Num.mk _ (wrapS (by omega)) ?_
  refine Num.mk _ (wrapS (by omega)) ?_
  refine ⟨xs.length - (i + 1), _, by omega, Weak.nrm [true, true, false, false, false, true] [(0, 0)] rfl rfl rfl, i + 1, ys.set i (markE (k + 5 * i)), by omega, rfl, by simpa using hl, fun j hj => ?_, ?_⟩
  ·by_cases hji : j = i
   ·subst hji; exact List.getElem?_set_self hia
   ·rw [List.getElem?_set_ne (Ne.symm hji)]; exact hm j (by omega)
  ·refine Eq.trans (b := S ((((((ys.map Ent.enc).set i _).set i _).set i _).set i _).set i (markE (k + 5 * i)).enc) (i + 1) (k + 5 * i + 1 + 1 + 1 + 1 + 1)) rfl ?_
   simp only [List.set_set, List.map_set]
   rfl
end Go.Proofs.YtpcimdalgpfkaaaGreatDoor
