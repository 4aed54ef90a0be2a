/-
  Contracts of functions, part 6.
-/
import Derived.Test.YtpcimdalgpfkaaaGreatDoorTFnExactStoreOkE
set_option linter.unusedVariables false
set_option linter.unusedSimpArgs false
namespace Go.Proofs.YtpcimdalgpfkaaaGreatDoor
open Go Go.Proofs Ev
set_option maxRecDepth 100000
set_option maxHeartbeats 40000000
set_option linter.unusedSimpArgs false
set_option linter.unusedVariables false
theorem laws_eqIntS (a b : List Int) : AFn Tryz.prog 79 [sl (a.map encI), sl (b.map encI)] [] (rb (decide (a = b))) [] := by
 refine AFn.introX (E := En 0 md0) (en_ok 0 md0) Tryz.func79 rfl rfl rfl fun hs _ => ?_
 have ha := Small.len (hs _ (List.mem_cons_self ..))
 rw [List.length_map] at ha
 have fin : ∀ {c : Bool}, c = decide (a = b) → rb c = rb (decide (a = b)) := fun h => by rw [h]
 refine Split.mk fun t ht => ?_
 cases t
 ·have hl : a.length = b.length := Int.ofNat_inj.1 (by simpa using ht)
  refine ALoop.mk (fun n s => ∃ i : Nat, i ≤ a.length ∧ n = a.length - i ∧ a.take i = b.take i ∧
   s = ⟨some (sl (a.map encI)) :: some (sl (b.map encI)) :: none :: none :: some (av (.bool false)) :: some (av (.int .i64 i)) :: List.replicate 20 none, List.replicate 26 absent⟩)
   ⟨a.length, _, Weak.nrm [true, true, false, false, true, true] [] rfl rfl rfl, 0, Nat.zero_le _, rfl, rfl, rfl⟩ ?_
  rintro n s ⟨i, hi, rfl, hp, rfl⟩
  refine Split.mk fun t ht => ?_
  cases t
  ·have hia : i = a.length := by simp at ht; omega
   refine Need.mk ⟨[], _, .same, fin ?_, rfl⟩ trivial
   subst hia
   rw [List.take_length, hl, List.take_length] at hp
   simp [hp]
  ·have hia : i < a.length := by simpa using ht
   refine nd ?_
   refine Row.mk _ (map_get _ a i hia) ?_
   refine nd ?_
   refine Row.mk _ (map_get _ b i (by omega)) ?_
   refine Split.mk fun t ht2 => ?_
   cases t
   ·refine Need.mk rfl ?_
    refine Num.mk _ (wrapS (by omega)) ?_
    refine ⟨a.length - (i + 1), _, by omega, Weak.nrm [true, true, false, false, true, true] [] rfl rfl rfl, i + 1, by omega, rfl, ?_, rfl⟩
    have : a[i] = b[i]'(by omega) := by simpa using ht2
    rw [List.take_succ_eq_append_getElem hia, List.take_succ_eq_append_getElem (by omega), hp, this]
   ·refine Need.mk rfl ?_
    refine Need.mk ⟨[], _, .same, fin ?_, rfl⟩ trivial
    have : a[i] ≠ b[i]'(by omega) := by simpa using ht2
    refine (decide_eq_false fun e => this ?_).symm
    subst e; rfl
 ·refine Need.mk ⟨[], _, .same, fin ?_, rfl⟩ trivial
  have : a.length ≠ b.length := by
   intro e; simp [e] at ht
  exact (decide_eq_false fun e => this (by rw [e])).symm
theorem laws_eqTree (a b : Tre) : AFn Tryz.prog 38 [.agg (a.enc.map .c), .agg (b.enc.map .c)] [] (rb (decide (a = b))) [] := by
 refine AFn.introX (E := En 0 md0) (en_ok 0 md0) Tryz.func38 rfl rfl rfl fun _ _ => ?_
 have fin : ∀ {c : Bool}, c = decide (a = b) → rb c = rb (decide (a = b)) := fun h => by rw [h]
 refine Split.mk fun t ht => ?_
 cases t
 ·refine ACall.mk _ _ (laws_eqEntryS a.mem b.mem) ?_
  refine Split.mk fun t ht1 => ?_
  cases t
  ·exact Need.mk ⟨[], _, .same, fin (by cases a; cases b; simp_all), rfl⟩ trivial
  ·refine ACall.mk _ _ (laws_eqRunSS a.levels b.levels) ?_
   refine Split.mk fun t ht2 => ?_
   cases t
   ·exact Need.mk ⟨[], _, .same, fin (by cases a; cases b; simp_all), rfl⟩ trivial
   ·refine ACall.mk _ _ (laws_eqIntS a.snaps b.snaps) ?_
    refine Split.mk fun t ht3 => ?_
    cases t
    ·exact Need.mk ⟨[], _, .same, fin (by cases a; cases b; simp_all), rfl⟩ trivial
    ·exact Need.mk ⟨[], _, .same, fin (by cases a; cases b; simp_all), rfl⟩ trivial
 ·exact Need.mk ⟨[], _, .same, fin (by cases a; cases b; simp_all), rfl⟩ trivial
theorem laws_eqDisk (a b : Dsk) : AFn Tryz.prog 39 [.agg (a.enc.map .c), .agg (b.enc.map .c)] [] (rb (decide (a = b))) [] := by
 refine AFn.introX (E := En 0 md0) (en_ok 0 md0) Tryz.func39 rfl rfl rfl fun _ _ => ?_
 have fin : ∀ {c : Bool}, c = decide (a = b) → rb c = rb (decide (a = b)) := fun h => by rw [h]
 refine Split.mk fun t ht => ?_
 rw [bytes_beq] at ht
 cases t
 ·refine Split.mk fun t ht1 => ?_
  cases t
  ·refine ACall.mk _ _ (laws_eqRunSS a.levels b.levels) ?_
   refine Split.mk fun t ht2 => ?_
   cases t
   ·exact Need.mk ⟨[], _, .same, fin (by cases a; cases b; simp_all), rfl⟩ trivial
   ·refine Split.mk fun t ht3 => ?_
    cases t
    ·exact Need.mk ⟨[], _, .same, fin (by cases a; cases b; simp_all), rfl⟩ trivial
    ·exact Need.mk ⟨[], _, .same, fin (by cases a; cases b; simp_all), rfl⟩ trivial
  ·exact Need.mk ⟨[], _, .same, fin (by cases a; cases b; simp_all), rfl⟩ trivial
 ·exact Need.mk ⟨[], _, .same, fin (by cases a; cases b; simp_all), rfl⟩ trivial
theorem laws_eqStore (a b : Sto) : AFn Tryz.prog 13 [.agg (a.enc.map .c), .agg (b.enc.map .c)] [] (rb (decide (a = b))) [] := by
 refine AFn.introX (E := En 0 md0) (en_ok 0 md0) Tryz.func13 rfl rfl rfl fun _ _ => ?_
 have fin : ∀ {c : Bool}, c = decide (a = b) → rb c = rb (decide (a = b)) := fun h => by rw [h]
 refine Split.mk fun t ht => ?_
 cases t
 ·refine ACall.mk _ _ (laws_eqTree a.tree b.tree) ?_
  refine Split.mk fun t ht1 => ?_
  cases t
  ·exact Need.mk ⟨[], _, .same, fin (by cases a; cases b; simp_all), rfl⟩ trivial
  ·refine ACall.mk _ _ (laws_eqDisk a.disk b.disk) ?_
   refine Split.mk fun t ht2 => ?_
   cases t
   ·exact Need.mk ⟨[], _, .same, fin (by cases a; cases b; simp_all), rfl⟩ trivial
   ·exact Need.mk ⟨[], _, .same, fin (by cases a; cases b; simp_all), rfl⟩ trivial
 ·exact Need.mk ⟨[], _, .same, fin (by cases a; cases b; simp_all), rfl⟩ trivial
theorem laws_FnExactStoreOk (a : Sto) (ha : a.Ok) : AFn Tryz.prog 6 [.agg (a.enc.map .c)] [] (rb true) [] := by
 have hSz := laws_szStore a 1048576 ha (Nat.le_refl _)
 by_cases hsz : a.size ≤ 1048576
 ·rw [cut_pos hsz] at hSz
  have hz : a.size = a.tree.size + a.disk.size := rfl
  have sa : a.tree.Small := Tre.small (by omega)
  have sd : a.disk.Small := Dsk.small (by omega)
  have hlg : a.disk.log.size ≤ 1048576 := by have : a.disk.size = a.disk.log.size + sizeRR a.disk.levels := rfl; omega
  have h40 : (1048576 : Nat) ≤ 1099511627776 := by decide
  have hT := laws_toStore a sa sd
  have hS := spec_StoreOk a ha sa sd
  have hI := impl_StoreOk a ha hlg (fun l hl r hr => Nat.le_trans ((sd.2 l hl).2 r hr) h40) (fun l hl r hr => Nat.le_trans ((sa.2.2.1 l hl).2 r hr) h40)
  have hE := laws_eqStore a a
  rw [decide_eq_true rfl] at hE
  have hF1 := frzE (e := 83) a.tree.mem
  have hF2 := frzRR a.tree.levels
  have hF3 := frzI (e := 3) a.tree.snaps
  have hF4 := frzRR a.disk.levels
  have hex := exq (storeOk a)
  obtain ⟨b, hb⟩ := hex
  rw [hb] at hS hI
  cases b with
  | false =>
   refine AFn.introX (E := En 0 md0) (en_ok 0 md0) Tryz.func6 rfl rfl rfl fun _ _ => ?_
   refine ACall.mk _ _ hSz ?_
   refine sp0 ?_
   refine ACall.mk _ _ hT ?_
   refine Fz.mk _ hF1 ?_
   refine Fz.mk _ hF2 ?_
   refine Fz.mk _ hF3 ?_
   refine Fz.mk _ hF4 ?_
   refine ACall.mk _ _ hS ?_
   refine Need.mk (⟨ClL.mem (.v .nil), no_objs⟩) ?_
   refine sp0 ?_
   refine ACall.mk _ _ hT ?_
   refine Fz.mk _ hF1 ?_
   refine Fz.mk _ hF2 ?_
   refine Fz.mk _ hF3 ?_
   refine Fz.mk _ hF4 ?_
   refine ACall.mk _ _ hI ?_
   refine Need.mk (⟨ClL.mem (.v .nil), no_objs⟩) ?_
   refine sp0 ?_
   refine sp0 ?_
   refine ACall.mk _ _ hT ?_
   refine Fz.mk _ hF1 ?_
   refine Fz.mk _ hF2 ?_
   refine Fz.mk _ hF3 ?_
   refine Fz.mk _ hF4 ?_
   refine Fz.mk _ hF1 ?_
   refine Fz.mk _ hF2 ?_
   refine Fz.mk _ hF3 ?_
   refine Fz.mk _ hF4 ?_
   refine ACall.mk _ _ hE ?_
   refine Need.mk (⟨ClL.mem (.v .nil), no_objs⟩) ?_
   refine sp1 ?_
   refine Need.mk (rfl) ?_
   exact Need.mk ⟨[], _, .same, rfl, rfl⟩ trivial
  | true =>
   refine AFn.introX (E := En 0 md0) (en_ok 0 md0) Tryz.func6 rfl rfl rfl fun _ _ => ?_
   refine ACall.mk _ _ hSz ?_
   refine sp0 ?_
   refine ACall.mk _ _ hT ?_
   refine Fz.mk _ hF1 ?_
   refine Fz.mk _ hF2 ?_
   refine Fz.mk _ hF3 ?_
   refine Fz.mk _ hF4 ?_
   refine ACall.mk _ _ hS ?_
   refine Need.mk (⟨ClL.mem (.v .nil), no_objs⟩) ?_
   refine sp1 ?_
   refine ACall.mk _ _ hT ?_
   refine Fz.mk _ hF1 ?_
   refine Fz.mk _ hF2 ?_
   refine Fz.mk _ hF3 ?_
   refine Fz.mk _ hF4 ?_
   refine ACall.mk _ _ hI ?_
   refine Need.mk (⟨ClL.mem (.v .nil), no_objs⟩) ?_
   refine sp1 ?_
   refine sp0 ?_
   refine ACall.mk _ _ hT ?_
   refine Fz.mk _ hF1 ?_
   refine Fz.mk _ hF2 ?_
   refine Fz.mk _ hF3 ?_
   refine Fz.mk _ hF4 ?_
   refine Fz.mk _ hF1 ?_
   refine Fz.mk _ hF2 ?_
   refine Fz.mk _ hF3 ?_
   refine Fz.mk _ hF4 ?_
   refine ACall.mk _ _ hE ?_
   refine Need.mk (⟨ClL.mem (.v .nil), no_objs⟩) ?_
   refine sp1 ?_
   refine Need.mk (rfl) ?_
   exact Need.mk ⟨[], _, .same, rfl, rfl⟩ trivial
 ·rw [cut_neg hsz] at hSz
  refine AFn.introX (E := En 0 md0) (en_ok 0 md0) Tryz.func6 rfl rfl rfl fun _ _ => ?_
  refine ACall.mk _ _ hSz ?_
  refine sp1 ?_
  exact Need.mk ⟨[], _, .same, rfl, rfl⟩ trivial
theorem laws_FnExactStoreOk_any (r0 : List C) (h0 : ShL tySto r0) : AFn Tryz.prog 6 [.agg (r0.map .c)] [] (rb true) [] := by
 obtain ⟨a, rfl, wa⟩ := dec_sto h0
 exact laws_FnExactStoreOk a wa.ok
end Go.Proofs.YtpcimdalgpfkaaaGreatDoor
