/-
  Contracts of functions, part 4.
-/
import Derived.Test.YtpcimdalgpfkaaaGreatDoorTFnExactStoreFallC
set_option linter.unusedVariables false
set_option linter.unusedSimpArgs false
namespace Go.Proofs.YtpcimdalgpfkaaaGreatDoor
open Go Go.Proofs Ev
set_option maxRecDepth 100000
set_option maxHeartbeats 40000000
set_option linter.unusedSimpArgs false
set_option linter.unusedVariables false
theorem impl_lowKey (r : Rn) (h : 0 < r.ents.length) : AFn Tryz.prog 144 [.agg (r.enc.map .c)] [] (.one (vs (r.ents.getD 0 ent0).key)) [] := by
 refine AFn.introX (E := En 0 md0) (en_ok 0 _) Tryz.func144 rfl rfl rfl fun _ _ => ?_
 have hd : r.ents.getD 0 ent0 = r.ents[0] := by simp [List.getD_eq_getElem?_getD, h]
 refine Need.mk (by decide) ?_
 refine Row.mk _ (map_get _ r.ents 0 h) ?_
 exact Need.mk ⟨[], _, .same, by rw [hd]; rfl, rfl⟩ trivial
theorem impl_highKey (r : Rn) (h : 0 < r.ents.length) (hx : r.ents.length ≤ 1099511627776) : AFn Tryz.prog 143 [.agg (r.enc.map .c)] [] (.one (vs (r.ents.getD (r.ents.length - 1) ent0).key)) [] := by
 refine AFn.introX (E := En 0 md0) (en_ok 0 _) Tryz.func143 rfl rfl rfl fun _ _ => ?_
 have hl : r.ents.length - 1 < r.ents.length := by omega
 have hd : r.ents.getD (r.ents.length - 1) ent0 = r.ents[r.ents.length - 1] := by simp [List.getD_eq_getElem?_getD, hl]
 have hn : (r.ents.map Ent.enc).length = r.ents.length := List.length_map ..
 refine Num.mk ((r.ents.length - 1 : Nat) : Int) (wrapI' (by rw [hn]; omega) (by omega)) ?_
 refine nd ?_
 refine Row.mk _ (map_get _ r.ents (r.ents.length - 1) hl) ?_
 exact Need.mk ⟨[], _, .same, by rw [hd]; rfl, rfl⟩ trivial
theorem spec_l5Within (xs : List Ent) (seq : Int) (hl : xs.length ≤ 1099511627776) : AFn Tryz.prog 108 [sl (xs.map Ent.enc), av (.int .i64 seq)] [] (rb (withinB xs seq)) [] := by
 have hn : (xs.map Ent.enc).length = xs.length := List.length_map ..
 refine AFn.introX (E := En 0 md0) (en_ok 0 md0) Tryz.func108 rfl rfl rfl fun _ _ => ?_
 let S : Nat → St := fun i => ⟨some (sl (xs.map Ent.enc)) :: some (av (.int .i64 seq)) :: none :: none :: none :: some (av (.int .i64 i)) :: List.replicate 13 none, List.replicate 19 absent⟩
 refine ALoop.mk (fun m s => ∃ i : Nat, i ≤ xs.length ∧ m = xs.length - i ∧ (∀ j, j < i → ∀ h : j < xs.length, xs[j].seq ≤ seq) ∧ s = S i)
  ⟨_, _, Weak.nrm [true, true, false, false, false, true] [] rfl rfl rfl, 0, Nat.zero_le _, rfl, fun j h => absurd h (by omega), rfl⟩ ?_
 rintro m s ⟨i, hi, rfl, hall, hs⟩
 by_cases hin : i = xs.length
 ·have hres : withinB xs seq = true := Ev.within_iff.2 fun j hj => hall j (by omega)
  subst hs
  refine spF (by omega) fun h1 => ?_
  exact Need.mk ⟨[], _, .same, congrArg rb hres.symm, rfl⟩ trivial
 ·have hia : i < xs.length := by omega
  by_cases hok : xs[i].seq ≤ seq
  ·subst hs
   refine spT (by omega) fun h1 => ?_
   refine nd ?_
   refine Row.mk _ (map_get _ xs i (by omega)) ?_
   refine spF (by omega) fun h2 => ?_
   refine Num.mk _ (wrapS (by omega)) ?_
   exact ⟨_, _, by omega, Weak.nrm [true, true, false, false, false, true] [] rfl rfl rfl, i + 1, by omega, rfl, allS hall (fun _ => hok), rfl⟩
  ·have hres : withinB xs seq = false := Bool.eq_false_iff.2 fun h => hok (Ev.within_iff.1 h i hia hia)
   subst hs
   refine spT (by omega) fun h1 => ?_
   refine nd ?_
   refine Row.mk _ (map_get _ xs i (by omega)) ?_
   refine spT (by omega) fun h2 => ?_
   exact Need.mk ⟨[], _, .same, congrArg rb hres.symm, rfl⟩ trivial
theorem impl_snapsOk (xs : List Int) (seq : Int) : AFn Tryz.prog 100 [sl (xs.map encI), av (.int .i64 seq)] [] (rb (snapsB xs seq)) [] := by
 have hn : (xs.map encI).length = xs.length := List.length_map ..
 by_cases h4 : xs.length ≤ 4
 ·refine AFn.introX (E := En 0 md0) (en_ok 0 md0) Tryz.func100 rfl rfl rfl fun _ _ => ?_
  refine spF (by omega) fun h1 => ?_
  let S : Nat → St := fun i => ⟨some (sl (xs.map encI)) :: some (av (.int .i64 seq)) :: none :: none :: none :: none :: none :: none :: none :: none :: some (sl (xs.map encI)) :: some (av (.int .i64 (xs.map encI).length)) :: some (av (.int .i64 i)) :: List.replicate 25 none, List.replicate 38 absent⟩
  refine ALoop.mk (fun m s => ∃ i : Nat, i ≤ xs.length ∧ m = xs.length - i ∧ (∀ j, j < i → okSn xs seq j) ∧ s = S i)
   ⟨_, _, Weak.nrm [true, true, false, false, false, false, false, false, false, false, true, true, true] [] rfl rfl rfl, 0, Nat.zero_le _, rfl, fun j h => absurd h (by omega), rfl⟩ ?_
  rintro m s ⟨i, hi, rfl, hall, hs⟩
  by_cases hin : i = xs.length
  ·have hres : snapsB xs seq = true := snaps_iff.2 ⟨h4, fun j hj => hall j (by omega)⟩
   subst hs
   refine spF (by omega) fun h1 => ?_
   exact Need.mk ⟨[], _, .same, congrArg rb hres.symm, rfl⟩ trivial
  ·have hia : i < xs.length := by omega
   have hgi := getD_lt hia
   by_cases hok : okSn xs seq i
   ·obtain ⟨o1, o2, o3⟩ := id hok
    rw [hgi] at o1 o2 o3
    by_cases hi0 : i = 0
    ·subst hs
     refine spT (by omega) fun h1 => ?_
     refine nd ?_
     refine Row.mk _ (map_get _ xs i (by omega)) ?_
     refine spF (by omega) fun h2 => ?_
     refine spF (by omega) fun h3 => ?_
     refine spF (by omega) fun h4 => ?_
     refine Num.mk _ (wrapS (by omega)) ?_
     exact ⟨_, _, by omega, Weak.nrm [true, true, false, false, false, false, false, false, false, false, true, true, true] [] rfl rfl rfl, i + 1, by omega, rfl, allS hall hok, rfl⟩
    ·have hi1 : i - 1 < xs.length := by omega
     have o3 := o3 (by omega)
     rw [getD_lt hi1] at o3
     have hsub : IntKind.i64.wrap ((i : Int) - 1) = ((i - 1 : Nat) : Int) := wrapI' (by omega) (by omega)
     subst hs
     refine spT (by omega) fun h1 => ?_
     refine nd ?_
     refine Row.mk _ (map_get _ xs i (by omega)) ?_
     refine spF (by omega) fun h2 => ?_
     refine spF (by omega) fun h3 => ?_
     refine spT (by omega) fun h4 => ?_
     refine Num.mk _ hsub ?_
     refine nd ?_
     refine Row.mk _ (map_get _ xs (i - 1) (by omega)) ?_
     refine spF (by omega) fun h5 => ?_
     refine Num.mk _ (wrapS (by omega)) ?_
     exact ⟨_, _, by omega, Weak.nrm [true, true, false, false, false, false, false, false, false, false, true, true, true] [] rfl rfl rfl, i + 1, by omega, rfl, allS hall hok, rfl⟩
   ·have hres : snapsB xs seq = false := Bool.eq_false_iff.2 fun h => hok ((snaps_iff.1 h).2 i hia)
    unfold okSn at hok
    rw [hgi] at hok
    by_cases hi0 : i = 0
    ·subst hs
     refine spT (by omega) fun h1 => ?_
     refine nd ?_
     refine Row.mk _ (map_get _ xs i (by omega)) ?_
     refine Split.mk fun t h2 => ?_
     cases t
     ·skip
      rw [decide_eq_false_iff_not] at h2
      refine spT (by omega) fun h3 => ?_
      exact Need.mk ⟨[], _, .same, congrArg rb hres.symm, rfl⟩ trivial
     ·skip
      rw [decide_eq_true_iff] at h2
      exact Need.mk ⟨[], _, .same, congrArg rb hres.symm, rfl⟩ trivial
    ·have hi1 : i - 1 < xs.length := by omega
     rw [getD_lt hi1] at hok
     have hsub : IntKind.i64.wrap ((i : Int) - 1) = ((i - 1 : Nat) : Int) := wrapI' (by omega) (by omega)
     subst hs
     refine spT (by omega) fun h1 => ?_
     refine nd ?_
     refine Row.mk _ (map_get _ xs i (by omega)) ?_
     refine Split.mk fun t h2 => ?_
     cases t
     ·skip
      rw [decide_eq_false_iff_not] at h2
      refine Split.mk fun t h3 => ?_
      cases t
      ·skip
       rw [decide_eq_false_iff_not] at h3
       refine spT (by omega) fun h4 => ?_
       refine Num.mk _ hsub ?_
       refine nd ?_
       refine Row.mk _ (map_get _ xs (i - 1) (by omega)) ?_
       refine spT (by omega) fun h5 => ?_
       exact Need.mk ⟨[], _, .same, congrArg rb hres.symm, rfl⟩ trivial
      ·skip
       rw [decide_eq_true_iff] at h3
       exact Need.mk ⟨[], _, .same, congrArg rb hres.symm, rfl⟩ trivial
     ·skip
      rw [decide_eq_true_iff] at h2
      exact Need.mk ⟨[], _, .same, congrArg rb hres.symm, rfl⟩ trivial
 ·have hres : snapsB xs seq = false := Bool.eq_false_iff.2 fun h => h4 (snaps_iff.1 h).1
  refine AFn.introX (E := En 0 md0) (en_ok 0 md0) Tryz.func100 rfl rfl rfl fun _ _ => ?_
  refine spT (by omega) fun h1 => ?_
  exact Need.mk ⟨[], _, .same, congrArg rb hres.symm, rfl⟩ trivial
theorem spec_l5Snaps (t : Tre) (hl : t.snaps.length ≤ 1099511627776) : AFn Tryz.prog 109 [.agg (t.enc.map .c)] [] (rb (snapsB t.snaps t.seq)) [] := by
 have hn : (t.snaps.map encI).length = t.snaps.length := List.length_map ..
 refine AFn.introX (E := En 0 md0) (en_ok 0 md0) Tryz.func109 rfl rfl rfl fun _ _ => ?_
 let S : Nat → St := fun i => ⟨none :: some (.bx 1 0) :: none :: some (av (.int .i64 i)) :: List.replicate 45 none, absent :: ⟨0, 0, some [vi t.seq, .sl (t.mem.map Ent.enc), .sl (t.levels.map encL), .sl (t.snaps.map encI)]⟩ :: List.replicate 47 absent⟩
 refine ALoop.mk (fun m s => ∃ i : Nat, i ≤ t.snaps.length ∧ m = t.snaps.length - i ∧ (∀ j, j < i → okSn t.snaps t.seq j) ∧ s = S i)
  ⟨_, _, Weak.nrm [false, true, false, true] [(1, 1)] rfl rfl rfl, 0, Nat.zero_le _, rfl, fun j h => absurd h (by omega), rfl⟩ ?_
 rintro m s ⟨i, hi, rfl, hall, hs⟩
 by_cases hin : i = t.snaps.length
 ·by_cases h4 : t.snaps.length ≤ 4
  ·have hres : snapsB t.snaps t.seq = true := snaps_iff.2 ⟨h4, fun j hj => hall j (by omega)⟩
   subst hs
   refine spF (by omega) fun h1 => ?_
   refine spT (by omega) fun h2 => ?_
   exact Need.mk ⟨[], _, .same, congrArg rb hres.symm, rfl⟩ trivial
  ·have hres : snapsB t.snaps t.seq = false := Bool.eq_false_iff.2 fun h => h4 (snaps_iff.1 h).1
   subst hs
   refine spF (by omega) fun h1 => ?_
   refine spF (by omega) fun h2 => ?_
   exact Need.mk ⟨[], _, .same, congrArg rb hres.symm, rfl⟩ trivial
 ·have hia : i < t.snaps.length := by omega
  have hgi := getD_lt hia
  by_cases hok : okSn t.snaps t.seq i
  ·obtain ⟨o1, o2, o3⟩ := id hok
   rw [hgi] at o1 o2 o3
   by_cases hi0 : i = 0
   ·subst hs
    refine spT (by omega) fun h1 => ?_
    refine nd ?_
    refine Row.mk _ (map_get _ t.snaps i (by omega)) ?_
    refine spF (by omega) fun h2 => ?_
    refine nd ?_
    refine Row.mk _ (map_get _ t.snaps i (by omega)) ?_
    refine spF (by omega) fun h3 => ?_
    refine spF (by omega) fun h4 => ?_
    refine Need.mk (rfl) ?_
    refine Num.mk _ (wrapS (by omega)) ?_
    exact ⟨_, _, by omega, Weak.nrm [false, true, false, true] [(1, 1)] rfl rfl rfl, i + 1, by omega, rfl, allS hall hok, rfl⟩
   ·have hi1 : i - 1 < t.snaps.length := by omega
    have o3 := o3 (by omega)
    rw [getD_lt hi1] at o3
    have hsub : IntKind.i64.wrap ((i : Int) - 1) = ((i - 1 : Nat) : Int) := wrapI' (by omega) (by omega)
    subst hs
    refine spT (by omega) fun h1 => ?_
    refine nd ?_
    refine Row.mk _ (map_get _ t.snaps i (by omega)) ?_
    refine spF (by omega) fun h2 => ?_
    refine nd ?_
    refine Row.mk _ (map_get _ t.snaps i (by omega)) ?_
    refine spF (by omega) fun h3 => ?_
    refine spT (by omega) fun h4 => ?_
    refine Num.mk _ hsub ?_
    refine nd ?_
    refine Row.mk _ (map_get _ t.snaps (i - 1) (by omega)) ?_
    refine nd ?_
    refine Row.mk _ (map_get _ t.snaps i (by omega)) ?_
    refine spF (by omega) fun h5 => ?_
    refine Need.mk (rfl) ?_
    refine Num.mk _ (wrapS (by omega)) ?_
    exact ⟨_, _, by omega, Weak.nrm [false, true, false, true] [(1, 1)] rfl rfl rfl, i + 1, by omega, rfl, allS hall hok, rfl⟩
  ·have hres : snapsB t.snaps t.seq = false := Bool.eq_false_iff.2 fun h => hok ((snaps_iff.1 h).2 i hia)
   unfold okSn at hok
   rw [hgi] at hok
   by_cases hi0 : i = 0
   ·subst hs
    refine spT (by omega) fun h1 => ?_
    refine nd ?_
    refine Row.mk _ (map_get _ t.snaps i (by omega)) ?_
    refine Split.mk fun t h2 => ?_
    cases t
    ·skip
     rw [decide_eq_false_iff_not] at h2
     refine nd ?_
     refine Row.mk _ (map_get _ t.snaps i (by omega)) ?_
     refine spT (by omega) fun h3 => ?_
     refine Need.mk (rfl) ?_
     exact Need.mk ⟨[], _, .same, congrArg rb hres.symm, rfl⟩ trivial
    ·skip
     rw [decide_eq_true_iff] at h2
     refine Need.mk (rfl) ?_
     exact Need.mk ⟨[], _, .same, congrArg rb hres.symm, rfl⟩ trivial
   ·have hi1 : i - 1 < t.snaps.length := by omega
    rw [getD_lt hi1] at hok
    have hsub : IntKind.i64.wrap ((i : Int) - 1) = ((i - 1 : Nat) : Int) := wrapI' (by omega) (by omega)
    subst hs
    refine spT (by omega) fun h1 => ?_
    refine nd ?_
    refine Row.mk _ (map_get _ t.snaps i (by omega)) ?_
    refine Split.mk fun t h2 => ?_
    cases t
    ·skip
     rw [decide_eq_false_iff_not] at h2
     refine nd ?_
     refine Row.mk _ (map_get _ t.snaps i (by omega)) ?_
     refine Split.mk fun t h3 => ?_
     cases t
     ·skip
      rw [decide_eq_false_iff_not] at h3
      refine spT (by omega) fun h4 => ?_
      refine Num.mk _ hsub ?_
      refine nd ?_
      refine Row.mk _ (map_get _ t.snaps (i - 1) (by omega)) ?_
      refine nd ?_
      refine Row.mk _ (map_get _ t.snaps i (by omega)) ?_
      refine spT (by omega) fun h5 => ?_
      refine Need.mk (rfl) ?_
      exact Need.mk ⟨[], _, .same, congrArg rb hres.symm, rfl⟩ trivial
     ·skip
      rw [decide_eq_true_iff] at h3
      refine Need.mk (rfl) ?_
      exact Need.mk ⟨[], _, .same, congrArg rb hres.symm, rfl⟩ trivial
    ·skip
     rw [decide_eq_true_iff] at h2
     refine Need.mk (rfl) ?_
     exact Need.mk ⟨[], _, .same, congrArg rb hres.symm, rfl⟩ trivial
theorem spec_l5Low (r : Rn) (h : 0 < r.ents.length) : AFn Tryz.prog 156 [.agg (r.enc.map .c)] [] (.one (vs (lowK r))) [] := by
 have hn : (r.ents.map Ent.enc).length = r.ents.length := List.length_map ..
 have hg := map_getD Ent.enc r.ents 0 ent0 h
 refine AFn.introX (E := En 0 md0) (en_ok 0 md0) Tryz.func156 rfl rfl rfl fun _ _ => ?_
 refine nd ?_
 refine Row.mk _ hg ?_
 exact Need.mk ⟨[], _, .same, rfl, rfl⟩ trivial
theorem spec_l5High (r : Rn) (h : 0 < r.ents.length) (hl : r.ents.length ≤ 1099511627776) : AFn Tryz.prog 155 [.agg (r.enc.map .c)] [] (.one (vs (highK r))) [] := by
 have hn : (r.ents.map Ent.enc).length = r.ents.length := List.length_map ..
 have hg := map_getD Ent.enc r.ents (r.ents.length - 1) ent0 (by omega)
 have hsub : IntKind.i64.wrap (((r.ents.map Ent.enc).length : Int) - 1) = ((r.ents.length - 1 : Nat) : Int) := wrapI' (by omega) (by omega)
 refine AFn.introX (E := En 0 md0) (en_ok 0 md0) Tryz.func155 rfl rfl rfl fun _ _ => ?_
 refine Num.mk _ hsub ?_
 refine nd ?_
 refine Row.mk _ hg ?_
 exact Need.mk ⟨[], _, .same, rfl, rfl⟩ trivial
theorem impl_roomOf0 : AFn Tryz.prog 141 [av (.int .i64 0)] [] (.one (vi 4)) [] := by
 refine AFn.introX (E := En 0 md0) (en_ok 0 md0) Tryz.func141 rfl rfl rfl fun _ _ => ?_
 refine sp1 ?_
 exact Need.mk ⟨[], _, .same, rfl, rfl⟩ trivial
theorem impl_roomOf1 (k : Nat) (h : 0 < k) : AFn Tryz.prog 141 [av (.int .i64 k)] [] (.one (vi 8)) [] := by
 refine AFn.introX (E := En 0 md0) (en_ok 0 md0) Tryz.func141 rfl rfl rfl fun _ _ => ?_
 refine sqF (by omega) fun h1 => ?_
 exact Need.mk ⟨[], _, .same, rfl, rfl⟩ trivial
theorem impl_levelOk (xs : List Rn) (k : Nat) (hx : OkR xs) (hl : ∀ r ∈ xs, r.ents.length ≤ 1099511627776) : AFn Tryz.prog 101 [sl (xs.map Rn.enc), av (.int .i64 k)] [] (rb (levB xs (if k = 0 then 4 else 8) (decide (0 < k)))) [] := by
 have hn : (xs.map Rn.enc).length = xs.length := List.length_map ..
 have hR : ∃ room : Nat, AFn Tryz.prog 141 [av (.int .i64 k)] [] (.one (vi (room : Nat))) [] ∧ room = (if k = 0 then 4 else 8) ∧ room ≤ 8 := by
  by_cases h : k = 0
  ·subst h; exact ⟨4, impl_roomOf0, by simp, by omega⟩
  ·exact ⟨8, impl_roomOf1 k (by omega), by simp [h], by omega⟩
 obtain ⟨room, hR, hroom, hr8⟩ := hR
 rw [← hroom]
 by_cases h4 : xs.length ≤ room
 ·refine AFn.introX (E := En 0 md0) (en_ok 0 md0) Tryz.func101 rfl rfl rfl fun _ _ => ?_
  refine ACall.mk _ _ hR ?_
  refine spF (by omega) fun h1 => ?_
  let S : Nat → St := fun i => ⟨some (sl (xs.map Rn.enc)) :: some (av (.int .i64 k)) :: none :: none :: none :: none :: none :: none :: none :: none :: none :: none :: some (sl (xs.map Rn.enc)) :: some (av (.int .i64 (xs.map Rn.enc).length)) :: some (av (.int .i64 i)) :: List.replicate 25 none, List.replicate 40 absent⟩
  refine ALoop.mk (fun m s => ∃ i : Nat, i ≤ xs.length ∧ m = xs.length - i ∧ (∀ j, j < i → okLv xs (decide (0 < k)) j) ∧ s = S i)
   ⟨_, _, Weak.nrm [true, true, false, false, false, false, false, false, false, false, false, false, true, true, true] [] rfl rfl rfl, 0, Nat.zero_le _, rfl, fun j h => absurd h (by omega), rfl⟩ ?_
  rintro m s ⟨i, hi, rfl, hall, hs⟩
  by_cases hin : i = xs.length
  ·have hres : levB xs room (decide (0 < k)) = true := lev_iff.2 ⟨h4, fun j hj => hall j (by omega)⟩
   subst hs
   refine spF (by omega) fun h1 => ?_
   exact Need.mk ⟨[], _, .same, congrArg rb hres.symm, rfl⟩ trivial
  ·have hia : i < xs.length := by omega
   have hRO := impl_RunOk xs[i] (hx _ (List.getElem_mem hia))
   by_cases ho : runOk xs[i] = true
   ·rw [ho] at hRO
    have hlow : AFn Tryz.prog 144 [.agg (xs[i].enc.map .c)] [] (.one (vs (lowK xs[i]))) [] := impl_lowKey xs[i] (runOk_len ho).1
    by_cases hk : 0 < k
    ·by_cases hi0 : i = 0
     ·have hok : okLv xs (decide (0 < k)) i := fun h => ⟨ho, fun _ h0 => absurd h0 (by omega)⟩
      subst hs
      refine spT (by omega) fun h1 => ?_
      refine nd ?_
      refine Row.mk _ (map_get _ xs i (by omega)) ?_
      refine ACall.mk _ _ hRO ?_
      refine sp1 ?_
      refine spT (by omega) fun h3 => ?_
      refine spF (by omega) fun h4 => ?_
      refine Need.mk (rfl) ?_
      refine Num.mk _ (wrapS (by omega)) ?_
      exact ⟨_, _, by omega, Weak.nrm [true, true, false, false, false, false, false, false, false, false, false, false, true, true, true] [] rfl rfl rfl, i + 1, by omega, rfl, allS hall hok, rfl⟩
     ·have hi1 : i - 1 < xs.length := by omega
      have hprev := (hall (i - 1) (by omega) hi1).1
      have hH : AFn Tryz.prog 143 [.agg (xs[i - 1].enc.map .c)] [] (.one (vs (highK xs[i - 1]))) [] := impl_highKey xs[i - 1] (runOk_len hprev).1 (hl _ (List.getElem_mem hi1))
      have hsub : IntKind.i64.wrap ((i : Int) - 1) = ((i - 1 : Nat) : Int) := wrapI' (by omega) (by omega)
      by_cases hs1 : slt (highK xs[i - 1]) (lowK xs[i]) = true
      ·have hok : okLv xs (decide (0 < k)) i := fun h => ⟨ho, fun _ h0 => hs1⟩
       subst hs
       refine spT (by omega) fun h1 => ?_
       refine nd ?_
       refine Row.mk _ (map_get _ xs i (by omega)) ?_
       refine ACall.mk _ _ hRO ?_
       refine sp1 ?_
       refine spT (by omega) fun h3 => ?_
       refine spT (by omega) fun h4 => ?_
       refine Num.mk _ hsub ?_
       refine nd ?_
       refine Row.mk _ (map_get _ xs (i - 1) (by omega)) ?_
       refine ACall.mk _ _ hH ?_
       refine ACall.mk _ _ hlow ?_
       refine Split.mk fun t h5 => ?_
       cases t
       case true => (exfalso; rw [Bool.not_eq_true'] at h5; exact Bool.noConfusion (h5.symm.trans (‹_› : _ = true)))
       rw [Bool.not_eq_false'] at h5
       refine Need.mk (rfl) ?_
       refine Num.mk _ (wrapS (by omega)) ?_
       exact ⟨_, _, by omega, Weak.nrm [true, true, false, false, false, false, false, false, false, false, false, false, true, true, true] [] rfl rfl rfl, i + 1, by omega, rfl, allS hall hok, rfl⟩
      ·have hres : levB xs room (decide (0 < k)) = false := Bool.eq_false_iff.2 fun h => hs1 (((lev_iff.1 h).2 i hia hia).2 (decide_eq_true hk) (by omega))
       rw [Bool.not_eq_true] at hs1
       subst hs
       refine spT (by omega) fun h1 => ?_
       refine nd ?_
       refine Row.mk _ (map_get _ xs i (by omega)) ?_
       refine ACall.mk _ _ hRO ?_
       refine sp1 ?_
       refine spT (by omega) fun h3 => ?_
       refine spT (by omega) fun h4 => ?_
       refine Num.mk _ hsub ?_
       refine nd ?_
       refine Row.mk _ (map_get _ xs (i - 1) (by omega)) ?_
       refine ACall.mk _ _ hH ?_
       refine ACall.mk _ _ hlow ?_
       refine Split.mk fun t h5 => ?_
       cases t
       case false => (exfalso; rw [Bool.not_eq_false'] at h5; exact Bool.noConfusion (h5.symm.trans (‹_› : _ = false)))
       rw [Bool.not_eq_true'] at h5
       refine Need.mk (rfl) ?_
       exact Need.mk ⟨[], _, .same, congrArg rb hres.symm, rfl⟩ trivial
    ·have hok : okLv xs (decide (0 < k)) i := fun h => ⟨ho, fun h1 => absurd (decide_eq_true_iff.1 h1) hk⟩
     subst hs
     refine spT (by omega) fun h1 => ?_
     refine nd ?_
     refine Row.mk _ (map_get _ xs i (by omega)) ?_
     refine ACall.mk _ _ hRO ?_
     refine sp1 ?_
     refine spF (by omega) fun h3 => ?_
     refine Need.mk (rfl) ?_
     refine Num.mk _ (wrapS (by omega)) ?_
     exact ⟨_, _, by omega, Weak.nrm [true, true, false, false, false, false, false, false, false, false, false, false, true, true, true] [] rfl rfl rfl, i + 1, by omega, rfl, allS hall hok, rfl⟩
   ·have hres : levB xs room (decide (0 < k)) = false := Bool.eq_false_iff.2 fun h => ho ((lev_iff.1 h).2 i hia hia).1
    rw [Bool.not_eq_true] at ho
    rw [ho] at hRO
    subst hs
    refine spT (by omega) fun h1 => ?_
    refine nd ?_
    refine Row.mk _ (map_get _ xs i (by omega)) ?_
    refine ACall.mk _ _ hRO ?_
    refine sp0 ?_
    exact Need.mk ⟨[], _, .same, congrArg rb hres.symm, rfl⟩ trivial
 ·have hres : levB xs room (decide (0 < k)) = false := Bool.eq_false_iff.2 fun h => h4 (lev_iff.1 h).1
  refine AFn.introX (E := En 0 md0) (en_ok 0 md0) Tryz.func101 rfl rfl rfl fun _ _ => ?_
  refine ACall.mk _ _ hR ?_
  refine spT (by omega) fun h1 => ?_
  exact Need.mk ⟨[], _, .same, congrArg rb hres.symm, rfl⟩ trivial
theorem spec_l5Runs_true (xs : List Rn) (most : Nat) (seq : Int) (hx : OkR xs) (hl : ∀ r ∈ xs, r.ents.length ≤ 1099511627776) (hm : most ≤ 8) : AFn Tryz.prog 110 [sl (xs.map Rn.enc), av (.int .i64 most), av (.bool true), av (.int .i64 seq)] [] (rb (levW xs most true seq)) [] := by
 have hn : (xs.map Rn.enc).length = xs.length := List.length_map ..
 by_cases h4 : xs.length ≤ most
 ·refine AFn.introX (E := En 0 md0) (en_ok 0 md0) Tryz.func110 rfl rfl rfl fun _ _ => ?_
  refine spF (by omega) fun h1 => ?_
  let S : Nat → St := fun i => ⟨some (sl (xs.map Rn.enc)) :: none :: some (av (.bool true)) :: some (av (.int .i64 seq)) :: none :: none :: none :: none :: none :: some (av (.int .i64 i)) :: List.replicate 45 none, List.replicate 55 absent⟩
  refine ALoop.mk (fun m s => ∃ i : Nat, i ≤ xs.length ∧ m = xs.length - i ∧ (∀ j, j < i → okLv xs true j ∧ ∀ h : j < xs.length, withinB xs[j].ents seq = true) ∧ s = S i)
   ⟨_, _, Weak.nrm [true, false, true, true, false, false, false, false, false, true] [] rfl rfl rfl, 0, Nat.zero_le _, rfl, fun j h => absurd h (by omega), rfl⟩ ?_
  rintro m s ⟨i, hi, rfl, hall, hs⟩
  by_cases hin : i = xs.length
  ·have hres : levW xs most true seq = true := levW_iff.2 ⟨h4, fun j hj => hall j (by omega)⟩
   subst hs
   refine spF (by omega) fun h1 => ?_
   exact Need.mk ⟨[], _, .same, congrArg rb hres.symm, rfl⟩ trivial
  ·have hia : i < xs.length := by omega
   have hll := hl _ (List.getElem_mem hia)
   have hRO := spec_RunOk xs[i] (hx _ (List.getElem_mem hia)) hll
   have hW := spec_l5Within xs[i].ents seq hll
   by_cases ho : runOk xs[i] = true
   ·rw [ho] at hRO
    have hlow := spec_l5Low xs[i] (runOk_len ho).1
    by_cases hw : withinB xs[i].ents seq = true
    ·rw [hw] at hW
     by_cases hi0 : i = 0
     ·have hok : okLv xs true i ∧ ∀ h : i < xs.length, withinB xs[i].ents seq = true := ⟨fun h => ⟨ho, fun _ h0 => absurd h0 (by omega)⟩, fun _ => hw⟩
      subst hs
      refine spT (by omega) fun h1 => ?_
      refine nd ?_
      refine Row.mk _ (map_get _ xs i (by omega)) ?_
      refine ACall.mk _ _ hRO ?_
      refine sp1 ?_
      refine nd ?_
      refine Row.mk _ (map_get _ xs i (by omega)) ?_
      refine ACall.mk _ _ hW ?_
      refine sp1 ?_
      refine spF (by omega) fun h4 => ?_
      refine Need.mk (rfl) ?_
      refine Num.mk _ (wrapS (by omega)) ?_
      exact ⟨_, _, by omega, Weak.nrm [true, false, true, true, false, false, false, false, false, true] [] rfl rfl rfl, i + 1, by omega, rfl, allS hall hok, rfl⟩
     ·have hi1 : i - 1 < xs.length := by omega
      have hprev := ((hall (i - 1) (by omega)).1 hi1).1
      have hH := spec_l5High xs[i - 1] (runOk_len hprev).1 (hl _ (List.getElem_mem hi1))
      have hsub : IntKind.i64.wrap ((i : Int) - 1) = ((i - 1 : Nat) : Int) := wrapI' (by omega) (by omega)
      by_cases hs1 : slt (highK xs[i - 1]) (lowK xs[i]) = true
      ·have hok : okLv xs true i ∧ ∀ h : i < xs.length, withinB xs[i].ents seq = true := ⟨fun h => ⟨ho, fun _ h0 => hs1⟩, fun _ => hw⟩
       subst hs
       refine spT (by omega) fun h1 => ?_
       refine nd ?_
       refine Row.mk _ (map_get _ xs i (by omega)) ?_
       refine ACall.mk _ _ hRO ?_
       refine sp1 ?_
       refine nd ?_
       refine Row.mk _ (map_get _ xs i (by omega)) ?_
       refine ACall.mk _ _ hW ?_
       refine sp1 ?_
       refine spT (by omega) fun h4 => ?_
       refine Num.mk _ hsub ?_
       refine nd ?_
       refine Row.mk _ (map_get _ xs (i - 1) (by omega)) ?_
       refine ACall.mk _ _ hH ?_
       refine nd ?_
       refine Row.mk _ (map_get _ xs i (by omega)) ?_
       refine ACall.mk _ _ hlow ?_
       refine Split.mk fun t h5 => ?_
       cases t
       case true => (exfalso; rw [Bool.not_eq_true'] at h5; exact Bool.noConfusion (h5.symm.trans (‹_› : _ = true)))
       rw [Bool.not_eq_false'] at h5
       refine Need.mk (rfl) ?_
       refine Num.mk _ (wrapS (by omega)) ?_
       exact ⟨_, _, by omega, Weak.nrm [true, false, true, true, false, false, false, false, false, true] [] rfl rfl rfl, i + 1, by omega, rfl, allS hall hok, rfl⟩
      ·have hres : levW xs most true seq = false := Bool.eq_false_iff.2 fun h => hs1 ((((levW_iff.1 h).2 i hia).1 hia).2 rfl (by omega))
       rw [Bool.not_eq_true] at hs1
       subst hs
       refine spT (by omega) fun h1 => ?_
       refine nd ?_
       refine Row.mk _ (map_get _ xs i (by omega)) ?_
       refine ACall.mk _ _ hRO ?_
       refine sp1 ?_
       refine nd ?_
       refine Row.mk _ (map_get _ xs i (by omega)) ?_
       refine ACall.mk _ _ hW ?_
       refine sp1 ?_
       refine spT (by omega) fun h4 => ?_
       refine Num.mk _ hsub ?_
       refine nd ?_
       refine Row.mk _ (map_get _ xs (i - 1) (by omega)) ?_
       refine ACall.mk _ _ hH ?_
       refine nd ?_
       refine Row.mk _ (map_get _ xs i (by omega)) ?_
       refine ACall.mk _ _ hlow ?_
       refine Split.mk fun t h5 => ?_
       cases t
       case false => (exfalso; rw [Bool.not_eq_false'] at h5; exact Bool.noConfusion (h5.symm.trans (‹_› : _ = false)))
       rw [Bool.not_eq_true'] at h5
       refine Need.mk (rfl) ?_
       exact Need.mk ⟨[], _, .same, congrArg rb hres.symm, rfl⟩ trivial
    ·have hres : levW xs most true seq = false := Bool.eq_false_iff.2 fun h => hw (((levW_iff.1 h).2 i hia).2 hia)
     rw [Bool.not_eq_true] at hw
     rw [hw] at hW
     subst hs
     refine spT (by omega) fun h1 => ?_
     refine nd ?_
     refine Row.mk _ (map_get _ xs i (by omega)) ?_
     refine ACall.mk _ _ hRO ?_
     refine sp1 ?_
     refine nd ?_
     refine Row.mk _ (map_get _ xs i (by omega)) ?_
     refine ACall.mk _ _ hW ?_
     refine sp0 ?_
     exact Need.mk ⟨[], _, .same, congrArg rb hres.symm, rfl⟩ trivial
   ·have hres : levW xs most true seq = false := Bool.eq_false_iff.2 fun h => ho (((levW_iff.1 h).2 i hia).1 hia).1
    rw [Bool.not_eq_true] at ho
    rw [ho] at hRO
    subst hs
    refine spT (by omega) fun h1 => ?_
    refine nd ?_
    refine Row.mk _ (map_get _ xs i (by omega)) ?_
    refine ACall.mk _ _ hRO ?_
    refine sp0 ?_
    exact Need.mk ⟨[], _, .same, congrArg rb hres.symm, rfl⟩ trivial
 ·have hres : levW xs most true seq = false := Bool.eq_false_iff.2 fun h => h4 (levW_iff.1 h).1
  refine AFn.introX (E := En 0 md0) (en_ok 0 md0) Tryz.func110 rfl rfl rfl fun _ _ => ?_
  refine spT (by omega) fun h1 => ?_
  exact Need.mk ⟨[], _, .same, congrArg rb hres.symm, rfl⟩ trivial
theorem spec_l5Runs_false (xs : List Rn) (most : Nat) (seq : Int) (hx : OkR xs) (hl : ∀ r ∈ xs, r.ents.length ≤ 1099511627776) (hm : most ≤ 8) : AFn Tryz.prog 110 [sl (xs.map Rn.enc), av (.int .i64 most), av (.bool false), av (.int .i64 seq)] [] (rb (levW xs most false seq)) [] := by
 have hn : (xs.map Rn.enc).length = xs.length := List.length_map ..
 by_cases h4 : xs.length ≤ most
 ·refine AFn.introX (E := En 0 md0) (en_ok 0 md0) Tryz.func110 rfl rfl rfl fun _ _ => ?_
  refine spF (by omega) fun h1 => ?_
  let S : Nat → St := fun i => ⟨some (sl (xs.map Rn.enc)) :: none :: some (av (.bool false)) :: some (av (.int .i64 seq)) :: none :: none :: none :: none :: none :: some (av (.int .i64 i)) :: List.replicate 45 none, List.replicate 55 absent⟩
  refine ALoop.mk (fun m s => ∃ i : Nat, i ≤ xs.length ∧ m = xs.length - i ∧ (∀ j, j < i → okLv xs false j ∧ ∀ h : j < xs.length, withinB xs[j].ents seq = true) ∧ s = S i)
   ⟨_, _, Weak.nrm [true, false, true, true, false, false, false, false, false, true] [] rfl rfl rfl, 0, Nat.zero_le _, rfl, fun j h => absurd h (by omega), rfl⟩ ?_
  rintro m s ⟨i, hi, rfl, hall, hs⟩
  by_cases hin : i = xs.length
  ·have hres : levW xs most false seq = true := levW_iff.2 ⟨h4, fun j hj => hall j (by omega)⟩
   subst hs
   refine spF (by omega) fun h1 => ?_
   exact Need.mk ⟨[], _, .same, congrArg rb hres.symm, rfl⟩ trivial
  ·have hia : i < xs.length := by omega
   have hll := hl _ (List.getElem_mem hia)
   have hRO := spec_RunOk xs[i] (hx _ (List.getElem_mem hia)) hll
   have hW := spec_l5Within xs[i].ents seq hll
   by_cases ho : runOk xs[i] = true
   ·rw [ho] at hRO
    have hlow := spec_l5Low xs[i] (runOk_len ho).1
    by_cases hw : withinB xs[i].ents seq = true
    ·rw [hw] at hW
     have hok : okLv xs false i ∧ ∀ h : i < xs.length, withinB xs[i].ents seq = true := ⟨fun h => ⟨ho, fun h1 => Bool.noConfusion h1⟩, fun _ => hw⟩
     subst hs
     refine spT (by omega) fun h1 => ?_
     refine nd ?_
     refine Row.mk _ (map_get _ xs i (by omega)) ?_
     refine ACall.mk _ _ hRO ?_
     refine sp1 ?_
     refine nd ?_
     refine Row.mk _ (map_get _ xs i (by omega)) ?_
     refine ACall.mk _ _ hW ?_
     refine sp1 ?_
     refine Need.mk (rfl) ?_
     refine Num.mk _ (wrapS (by omega)) ?_
     exact ⟨_, _, by omega, Weak.nrm [true, false, true, true, false, false, false, false, false, true] [] rfl rfl rfl, i + 1, by omega, rfl, allS hall hok, rfl⟩
    ·have hres : levW xs most false seq = false := Bool.eq_false_iff.2 fun h => hw (((levW_iff.1 h).2 i hia).2 hia)
     rw [Bool.not_eq_true] at hw
     rw [hw] at hW
     subst hs
     refine spT (by omega) fun h1 => ?_
     refine nd ?_
     refine Row.mk _ (map_get _ xs i (by omega)) ?_
     refine ACall.mk _ _ hRO ?_
     refine sp1 ?_
     refine nd ?_
     refine Row.mk _ (map_get _ xs i (by omega)) ?_
     refine ACall.mk _ _ hW ?_
     refine sp0 ?_
     exact Need.mk ⟨[], _, .same, congrArg rb hres.symm, rfl⟩ trivial
   ·have hres : levW xs most false seq = false := Bool.eq_false_iff.2 fun h => ho (((levW_iff.1 h).2 i hia).1 hia).1
    rw [Bool.not_eq_true] at ho
    rw [ho] at hRO
    subst hs
    refine spT (by omega) fun h1 => ?_
    refine nd ?_
    refine Row.mk _ (map_get _ xs i (by omega)) ?_
    refine ACall.mk _ _ hRO ?_
    refine sp0 ?_
    exact Need.mk ⟨[], _, .same, congrArg rb hres.symm, rfl⟩ trivial
 ·have hres : levW xs most false seq = false := Bool.eq_false_iff.2 fun h => h4 (levW_iff.1 h).1
  refine AFn.introX (E := En 0 md0) (en_ok 0 md0) Tryz.func110 rfl rfl rfl fun _ _ => ?_
  refine spT (by omega) fun h1 => ?_
  exact Need.mk ⟨[], _, .same, congrArg rb hres.symm, rfl⟩ trivial
theorem spec_l5Runs (xs : List Rn) (most : Nat) (ap : Bool) (seq : Int) (hx : OkR xs) (hl : ∀ r ∈ xs, r.ents.length ≤ 1099511627776) (hm : most ≤ 8) : AFn Tryz.prog 110 [sl (xs.map Rn.enc), av (.int .i64 most), av (.bool ap), av (.int .i64 seq)] [] (rb (levW xs most ap seq)) [] := by
 cases ap
 ·exact spec_l5Runs_false xs most seq hx hl hm
 ·exact spec_l5Runs_true xs most seq hx hl hm
theorem spec_l5Above (a b : List Ent) (ha : a.length ≤ 1099511627776) (hb : b.length ≤ 1099511627776) : AFn Tryz.prog 158 [sl (a.map Ent.enc), sl (b.map Ent.enc)] [] (rb (aboveB a b)) [] := by
 have han : (a.map Ent.enc).length = a.length := List.length_map ..
 have hbn : (b.map Ent.enc).length = b.length := List.length_map ..
 refine AFn.introX (E := En 0 md0) (en_ok 0 md0) Tryz.func158 rfl rfl rfl fun _ _ => ?_
 let S : Nat → St := fun i => ⟨some (sl (a.map Ent.enc)) :: some (sl (b.map Ent.enc)) :: none :: none :: none :: some (av (.int .i64 i)) :: List.replicate 37 none, List.replicate 43 absent⟩
 refine ALoop.mk (fun m s => ∃ i : Nat, i ≤ a.length ∧ m = a.length - i ∧ (∀ j : Nat, j < i → ∀ (h : j < a.length) (q : Nat) (h2 : q < b.length), a[j].key = b[q].key → b[q].seq < a[j].seq) ∧ s = S i)
  ⟨_, _, Weak.nrm [true, true, false, false, false, true] [] rfl rfl rfl, 0, Nat.zero_le _, rfl, fun j h => absurd h (by omega), rfl⟩ ?_
 rintro m s ⟨i, hi, rfl, hall, hs⟩
 by_cases hin : i = a.length
 ·have hres : aboveB a b = true := above_get.2 fun j hj q hq => hall j (by omega) hj q hq
  subst hs
  refine spF (by omega) fun h1 => ?_
  exact Need.mk ⟨[], _, .same, congrArg rb hres.symm, rfl⟩ trivial
 ·have hia : i < a.length := by omega
  subst hs
  refine spT (by omega) fun h1 => ?_
  let S1 : Nat → St := fun q => ⟨some (sl (a.map Ent.enc)) :: some (sl (b.map Ent.enc)) :: none :: none :: none :: some (av (.int .i64 i)) :: some (av (.int .i64 q)) :: List.replicate 36 none, List.replicate 43 absent⟩
  refine ALoop.mk (fun m s => ∃ q : Nat, q ≤ b.length ∧ m = b.length - q ∧ (∀ p : Nat, p < q → ∀ (h2 : p < b.length), a[i].key = b[p].key → b[p].seq < a[i].seq) ∧ s = S1 q)
   ⟨_, _, Weak.nrm [true, true, false, false, false, true, true] [] rfl rfl rfl, 0, Nat.zero_le _, rfl, fun j h => absurd h (by omega), rfl⟩ ?_
  rintro m s ⟨q, hq, rfl, hall2, hs⟩
  by_cases hqn : q = b.length
  ·have hok : ∀ (h : i < a.length) (q : Nat) (h2 : q < b.length), a[i].key = b[q].key → b[q].seq < a[i].seq := fun _ p hp => hall2 p (by omega) hp
   subst hs
   refine spF (by omega) fun h1 => ?_
   refine Num.mk _ (wrapS (by omega)) ?_
   exact ⟨_, _, by omega, Weak.nrm [true, true, false, false, false, true] [] rfl rfl rfl, i + 1, by omega, rfl, allS hall hok, rfl⟩
  ·have hqa : q < b.length := by omega
   by_cases hk : a[i].key = b[q].key
   ·by_cases hsq : b[q].seq < a[i].seq
    ·have hok2 : ∀ (h2 : q < b.length), a[i].key = b[q].key → b[q].seq < a[i].seq := fun _ _ => hsq
     subst hs
     refine spT (by omega) fun h1 => ?_
     refine nd ?_
     refine Row.mk _ (map_get _ a i (by omega)) ?_
     refine nd ?_
     refine Row.mk _ (map_get _ b q (by omega)) ?_
     refine Split.mk fun t h2 => ?_
     cases t
     case false => (exfalso; rw [bytes_beq, decide_eq_false_iff_not] at h2; exact absurd ‹_› h2)
     rw [bytes_beq, decide_eq_true_iff] at h2
     refine nd ?_
     refine Row.mk _ (map_get _ a i (by omega)) ?_
     refine nd ?_
     refine Row.mk _ (map_get _ b q (by omega)) ?_
     refine spF (by omega) fun h3 => ?_
     refine Need.mk (rfl) ?_
     refine Num.mk _ (wrapS (by omega)) ?_
     exact ⟨_, _, by omega, Weak.nrm [true, true, false, false, false, true, true] [] rfl rfl rfl, q + 1, by omega, rfl, allS hall2 hok2, rfl⟩
    ·have hres : aboveB a b = false := Bool.eq_false_iff.2 fun h => hsq (above_get.1 h i hia q hqa hk)
     subst hs
     refine spT (by omega) fun h1 => ?_
     refine nd ?_
     refine Row.mk _ (map_get _ a i (by omega)) ?_
     refine nd ?_
     refine Row.mk _ (map_get _ b q (by omega)) ?_
     refine Split.mk fun t h2 => ?_
     cases t
     case false => (exfalso; rw [bytes_beq, decide_eq_false_iff_not] at h2; exact absurd ‹_› h2)
     rw [bytes_beq, decide_eq_true_iff] at h2
     refine nd ?_
     refine Row.mk _ (map_get _ a i (by omega)) ?_
     refine nd ?_
     refine Row.mk _ (map_get _ b q (by omega)) ?_
     refine spT (by omega) fun h3 => ?_
     refine Need.mk (rfl) ?_
     exact Need.mk ⟨[], _, .same, congrArg rb hres.symm, rfl⟩ trivial
   ·have hok2 : ∀ (h2 : q < b.length), a[i].key = b[q].key → b[q].seq < a[i].seq := fun _ h => absurd h hk
    subst hs
    refine spT (by omega) fun h1 => ?_
    refine nd ?_
    refine Row.mk _ (map_get _ a i (by omega)) ?_
    refine nd ?_
    refine Row.mk _ (map_get _ b q (by omega)) ?_
    refine Split.mk fun t h2 => ?_
    cases t
    case true => (exfalso; rw [bytes_beq, decide_eq_true_iff] at h2; exact absurd h2 ‹_›)
    rw [bytes_beq, decide_eq_false_iff_not] at h2
    refine Need.mk (rfl) ?_
    refine Num.mk _ (wrapS (by omega)) ?_
    exact ⟨_, _, by omega, Weak.nrm [true, true, false, false, false, true, true] [] rfl rfl rfl, q + 1, by omega, rfl, allS hall2 hok2, rfl⟩
theorem impl_layersOf (L : List (List Rn)) (mem : List Ent) (hL : L.length ≤ 1000) (hl : ∀ r ∈ L, r.length ≤ 1000000) : AFn Tryz.prog 103 [sl (L.map encL), sl (mem.map Ent.enc)] [] (.one (.us 32 (((L.reverse.map (·.map Rn.ents)).flatten ++ [mem]).map encX))) [] := by
 have hn : (L.map encL).length = L.length := List.length_map ..
 have hpos : 0 < Tryz.prog.cellsOf 32 := pos_of tab_ok (t := 32) rfl
 refine AFn.introX (E := En 0 md0) (en_ok 0 md0) Tryz.func103 rfl rfl rfl fun _ _ => ?_
 refine Num.mk _ (wrapI (by omega) (by omega)) ?_
 let S : List (List C) → Int → St := fun R k => ⟨some (sl (L.map encL)) :: some (sl (mem.map Ent.enc)) :: none :: none :: none :: some (.one (.ref 5 0 (.cell 0))) :: some (av (.int .i64 k)) :: List.replicate 28 none, absent :: absent :: absent :: absent :: absent :: ⟨0, 1, some [.us 32 R]⟩ :: List.replicate 29 absent⟩
 refine ALoop.mk (fun m s => ∃ (j : Nat) (k : Int), j ≤ L.length ∧ m = j ∧ k = (j : Int) - 1 ∧ s = S ((layF L j).map encX) k)
  ⟨_, _, Weak.trans (Weak.nrm [true, true, false, false, false, true, true] [] rfl rfl rfl) (Weak.nilOwn 5 5 32 rfl rfl hpos), L.length, ((L.map encL).length : Int) - 1, Nat.le_refl _, rfl, by rw [hn], by rw [layF_len]; rfl⟩ ?_
 rintro m s ⟨j, k, hj, hm, hk, hs⟩
 have hFl := layF_le hl j
 have hF9 : (layF L j).length ≤ 1000000000 := Nat.le_trans hFl (Nat.mul_le_mul hL (Nat.le_refl 1000000))
 by_cases hj0 : j = 0
 ·subst hj0
  have hfin : (((layF L 0) ++ [mem]).map encX) = (((L.reverse.map (·.map Rn.ents)).flatten ++ [mem]).map encX) := rfl
  have hex := exq (layF L 0)
  obtain ⟨G, hG⟩ := hex
  rw [hG] at hs hF9
  have hres : RV.one (.us 32 (G.map encX ++ [encX mem])) = .one (.us 32 (((L.reverse.map (·.map Rn.ents)).flatten ++ [mem]).map encX)) := by
   rw [← hG, ← layF_zero, List.map_append]; rfl
  subst hs
  refine spF (by omega) fun h1 => ?_
  refine apq (A' := _) (B' := [[.sl (List.map Ent.enc mem)]]) rfl rfl ?_
  exact Need.mk ⟨[], _, .same, hres, rfl⟩ trivial
 ·have hja : j - 1 < L.length := by omega
  have hkj : k = ((j - 1 : Nat) : Int) := by omega
  subst hkj
  have hst := layF_succ hja
  rw [show j - 1 + 1 = j by omega] at hst
  have hxs := hl _ (List.getElem_mem hja)
  have hex := exq (L[j - 1])
  obtain ⟨xs, hxs2⟩ := hex
  have hrow : (L.map encL)[j - 1]? = some (encL xs) := by rw [map_get _ L (j - 1) hja, hxs2]
  rw [hxs2] at hst hxs
  have hxn : (xs.map Rn.enc).length = xs.length := List.length_map ..
  have hex := exq (layF L j)
  obtain ⟨G, hG⟩ := hex
  rw [hG] at hs hF9 hst
  subst hs
  refine sp1 ?_
  refine nd ?_
  refine Row.mk _ hrow ?_
  let S1 : List (List C) → Nat → St := fun R i => ⟨some (sl (L.map encL)) :: some (sl (mem.map Ent.enc)) :: none :: none :: none :: some (.one (.ref 5 0 (.cell 0))) :: some (av (.int .i64 ((j - 1 : Nat) : Int))) :: none :: none :: none :: none :: none :: none :: none :: none :: none :: none :: none :: none :: some (sl (xs.map Rn.enc)) :: some (av (.int .i64 (xs.map Rn.enc).length)) :: some (av (.int .i64 i)) :: List.replicate 13 none, absent :: absent :: absent :: absent :: absent :: ⟨0, 1, some [.us 32 R]⟩ :: List.replicate 29 absent⟩
  refine ALoop.mk (fun m s => ∃ i : Nat, i ≤ xs.length ∧ m = xs.length - i ∧ s = S1 ((G ++ (xs.take i).map Rn.ents).map encX) i)
   ⟨_, _, Weak.nrm [true, true, false, false, false, true, true, false, false, false, false, false, false, false, false, false, false, false, false, true, true, true] [(5, 5)] rfl rfl rfl, 0, Nat.zero_le _, rfl, Eq.trans (b := S1 (G.map encX) 0) rfl (by rw [List.take_zero, List.map_nil, List.append_nil])⟩ ?_
  rintro m s ⟨i, hi, hm2, hs⟩
  by_cases hin : i = xs.length
  ·rw [hin, List.take_length, ← hst] at hs
   subst hs
   refine spF (by omega) fun h1 => ?_
   refine Num.mk _ (wrapI (by omega) (by omega)) ?_
   exact ⟨_, _, by omega, Weak.nrm [true, true, false, false, false, true, true] [(5, 5)] rfl rfl rfl, j - 1, ((j - 1 : Nat) : Int) - 1, by omega, rfl, rfl, rfl⟩
  ·have hia : i < xs.length := by omega
   have hsn : (xs.take (i + 1)).map Rn.ents = (xs.take i).map Rn.ents ++ [xs[i].ents] := by rw [List.take_succ_eq_append_getElem hia, List.map_append]; rfl
   have hGl : (G ++ (xs.take i).map Rn.ents).length ≤ 1001000000 := by rw [List.length_append, List.length_map, List.length_take]; omega
   have hex := exq (G ++ (xs.take i).map Rn.ents)
   obtain ⟨K, hK⟩ := hex
   have hsn2 : G ++ (xs.take (i + 1)).map Rn.ents = K ++ [xs[i].ents] := by rw [hsn, ← List.append_assoc, hK]
   rw [hK] at hs hGl
   subst hs
   refine spT (by omega) fun h1 => ?_
   refine nd ?_
   refine Row.mk _ (map_get _ xs i (by omega)) ?_
   refine apq (A' := _) (B' := [[.sl (List.map Ent.enc xs[i].ents)]]) rfl rfl ?_
   refine Num.mk _ (wrapS (by omega)) ?_
   exact ⟨_, _, by omega, Weak.nrm [true, true, false, false, false, true, true, false, false, false, false, false, false, false, false, false, false, false, false, true, true, true] [(29, 5)] rfl rfl rfl, i + 1, by omega, rfl, Eq.trans (b := S1 (K.map encX ++ [encX xs[i].ents]) (i + 1)) rfl (by rw [hsn2, List.map_append]; rfl)⟩
theorem impl_newerAbove (Q : List (List Ent)) (seq : Int) (hs0 : 0 ≤ seq) (hs1 : seq ≤ 100000) (hQ : Q.length ≤ 1000000) (hl : ∀ l ∈ Q, l.length ≤ 1000000) : AFn Tryz.prog 102 [sl (Q.map encX), av (.int .i64 seq)] [] (rb (newer Q [] seq)) [] := by
 have hn : (Q.map encX).length = Q.length := List.length_map ..
 refine AFn.introX (E := En 0 md0) (en_ok 0 md0) Tryz.func102 rfl rfl rfl fun _ _ => ?_
 have hT0 : ∀ k, 0 ≤ lookE ([] : List (ByteArray × Int)) k ∧ lookE ([] : List (ByteArray × Int)) k ≤ seq := fun k => ⟨Int.le_refl _, hs0⟩
 let S : List (ByteArray × Int) → Nat → St := fun T i => ⟨none :: some (av (.int .i64 seq)) :: none :: none :: none :: some (.one (.ref 5 0 (.cell 0))) :: none :: none :: none :: none :: none :: none :: none :: some (sl (Q.map encX)) :: some (av (.int .i64 (Q.map encX).length)) :: some (av (.int .i64 i)) :: List.replicate 41 none, absent :: absent :: absent :: absent :: absent :: ⟨0, 1, some [.mp T]⟩ :: List.replicate 51 absent⟩
 refine ALoop.mk (fun m s => ∃ i : Nat, i ≤ Q.length ∧ m = Q.length - i ∧ newer Q [] seq = newer (Q.drop i) (topsN Q i) seq ∧ (∀ k, 0 ≤ lookE (topsN Q i) k ∧ lookE (topsN Q i) k ≤ seq) ∧ s = S (topsN Q i) i)
  ⟨_, _, Weak.nrm [false, true, false, false, false, true, false, false, false, false, false, false, false, true, true, true] [(12, 5)] rfl rfl rfl, 0, Nat.zero_le _, rfl, rfl, hT0, rfl⟩ ?_
 rintro m s ⟨i, hi, rfl, hnw, hlk, hs⟩
 by_cases hin : i = Q.length
 ·have hres : newer Q [] seq = true := by rw [hnw, hin, List.drop_length]; rfl
  subst hs
  refine spF (by omega) fun h1 => ?_
  exact Need.mk ⟨[], _, .same, congrArg rb hres.symm, rfl⟩ trivial
 ·have hia : i < Q.length := by omega
  have hst := newer_step hia seq
  have hTs : topsN Q (i + 1) = topsE (topsN Q i) Q[i] := by
   unfold topsN; rw [fold_take topsE [] Q i hia]
  have hxs := hl _ (List.getElem_mem hia)
  have hex := exq (Q[i])
  obtain ⟨xs, hxs2⟩ := hex
  have hrow : (Q.map encX)[i]? = some (encX xs) := by rw [map_get _ Q i hia, hxs2]
  rw [hxs2] at hst hxs hTs
  have hxn : (xs.map Ent.enc).length = xs.length := List.length_map ..
  have hex := exq (topsN Q i)
  obtain ⟨T, hT⟩ := hex
  rw [hT] at hs hst hlk hnw hTs
  subst hs
  refine spT (by omega) fun h1 => ?_
  refine nd ?_
  refine Row.mk _ hrow ?_
  let S1 : Nat → St := fun q => ⟨none :: some (av (.int .i64 seq)) :: none :: none :: none :: some (.one (.ref 5 0 (.cell 0))) :: none :: some (sl (xs.map Ent.enc)) :: none :: none :: none :: none :: none :: some (sl (Q.map encX)) :: some (av (.int .i64 (Q.map encX).length)) :: some (av (.int .i64 i)) :: none :: none :: none :: some (sl (xs.map Ent.enc)) :: some (av (.int .i64 (xs.map Ent.enc).length)) :: some (av (.int .i64 q)) :: List.replicate 35 none, absent :: absent :: absent :: absent :: absent :: ⟨0, 1, some [.mp T]⟩ :: List.replicate 51 absent⟩
  refine ALoop.mk (fun m s => ∃ q : Nat, q ≤ xs.length ∧ m = xs.length - q ∧ (∀ p, p < q → ∀ h : p < xs.length, xs[p].seq ≤ seq ∧ lookE T xs[p].key < xs[p].seq) ∧ s = S1 q)
   ⟨_, _, Weak.nrm [false, true, false, false, false, true, false, true, false, false, false, false, false, true, true, true, false, false, false, true, true, true] [(5, 5)] rfl rfl rfl, 0, Nat.zero_le _, rfl, fun j h => absurd h (by omega), rfl⟩ ?_
  rintro m s ⟨q, hq, hm2, hall, hs⟩
  by_cases hqn : q = xs.length
  ·have hly : layerOk T seq xs = true := layer_iff.2 fun p hp => hall p (by omega)
   rw [hly, Bool.true_and] at hst
   have hle : ∀ e ∈ xs, e.seq ≤ seq := fun e he => by
    obtain ⟨p, hp, rfl⟩ := List.getElem_of_mem he
    exact (layer_iff.1 hly p hp hp).1
   have hlk2 : ∀ k, 0 ≤ lookE (topsN Q (i + 1)) k ∧ lookE (topsN Q (i + 1)) k ≤ seq := fun k => by rw [hTs]; exact look_topsE hs0 hlk hle k
   have hnw2 : newer Q [] seq = newer (Q.drop (i + 1)) (topsN Q (i + 1)) seq := hnw.trans hst
   subst hs
   refine spF (by omega) fun h1 => ?_
   let S2 : List (ByteArray × Int) → Nat → St := fun M q => ⟨none :: some (av (.int .i64 seq)) :: none :: none :: none :: some (.one (.ref 5 0 (.cell 0))) :: none :: none :: none :: none :: none :: none :: none :: some (sl (Q.map encX)) :: some (av (.int .i64 (Q.map encX).length)) :: some (av (.int .i64 i)) :: none :: none :: none :: none :: none :: none :: none :: none :: none :: none :: none :: none :: none :: none :: none :: none :: none :: none :: none :: none :: none :: none :: none :: some (sl (xs.map Ent.enc)) :: some (av (.int .i64 (xs.map Ent.enc).length)) :: some (av (.int .i64 q)) :: List.replicate 15 none, absent :: absent :: absent :: absent :: absent :: ⟨0, 1, some [.mp M]⟩ :: List.replicate 51 absent⟩
   refine ALoop.mk (fun m s => ∃ q : Nat, q ≤ xs.length ∧ m = xs.length - q ∧ s = S2 (topsE T (xs.take q)) q)
    ⟨_, _, Weak.nrm [false, true, false, false, false, true, false, false, false, false, false, false, false, true, true, true, false, false, false, false, false, false, false, false, false, false, false, false, false, false, false, false, false, false, false, false, false, false, false, true, true, true] [(5, 5)] rfl rfl rfl, 0, Nat.zero_le _, rfl, rfl⟩ ?_
   rintro m s ⟨q, hq, hm2, hs⟩
   by_cases hqn : q = xs.length
   ·rw [hqn, List.take_length, ← hTs] at hs
    subst hs
    refine spF (by omega) fun h1 => ?_
    refine Num.mk _ (wrapS (by omega)) ?_
    exact ⟨_, _, by omega, Weak.nrm [false, true, false, false, false, true, false, false, false, false, false, false, false, true, true, true] [(5, 5)] rfl rfl rfl, i + 1, by omega, rfl, hnw2, hlk2, rfl⟩
   ·have hqa : q < xs.length := by omega
    have hsn := topsE_snoc T (xs.take q) xs[q]
    rw [← List.take_succ_eq_append_getElem hqa] at hsn
    have hlq := look_topsE hs0 hlk (l := xs.take q) (fun e he => hle e (List.mem_of_mem_take he)) xs[q].key
    have hex := exq (topsE T (xs.take q))
    obtain ⟨M, hM⟩ := hex
    rw [hM] at hsn hlq hs
    have hwr : IntKind.i64.wrap (lookE M xs[q].key) = lookE M xs[q].key := wrapI (by omega) (by omega)
    subst hs
    refine spT (by omega) fun h1 => ?_
    refine nd ?_
    refine Row.mk _ (map_get _ xs q (by omega)) ?_
    refine Num.mk _ hwr ?_
    refine Need.mk (rfl) ?_
    refine Num.mk _ (wrapS (by omega)) ?_
    exact ⟨_, _, by omega, Weak.nrm [false, true, false, false, false, true, false, false, false, false, false, false, false, true, true, true, false, false, false, false, false, false, false, false, false, false, false, false, false, false, false, false, false, false, false, false, false, false, false, true, true, true] [(5, 5)] rfl rfl rfl, q + 1, by omega, rfl, Eq.trans (b := S2 (updE M xs[q].key (if lookE M xs[q].key < xs[q].seq then xs[q].seq else lookE M xs[q].key)) (q + 1)) rfl (by rw [hsn, max_if])⟩
  ·have hqa : q < xs.length := by omega
   have hlq := hlk xs[q].key
   have hwr : IntKind.i64.wrap (lookE T xs[q].key) = lookE T xs[q].key := wrapI (by omega) (by omega)
   by_cases h1 : xs[q].seq ≤ seq
   ·by_cases h2 : lookE T xs[q].key < xs[q].seq
    ·have hok : ∀ h : q < xs.length, xs[q].seq ≤ seq ∧ lookE T xs[q].key < xs[q].seq := fun _ => ⟨h1, h2⟩
     subst hs
     refine spT (by omega) fun h1 => ?_
     refine nd ?_
     refine Row.mk _ (map_get _ xs q (by omega)) ?_
     refine spF (by omega) fun h2 => ?_
     refine Num.mk _ hwr ?_
     refine Need.mk (rfl) ?_
     refine spF (by omega) fun h3 => ?_
     refine Num.mk _ (wrapS (by omega)) ?_
     exact ⟨_, _, by omega, Weak.nrm [false, true, false, false, false, true, false, true, false, false, false, false, false, true, true, true, false, false, false, true, true, true] [(5, 5)] rfl rfl rfl, q + 1, by omega, rfl, allS hall hok, rfl⟩
    ·have hres : newer Q [] seq = false := by
      have : layerOk T seq xs = false := Bool.eq_false_iff.2 fun h => h2 (layer_iff.1 h q hqa hqa).2
      rw [hnw, hst, this, Bool.false_and]
     subst hs
     refine spT (by omega) fun h1 => ?_
     refine nd ?_
     refine Row.mk _ (map_get _ xs q (by omega)) ?_
     refine spF (by omega) fun h2 => ?_
     refine Num.mk _ hwr ?_
     refine Need.mk (rfl) ?_
     refine spT (by omega) fun h3 => ?_
     exact Need.mk ⟨[], _, .same, congrArg rb hres.symm, rfl⟩ trivial
   ·have hres : newer Q [] seq = false := by
     have : layerOk T seq xs = false := Bool.eq_false_iff.2 fun h => h1 (layer_iff.1 h q hqa hqa).1
     rw [hnw, hst, this, Bool.false_and]
    subst hs
    refine spT (by omega) fun h1 => ?_
    refine nd ?_
    refine Row.mk _ (map_get _ xs q (by omega)) ?_
    refine spT (by omega) fun h2 => ?_
    exact Need.mk ⟨[], _, .same, congrArg rb hres.symm, rfl⟩ trivial
theorem spec_l5Parts (seq : Int) (mem : List Ent) (l0 l1 l2 : List Rn) (snaps : List Int) (z0 : l0.length ≤ 1000) (z1 : l1.length ≤ 1000) (z2 : l2.length ≤ 1000) (he1 : ∀ r ∈ l1, r.ents.length ≤ 1000000) (he2 : ∀ r ∈ l2, r.ents.length ≤ 1000000) :
  AFn Tryz.prog 157 [.agg ((Tre.mk seq mem [l0, l1, l2] snaps).enc.map .c)] [] (.one (.us 32 ((mem :: (l0.map Rn.ents).reverse).map encX ++ [flatR' l1, flatR' l2].map encXO))) [] := by
 refine AFn.introX (E := En 0 md0) (en_ok 0 md0) Tryz.func157 rfl rfl rfl fun _ _ => ?_
 have h0n : (l0.map Rn.enc).length = l0.length := List.length_map ..
 refine nd ?_
 refine Row.mk _ rfl ?_
 refine Num.mk _ (wrapI (by omega) (by omega)) ?_
 let T : List C := [vi seq, .sl (mem.map Ent.enc), .sl ([l0, l1, l2].map encL), .sl (snaps.map encI)]
 let S : List (List C) → Int → St := fun R k => ⟨none :: some (.bx 1 0) :: none :: some (.one (.ref 3 0 (.cell 0))) :: some (av (.int .i64 k)) :: List.replicate 61 none, absent :: ⟨0, 0, some T⟩ :: absent :: ⟨0, 1, some [.us 32 R]⟩ :: List.replicate 62 absent⟩
 refine ALoop.mk (fun m s => ∃ (j : Nat) (k : Int), j ≤ l0.length ∧ m = j ∧ k = (j : Int) - 1 ∧ s = S ((mem :: (l0.drop j).reverse.map Rn.ents).map encX) k)
  ⟨_, _, Weak.trans (Weak.nrm [false, true, false, true, true] [(1, 1), (10, 3)] rfl rfl rfl) Weak.one, l0.length, ((l0.map Rn.enc).length : Int) - 1, Nat.le_refl _, rfl, by rw [h0n], by rw [List.drop_length]; rfl⟩ ?_
 rintro m s ⟨j, k, hj, hm, hk, hs⟩
 by_cases hj0 : j = 0
 ·have hb : mem :: (l0.drop j).reverse.map Rn.ents = mem :: (l0.map Rn.ents).reverse := by rw [hj0, List.drop_zero, List.map_reverse]
  rw [hb] at hs
  have hbl : (mem :: (l0.map Rn.ents).reverse).length ≤ 1001 := by rw [List.length_cons, List.length_reverse, List.length_map]; omega
  have hex := exq (mem :: (l0.map Rn.ents).reverse)
  obtain ⟨B, hB⟩ := hex
  rw [hB] at hs hbl
  rw [hB]
  subst hs
  refine spF (by omega) fun h1 => ?_
  let S2 : List (List C) → Nat → St := fun R i => ⟨none :: some (.bx 1 0) :: none :: some (.one (.ref 3 0 (.cell 0))) :: none :: some (av (.int .i64 i)) :: List.replicate 60 none, absent :: ⟨0, 0, some T⟩ :: absent :: ⟨0, 1, some [.us 32 R]⟩ :: List.replicate 62 absent⟩
  refine ALoop.mk (fun m s => ∃ i : Nat, 1 ≤ i ∧ i ≤ 3 ∧ m = 3 - i ∧ s = S2 (B.map encX ++ (([l1, l2].take (i - 1)).map flatR').map encXO) i)
   ⟨_, _, Weak.nrm [false, true, false, true, false, true] [(1, 1), (3, 3)] rfl rfl rfl, 1, Nat.le_refl _, by omega, rfl, Eq.trans (b := S2 (B.map encX) 1) rfl (by simp)⟩ ?_
  rintro m s ⟨i, hi1, hi3, hm3, hs⟩
  by_cases hin : i = 3
  ·have hR3 : B.map encX ++ (([l1, l2].take (i - 1)).map flatR').map encXO = B.map encX ++ [flatR' l1, flatR' l2].map encXO := by rw [hin]; rfl
   rw [hR3] at hs
   subst hin
   subst hs
   refine sp0 ?_
   exact Need.mk ⟨[], _, .same, rfl, rfl⟩ trivial
  ·have hex : ∃ xs : List Rn, ([l0, l1, l2].map encL)[i]? = some (encL xs) ∧ ([l1, l2].take (i + 1 - 1)).map flatR' = ([l1, l2].take (i - 1)).map flatR' ++ [flatR' xs] ∧ xs.length ≤ 1000 ∧ ∀ r ∈ xs, r.ents.length ≤ 1000000 := by
    have h12 : i = 1 ∨ i = 2 := by omega
    rcases h12 with h | h
    ·subst h; exact ⟨l1, rfl, rfl, z1, he1⟩
    ·subst h; exact ⟨l2, rfl, rfl, z2, he2⟩
   obtain ⟨xs, hrow, hnx, hxl, hxe⟩ := hex
   have hRl : (B.map encX ++ (([l1, l2].take (i - 1)).map flatR').map encXO).length ≤ 1010 := by
    rw [List.length_append, List.length_map, List.length_map, List.length_map, List.length_take]; omega
   have hnx2 : B.map encX ++ (([l1, l2].take (i + 1 - 1)).map flatR').map encXO = (B.map encX ++ (([l1, l2].take (i - 1)).map flatR').map encXO) ++ [encXO (flatR' xs)] := by
    rw [hnx, List.map_append, List.append_assoc]; rfl
   have hex := exq (B.map encX ++ (([l1, l2].take (i - 1)).map flatR').map encXO)
   obtain ⟨R, hR⟩ := hex
   rw [hR] at hs hRl hnx2
   have hxn : (xs.map Rn.enc).length = xs.length := List.length_map ..
   have hflr := flatR_le hxe
   have hmul : xs.length * 1000000 ≤ 1000000000 := by omega
   have hi2 : i < 3 := by omega
   subst hs
   refine Split.mk fun t h1 => ?_
   cases t
   case false => (exfalso; simp at h1 <;> omega)
   rw [decide_eq_true_iff] at h1
   let S3 : List (List C) → Nat → St := fun Z q => ⟨none :: some (.bx 1 0) :: none :: some (.one (.ref 3 0 (.cell 0))) :: none :: some (av (.int .i64 i)) :: some (.one (.ref 6 0 (.cell 0))) :: some (av (.int .i64 q)) :: List.replicate 58 none, absent :: ⟨0, 0, some T⟩ :: absent :: ⟨0, 1, some [.us 32 R]⟩ :: absent :: absent :: ⟨0, 1, some [.us 83 Z]⟩ :: List.replicate 59 absent⟩
   refine ALoop.mk (fun m s => ∃ q : Nat, q ≤ xs.length ∧ m = xs.length - q ∧ s = S3 ((flatR' (xs.take q)).map Ent.enc) q)
    ⟨_, _, Weak.trans (Weak.nrm [false, true, false, true, false, true, true, true] [(1, 1), (3, 3), (39, 6)] rfl rfl rfl) Weak.one, 0, Nat.zero_le _, rfl, rfl⟩ ?_
   rintro m s ⟨q, hq, hm4, hs⟩
   have hidx : (0 : Int) ≤ (i : Int) ∧ (i : Int) < ((([l0, l1, l2].map encL).length : Nat) : Int) := ⟨by omega, by simp only [List.length_map, List.length_cons, List.length_nil]; omega⟩
   by_cases hqn : q = xs.length
   ·rw [hqn, List.take_length] at hs
    subst hs
    refine nd ?_
    refine Row.mk _ hrow ?_
    refine spF (by omega) fun h1 => ?_
    refine apq (A' := _) (B' := [[.us 83 (List.map Ent.enc (flatR' xs))]]) rfl rfl ?_
    refine Num.mk _ (wrapS (by omega)) ?_
    exact ⟨_, _, by omega, Weak.nrm [false, true, false, true, false, true] [(1, 1), (64, 3)] rfl rfl rfl, i + 1, by omega, by omega, rfl, Eq.trans (b := S2 (R ++ [encXO (flatR' xs)]) (i + 1)) rfl (by rw [hnx2])⟩
   ·have hqa : q < xs.length := by omega
    have hft := flatR_take hqa
    have hfl := hflr q
    have hel := hxe _ (List.getElem_mem hqa)
    have hex := exq (flatR' (xs.take q))
    obtain ⟨Z, hZ⟩ := hex
    rw [hZ] at hs hft hfl
    subst hs
    refine nd ?_
    refine Row.mk _ hrow ?_
    refine spT (by omega) fun h1 => ?_
    refine nd ?_
    refine Row.mk _ hrow ?_
    refine nd ?_
    refine Row.mk _ (map_get _ xs q (by omega)) ?_
    refine Need.mk (⟨(plainE _), (lenE _)⟩) ?_
    refine apq (A' := _) (B' := _) rfl rfl ?_
    refine Num.mk _ (wrapS (by omega)) ?_
    exact ⟨_, _, by omega, Weak.nrm [false, true, false, true, false, true, true, true] [(1, 1), (3, 3), (60, 6)] rfl rfl rfl, q + 1, by omega, rfl, Eq.trans (b := S3 (Z.map Ent.enc ++ xs[q].ents.map Ent.enc) (q + 1)) rfl (by rw [hft, List.map_append])⟩
 ·have hja : j - 1 < l0.length := by omega
  have hkj : k = ((j - 1 : Nat) : Int) := by omega
  subst hkj
  have hst := drop_rev hja
  rw [show j - 1 + 1 = j by omega] at hst
  have hll : (mem :: (l0.drop j).reverse.map Rn.ents).length ≤ 1001 := by rw [List.length_cons, List.length_map, List.length_reverse, List.length_drop]; omega
  have hst2 : mem :: (l0.drop (j - 1)).reverse.map Rn.ents = (mem :: (l0.drop j).reverse.map Rn.ents) ++ [l0[j - 1].ents] := by rw [hst, List.map_append]; rfl
  have hex := exq (mem :: (l0.drop j).reverse.map Rn.ents)
  obtain ⟨G, hG⟩ := hex
  rw [hG] at hs hst2 hll
  subst hs
  refine sp1 ?_
  refine nd ?_
  refine Row.mk _ rfl ?_
  refine nd ?_
  refine Row.mk _ (map_get _ l0 (j - 1) (by omega)) ?_
  refine apq (A' := _) (B' := [[.sl (List.map Ent.enc l0[j - 1].ents)]]) rfl rfl ?_
  refine Num.mk _ (wrapI (by omega) (by omega)) ?_
  exact ⟨_, _, by omega, Weak.nrm [false, true, false, true, true] [(1, 1), (31, 3)] rfl rfl rfl, j - 1, ((j - 1 : Nat) : Int) - 1, by omega, rfl, rfl, Eq.trans (b := S (G.map encX ++ [encX l0[j - 1].ents]) (((j - 1 : Nat) : Int) - 1)) rfl (by rw [hst2, List.map_append]; rfl)⟩
theorem frzM (A B : List (List Ent)) : Frz (.us 32 (A.map encX ++ B.map encXO)) (.sl ((A ++ B).map encX)) := by
 have key : ∀ (i : Nat) (r r' : List C), (A.map encX ++ B.map encXO)[i]? = some r → ((A ++ B).map encX)[i]? = some r' → FrzL r r' := by
  intro i r r' h1 h2
  rw [List.map_append] at h2
  by_cases hi : i < A.length
  ·rw [List.getElem?_append_left (by rw [List.length_map]; exact hi)] at h1 h2
   rw [h1] at h2
   injection h2 with h2
   subst h2
   obtain ⟨a, _, rfl⟩ := List.mem_map.1 (List.mem_of_getElem? h1)
   exact .cons .sl .nil
  ·rw [List.getElem?_append_right (by rw [List.length_map]; omega), List.length_map, List.getElem?_map] at h1 h2
   cases hb : B[i - A.length]? with
   | none => rw [hb] at h1; cases h1
   | some b =>
    rw [hb] at h1 h2
    injection h1 with h1; injection h2 with h2
    subst h1; subst h2
    exact .cons (frzE b) .nil
 refine .us (by simp) (fun i r r' h1 h2 => (key i r r' h1 h2).len) fun i r r' j c c' h1 h2 h3 h4 => (key i r r' h1 h2).get j c c' h3 h4
theorem spec_l5Aged (seq : Int) (mem : List Ent) (l0 l1 l2 : List Rn) (snaps : List Int) (hm : mem.length ≤ 1000000) (z0 : l0.length ≤ 1000) (z1 : l1.length ≤ 1000) (z2 : l2.length ≤ 1000) (he0 : ∀ r ∈ l0, r.ents.length ≤ 1000000) (he1 : ∀ r ∈ l1, r.ents.length ≤ 1000000) (he2 : ∀ r ∈ l2, r.ents.length ≤ 1000000) :
  AFn Tryz.prog 111 [.agg ((Tre.mk seq mem [l0, l1, l2] snaps).enc.map .c)] [] (rb (agedB (parts3 l0 l1 l2 mem))) [] := by
 have hP := spec_l5Parts seq mem l0 l1 l2 snaps z0 z1 z2 he1 he2
 have hlen : (parts3 l0 l1 l2 mem).length ≤ 1003 := by
  unfold parts3
  rw [List.length_cons, List.length_append, List.length_reverse, List.length_map]
  simp only [List.length_cons, List.length_nil]; omega
 have hsz : ∀ p ∈ parts3 l0 l1 l2 mem, p.length ≤ 1000000000 := fun p hp => by
  unfold parts3 at hp
  rw [List.mem_cons, List.mem_append, List.mem_reverse, List.mem_cons, List.mem_singleton] at hp
  rcases hp with hp | hp | hp | hp
  ·subst hp; omega
  ·obtain ⟨r, hr, rfl⟩ := List.mem_map.1 hp
   have := he0 r hr; omega
  ·subst hp
   have := flatR_le he1 l1.length
   rw [List.take_length] at this
   exact Nat.le_trans this (Nat.mul_le_mul z1 (Nat.le_refl 1000000))
  ·subst hp
   have := flatR_le he2 l2.length
   rw [List.take_length] at this
   exact Nat.le_trans this (Nat.mul_le_mul z2 (Nat.le_refl 1000000))
 have hF : (Frz (.us 32 ((mem :: (l0.map Rn.ents).reverse).map encX ++ [flatR' l1, flatR' l2].map encXO)) (.sl ((parts3 l0 l1 l2 mem).map encX))) := frzM (mem :: (l0.map Rn.ents).reverse) [flatR' l1, flatR' l2]
 have hex := exq (parts3 l0 l1 l2 mem)
 obtain ⟨Q, hQ⟩ := hex
 rw [hQ] at hlen hsz hF
 rw [hQ]
 have hQn : (Q.map encX).length = Q.length := List.length_map ..
 refine AFn.introX (E := En 0 md0 (fz := [3])) (en_ok 0 _ _ _ _ _) Tryz.func111 rfl rfl rfl fun _ _ => ?_
 refine ACall.mk _ _ hP ?_
 refine Fz.mk _ hF ?_
 let S : Nat → St := fun i => ⟨none :: none :: none :: some (sl (Q.map encX)) :: some (av (.int .i64 i)) :: List.replicate 27 none, List.replicate 32 absent⟩
 refine ALoop.mk (fun m s => ∃ i : Nat, i ≤ Q.length ∧ m = Q.length - i ∧ (∀ j, j < i → ∀ (h : j < Q.length) (k : Nat) (h2 : k < Q.length), j < k → aboveB Q[j] Q[k] = true) ∧ s = S i)
  ⟨_, _, Weak.nrm [false, false, false, true, true] [] rfl rfl rfl, 0, Nat.zero_le _, rfl, fun j h => absurd h (by omega), rfl⟩ ?_
 rintro m s ⟨i, hi, rfl, hall, hs⟩
 by_cases hin : i = Q.length
 ·have hres : agedB Q = true := agedB_get.2 fun j hj => hall j (by omega)
  subst hs
  refine spF (by omega) fun h1 => ?_
  exact Need.mk ⟨[], _, .same, congrArg rb hres.symm, rfl⟩ trivial
 ·have hia : i < Q.length := by omega
  subst hs
  refine spT (by omega) fun h1 => ?_
  refine Num.mk _ (wrapS (by omega)) ?_
  let S1 : Nat → St := fun k => ⟨none :: none :: none :: some (sl (Q.map encX)) :: some (av (.int .i64 i)) :: some (av (.int .i64 k)) :: List.replicate 26 none, List.replicate 32 absent⟩
  refine ALoop.mk (fun m s => ∃ k : Nat, k ≤ Q.length ∧ i < k ∧ m = Q.length - k ∧ (∀ q, q < k → ∀ (h2 : q < Q.length), i < q → aboveB Q[i] Q[q] = true) ∧ s = S1 k)
   ⟨_, _, Weak.nrm [false, false, false, true, true, true] [] rfl rfl rfl, i + 1, by omega, by omega, rfl, fun j h _ h2 => absurd h (by omega), rfl⟩ ?_
  rintro m s ⟨k, hk, hik, hmk, hall2, hs⟩
  have hs1 := hsz _ (List.getElem_mem hia)
  by_cases hkn : k = Q.length
  ·have hok : ∀ (h : i < Q.length) (k : Nat) (h2 : k < Q.length), i < k → aboveB Q[i] Q[k] = true := fun _ q hq h => hall2 q (by omega) hq h
   subst hs
   refine spF (by omega) fun h1 => ?_
   refine Num.mk _ (wrapS (by omega)) ?_
   exact ⟨_, _, by omega, Weak.nrm [false, false, false, true, true] [] rfl rfl rfl, i + 1, by omega, rfl, allS hall hok, rfl⟩
  ·have hka : k < Q.length := by omega
   have hs2 := hsz _ (List.getElem_mem hka)
   have hA := spec_l5Above Q[i] Q[k] (by omega) (by omega)
   by_cases hab : aboveB Q[i] Q[k] = true
   ·have hok2 : ∀ (h2 : k < Q.length), i < k → aboveB Q[i] Q[k] = true := fun _ _ => hab
    rw [hab] at hA
    subst hs
    refine spT (by omega) fun h1 => ?_
    refine nd ?_
    refine Row.mk _ (map_get _ Q i (by omega)) ?_
    refine nd ?_
    refine Row.mk _ (map_get _ Q k (by omega)) ?_
    refine ACall.mk _ _ hA ?_
    refine sp1 ?_
    refine Need.mk (rfl) ?_
    refine Num.mk _ (wrapS (by omega)) ?_
    exact ⟨_, _, by omega, Weak.nrm [false, false, false, true, true, true] [] rfl rfl rfl, k + 1, by omega, by omega, rfl, allS hall2 hok2, rfl⟩
   ·have hres : agedB Q = false := Bool.eq_false_iff.2 fun h => hab (agedB_get.1 h i hia hia k hka hik)
    rw [Bool.not_eq_true] at hab
    rw [hab] at hA
    subst hs
    refine spT (by omega) fun h1 => ?_
    refine nd ?_
    refine Row.mk _ (map_get _ Q i (by omega)) ?_
    refine nd ?_
    refine Row.mk _ (map_get _ Q k (by omega)) ?_
    refine ACall.mk _ _ hA ?_
    refine sp0 ?_
    refine Need.mk (rfl) ?_
    exact Need.mk ⟨[], _, .same, congrArg rb hres.symm, rfl⟩ trivial
theorem impl_TreeOk (t : Tre) (ht : t.Ok) (hz : ∀ l ∈ t.levels, ∀ r ∈ l, r.ents.length ≤ 1099511627776) : AFn Tryz.prog 55 [.agg (t.enc.map .c)] [] (rb (treeOk t)) [] := by
 have hmn : (t.mem.map Ent.enc).length = t.mem.length := List.length_map ..
 have hln : (t.levels.map encL).length = t.levels.length := List.length_map ..
 have hT := @treeOk_first t
 by_cases hm : t.mem.length ≤ 60
 ·by_cases hl3 : t.levels.length = 3
  ·obtain ⟨l0, l1, l2, hlev⟩ := three_of hl3
   have hO := impl_inOrder t.mem ht.1 (by omega)
   have hS := impl_snapsOk t.snaps t.seq
   by_cases ho : ordOk t.mem = true
   ·rw [ho] at hO
    by_cases hsn : snapsB t.snaps t.seq = true
    ·rw [hsn] at hS
     by_cases hs0 : 0 ≤ t.seq
     ·by_cases hs1 : t.seq ≤ 100000
      ·refine AFn.introX (E := En 0 md0) (en_ok 0 _ _ _ _ _) Tryz.func55 rfl rfl rfl fun _ _ => ?_
       refine spF (by omega) fun h1 => ?_
       refine spF (by omega) fun h2 => ?_
       refine spF (by omega) fun h3 => ?_
       refine Split.mk fun t h4 => ?_
       cases t
       case true => (exfalso; rw [bne_iff_ne] at h4; omega)
       rw [bne_eq_false_iff_eq] at h4
       refine ACall.mk _ _ hO ?_
       refine sp1 ?_
       refine ACall.mk _ _ hS ?_
       refine sp1 ?_
       have hlv : ∀ j, j < 3 → (t.levels.map encL)[j]? = some (encL ([l0, l1, l2].getD j [])) := fun j hj => by
        rw [hlev]
        have h012 : j = 0 ∨ j = 1 ∨ j = 2 := by omega
        rcases h012 with h | h | h <;> subst h <;> rfl
       have hmem : ∀ j, j < 3 → [l0, l1, l2].getD j [] ∈ t.levels := fun j hj => by
        rw [hlev]; exact getD_mem (by simpa using hj)
       have hTl : treeOk t = treeOk3 t.seq t.mem l0 l1 l2 t.snaps := by unfold treeOk; rw [hlev]
       let S : Nat → St := fun i => ⟨none :: some (.bx 1 0) :: none :: none :: none :: none :: none :: none :: none :: none :: none :: none :: none :: none :: none :: none :: none :: none :: none :: none :: none :: none :: none :: none :: none :: none :: none :: none :: none :: none :: none :: none :: none :: none :: none :: none :: none :: none :: some (sl (t.levels.map encL)) :: some (av (.int .i64 (t.levels.map encL).length)) :: some (av (.int .i64 i)) :: List.replicate 17 none, absent :: ⟨0, 0, some t.enc⟩ :: List.replicate 56 absent⟩
       refine ALoop.mk (fun m s => ∃ i : Nat, i ≤ 3 ∧ m = 3 - i ∧ (∀ j, j < i → levB ([l0, l1, l2].getD j []) (if j = 0 then 4 else 8) (decide (0 < j)) = true) ∧ s = S i)
        ⟨_, _, Weak.nrm [false, true, false, false, false, false, false, false, false, false, false, false, false, false, false, false, false, false, false, false, false, false, false, false, false, false, false, false, false, false, false, false, false, false, false, false, false, false, true, true, true] [(1, 1)] rfl rfl rfl, 0, Nat.zero_le _, rfl, fun j h => absurd h (by omega), rfl⟩ ?_
       rintro m s ⟨i, hi, rfl, hall, hs⟩
       by_cases hin : i = 3
       ·have b0 : levB l0 4 false = true := hall 0 (by omega)
        have b1 : levB l1 8 true = true := hall 1 (by omega)
        have b2 : levB l2 8 true = true := hall 2 (by omega)
        have hres : treeOk t = newer (layers l0 l1 l2 t.mem) [] t.seq := by
         rw [hTl]; unfold treeOk3
         rw [decide_eq_true hs0, decide_eq_true hs1, decide_eq_true hm, ho, hsn, b0, b1, b2]; rfl
        have k0 := levB_ok b0
        have k1 := levB_ok b1
        have k2 := levB_ok b2
        have hLy := impl_layersOf t.levels t.mem (by omega) fun r hr => by
         rw [hlev, List.mem_cons, List.mem_cons, List.mem_singleton] at hr
         rcases hr with h | h | h <;> subst h
         ·exact Nat.le_trans k0.1 (by decide)
         ·exact Nat.le_trans k1.1 (by decide)
         ·exact Nat.le_trans k2.1 (by decide)
        have hle : (t.levels.reverse.map (·.map Rn.ents)).flatten ++ [t.mem] = layers l0 l1 l2 t.mem := by
         rw [hlev]; unfold layers; simp
        rw [hle] at hLy
        have hNA := impl_newerAbove (layers l0 l1 l2 t.mem) t.seq hs0 hs1 (by unfold layers; simp only [List.length_append, List.length_map, List.length_cons, List.length_nil]; omega) fun l hl => by
         unfold layers at hl
         rw [List.mem_append, List.mem_append, List.mem_append, List.mem_singleton] at hl
         rcases hl with hl | hl | hl | hl
         ·obtain ⟨r, hr, rfl⟩ := List.mem_map.1 hl
          have := runOk_len (k2.2 r hr); omega
         ·obtain ⟨r, hr, rfl⟩ := List.mem_map.1 hl
          have := runOk_len (k1.2 r hr); omega
         ·obtain ⟨r, hr, rfl⟩ := List.mem_map.1 hl
          have := runOk_len (k0.2 r hr); omega
         ·subst hl; omega
        rw [← hres] at hNA
        have hex := exq (layers l0 l1 l2 t.mem)
        obtain ⟨Q, hQ⟩ := hex
        rw [hQ] at hLy hNA
        subst hin
        subst hs
        refine spF (by omega) fun h1 => ?_
        refine ACall.mk _ _ hLy ?_
        refine Fz.mk _ (frzXX _) ?_
        refine ACall.mk _ _ hNA ?_
        refine Need.mk (⟨ClL.mem (.v .nil), no_objs⟩) ?_
        refine Split.mk fun t h2 => ?_
        cases t
        ·skip
         refine Need.mk (rfl) ?_
         exact Need.mk ⟨[], _, .same, congrArg rb h2.symm, rfl⟩ trivial
        ·skip
         refine Need.mk (rfl) ?_
         exact Need.mk ⟨[], _, .same, congrArg rb h2.symm, rfl⟩ trivial
       ·have hi3 : i < 3 := by omega
        have hrow := hlv i hi3
        have hLO := impl_levelOk ([l0, l1, l2].getD i []) i (ht.2 _ (hmem i hi3)) (hz _ (hmem i hi3))
        have hex := exq ([l0, l1, l2].getD i [])
        obtain ⟨xs, hxs⟩ := hex
        by_cases hok : levB ([l0, l1, l2].getD i []) (if i = 0 then 4 else 8) (decide (0 < i)) = true
        ·rw [hok] at hLO
         rw [hxs] at hLO hrow
         subst hs
         refine spT (by omega) fun h1 => ?_
         refine nd ?_
         refine Row.mk _ hrow ?_
         refine ACall.mk _ _ hLO ?_
         refine sp1 ?_
         refine Num.mk _ (wrapS (by omega)) ?_
         exact ⟨_, _, by omega, Weak.nrm [false, true, false, false, false, false, false, false, false, false, false, false, false, false, false, false, false, false, false, false, false, false, false, false, false, false, false, false, false, false, false, false, false, false, false, false, false, false, true, true, true] [(1, 1)] rfl rfl rfl, i + 1, by omega, rfl, allS hall hok, rfl⟩
        ·have hres : treeOk t = false := Bool.eq_false_iff.2 fun h => by
          rw [hTl] at h
          obtain ⟨_, _, _, _, _, b0, b1, b2, _⟩ := treeOk3_iff.1 h
          have h012 : i = 0 ∨ i = 1 ∨ i = 2 := by omega
          rcases h012 with h | h | h <;> subst h
          ·exact hok b0
          ·exact hok b1
          ·exact hok b2
         rw [Bool.not_eq_true] at hok
         rw [hok] at hLO
         rw [hxs] at hLO hrow
         subst hs
         refine spT (by omega) fun h1 => ?_
         refine nd ?_
         refine Row.mk _ hrow ?_
         refine ACall.mk _ _ hLO ?_
         refine sp0 ?_
         exact Need.mk ⟨[], _, .same, congrArg rb hres.symm, rfl⟩ trivial
      ·refine AFn.introX (E := En 0 md0) (en_ok 0 _ _ _ _ _) Tryz.func55 rfl rfl rfl fun _ _ => ?_
       refine spF (by omega) fun h1 => ?_
       refine spT (by omega) fun h2 => ?_
       exact Need.mk ⟨[], _, .same, congrArg rb (Bool.eq_false_iff.2 fun h => by have := hT h; omega).symm, rfl⟩ trivial
     ·refine AFn.introX (E := En 0 md0) (en_ok 0 _ _ _ _ _) Tryz.func55 rfl rfl rfl fun _ _ => ?_
      refine spT (by omega) fun h1 => ?_
      exact Need.mk ⟨[], _, .same, congrArg rb (Bool.eq_false_iff.2 fun h => by have := hT h; omega).symm, rfl⟩ trivial
    ·have hres : treeOk t = false := Bool.eq_false_iff.2 fun h => by
      obtain ⟨_, _, _, _, h⟩ := treeOk_levels h
      exact hsn (treeOk3_iff.1 h).2.2.2.2.1
     rw [Bool.not_eq_true] at hsn
     rw [hsn] at hS
     refine AFn.introX (E := En 0 md0) (en_ok 0 _ _ _ _ _) Tryz.func55 rfl rfl rfl fun _ _ => ?_
     refine Split.mk fun t h1 => ?_
     cases t
     ·skip
      rw [decide_eq_false_iff_not] at h1
      refine Split.mk fun t h2 => ?_
      cases t
      ·skip
       rw [decide_eq_false_iff_not] at h2
       refine spF (by omega) fun h3 => ?_
       refine Split.mk fun t h4 => ?_
       cases t
       case true => (exfalso; rw [bne_iff_ne] at h4; omega)
       rw [bne_eq_false_iff_eq] at h4
       refine ACall.mk _ _ hO ?_
       refine sp1 ?_
       refine ACall.mk _ _ hS ?_
       refine sp0 ?_
       exact Need.mk ⟨[], _, .same, congrArg rb hres.symm, rfl⟩ trivial
      ·skip
       rw [decide_eq_true_iff] at h2
       exact Need.mk ⟨[], _, .same, congrArg rb (Bool.eq_false_iff.2 fun h => by have := hT h; omega).symm, rfl⟩ trivial
     ·skip
      rw [decide_eq_true_iff] at h1
      exact Need.mk ⟨[], _, .same, congrArg rb (Bool.eq_false_iff.2 fun h => by have := hT h; omega).symm, rfl⟩ trivial
   ·have hres : treeOk t = false := Bool.eq_false_iff.2 fun h => by
     obtain ⟨_, _, _, _, h⟩ := treeOk_levels h
     exact ho (treeOk3_iff.1 h).2.2.2.1
    rw [Bool.not_eq_true] at ho
    rw [ho] at hO
    refine AFn.introX (E := En 0 md0) (en_ok 0 _ _ _ _ _) Tryz.func55 rfl rfl rfl fun _ _ => ?_
    refine Split.mk fun t h1 => ?_
    cases t
    ·skip
     rw [decide_eq_false_iff_not] at h1
     refine Split.mk fun t h2 => ?_
     cases t
     ·skip
      rw [decide_eq_false_iff_not] at h2
      refine spF (by omega) fun h3 => ?_
      refine Split.mk fun t h4 => ?_
      cases t
      case true => (exfalso; rw [bne_iff_ne] at h4; omega)
      rw [bne_eq_false_iff_eq] at h4
      refine ACall.mk _ _ hO ?_
      refine sp0 ?_
      exact Need.mk ⟨[], _, .same, congrArg rb hres.symm, rfl⟩ trivial
     ·skip
      rw [decide_eq_true_iff] at h2
      exact Need.mk ⟨[], _, .same, congrArg rb (Bool.eq_false_iff.2 fun h => by have := hT h; omega).symm, rfl⟩ trivial
    ·skip
     rw [decide_eq_true_iff] at h1
     exact Need.mk ⟨[], _, .same, congrArg rb (Bool.eq_false_iff.2 fun h => by have := hT h; omega).symm, rfl⟩ trivial
  ·refine AFn.introX (E := En 0 md0) (en_ok 0 _ _ _ _ _) Tryz.func55 rfl rfl rfl fun _ _ => ?_
   refine Split.mk fun t h1 => ?_
   cases t
   ·skip
    rw [decide_eq_false_iff_not] at h1
    refine Split.mk fun t h2 => ?_
    cases t
    ·skip
     rw [decide_eq_false_iff_not] at h2
     refine spF (by omega) fun h3 => ?_
     refine Split.mk fun t h4 => ?_
     cases t
     case false => (exfalso; rw [bne_eq_false_iff_eq] at h4; omega)
     rw [bne_iff_ne] at h4
     exact Need.mk ⟨[], _, .same, congrArg rb (Bool.eq_false_iff.2 fun h => by have := hT h; omega).symm, rfl⟩ trivial
    ·skip
     rw [decide_eq_true_iff] at h2
     exact Need.mk ⟨[], _, .same, congrArg rb (Bool.eq_false_iff.2 fun h => by have := hT h; omega).symm, rfl⟩ trivial
   ·skip
    rw [decide_eq_true_iff] at h1
    exact Need.mk ⟨[], _, .same, congrArg rb (Bool.eq_false_iff.2 fun h => by have := hT h; omega).symm, rfl⟩ trivial
 ·refine AFn.introX (E := En 0 md0) (en_ok 0 _ _ _ _ _) Tryz.func55 rfl rfl rfl fun _ _ => ?_
  refine Split.mk fun t h1 => ?_
  cases t
  ·skip
   rw [decide_eq_false_iff_not] at h1
   refine Split.mk fun t h2 => ?_
   cases t
   ·skip
    rw [decide_eq_false_iff_not] at h2
    refine spT (by omega) fun h3 => ?_
    exact Need.mk ⟨[], _, .same, congrArg rb (Bool.eq_false_iff.2 fun h => by have := hT h; omega).symm, rfl⟩ trivial
   ·skip
    rw [decide_eq_true_iff] at h2
    exact Need.mk ⟨[], _, .same, congrArg rb (Bool.eq_false_iff.2 fun h => by have := hT h; omega).symm, rfl⟩ trivial
  ·skip
   rw [decide_eq_true_iff] at h1
   exact Need.mk ⟨[], _, .same, congrArg rb (Bool.eq_false_iff.2 fun h => by have := hT h; omega).symm, rfl⟩ trivial
theorem impl_diskOk (d : Dsk) (hd : d.Ok) (hz : ∀ l ∈ d.levels, ∀ r ∈ l, r.ents.length ≤ 1099511627776) : AFn Tryz.prog 54 [.agg (d.enc.map .c)] [] (rb (diskB d)) [] := by
 have hT := impl_TreeOk ⟨d.seq, [], d.levels, []⟩ ⟨fun e he => (nomatch he), hd.2⟩ hz
 obtain ⟨log, safe, levels, seq⟩ := d
 have hfin : ∀ b, treeOk ⟨seq, [], levels, []⟩ = b → diskB ⟨log, safe, levels, seq⟩ = (decide (log.size ≤ 12000) && (decide (0 ≤ safe) && (decide (safe ≤ log.size) && b))) := fun b hb => by rw [← hb]; rfl
 have hT : AFn Tryz.prog 55 [.agg [.c (vi seq), .c (.sl []), .c (.sl (levels.map encL)), .c (.sl [])]] [] (rb (treeOk ⟨seq, [], levels, []⟩)) [] := hT
 generalize treeOk ⟨seq, [], levels, []⟩ = b at hT hfin
 rw [hfin b rfl]
 clear hfin
 by_cases h1 : log.size ≤ 12000
 ·by_cases h2 : 0 ≤ safe
  ·by_cases h3 : safe ≤ log.size
   ·have hres : rb (decide (log.size ≤ 12000) && (decide (0 ≤ safe) && (decide (safe ≤ log.size) && b))) = rb b := by rw [decide_eq_true h1, decide_eq_true h2, decide_eq_true h3]; rfl
    rw [hres]
    clear hres
    refine AFn.introX (E := En 0 md0) (en_ok 0 _) Tryz.func54 rfl rfl rfl fun _ _ => ?_
    refine Split.mk fun t h1 => ?_
    cases t
    case false => (exfalso; simp at h1 <;> omega)
    rw [decide_eq_true_iff] at h1
    refine Split.mk fun t h2 => ?_
    cases t
    case false => (exfalso; rw [decide_eq_false_iff_not] at h2; exact absurd ‹_› h2)
    rw [decide_eq_true_iff] at h2
    refine Split.mk fun t h3 => ?_
    cases t
    case false => (exfalso; rw [decide_eq_false_iff_not] at h3; exact absurd ‹_› h3)
    rw [decide_eq_true_iff] at h3
    refine ACall.mk _ _ hT ?_
    refine Split.mk fun t h4 => ?_
    cases t
    ·skip
     exact Need.mk ⟨[], _, .same, congrArg rb h4.symm, rfl⟩ trivial
    ·skip
     exact Need.mk ⟨[], _, .same, congrArg rb h4.symm, rfl⟩ trivial
   ·have hres : rb (decide (log.size ≤ 12000) && (decide (0 ≤ safe) && (decide (safe ≤ log.size) && b))) = rb false := by rw [decide_eq_false h3]; simp
    rw [hres]
    clear hres
    refine AFn.introX (E := En 0 md0) (en_ok 0 _) Tryz.func54 rfl rfl rfl fun _ _ => ?_
    refine Split.mk fun t h1 => ?_
    cases t
    case false => (exfalso; simp at h1 <;> omega)
    rw [decide_eq_true_iff] at h1
    refine Split.mk fun t h2 => ?_
    cases t
    case false => (exfalso; rw [decide_eq_false_iff_not] at h2; exact absurd ‹_› h2)
    rw [decide_eq_true_iff] at h2
    refine Split.mk fun t h3 => ?_
    cases t
    case true => (exfalso; rw [decide_eq_true_iff] at h3; exact absurd h3 ‹_›)
    rw [decide_eq_false_iff_not] at h3
    exact Need.mk ⟨[], _, .same, rfl, rfl⟩ trivial
  ·have hres : rb (decide (log.size ≤ 12000) && (decide (0 ≤ safe) && (decide (safe ≤ log.size) && b))) = rb false := by rw [decide_eq_false h2]; simp
   rw [hres]
   clear hres
   refine AFn.introX (E := En 0 md0) (en_ok 0 _) Tryz.func54 rfl rfl rfl fun _ _ => ?_
   refine Split.mk fun t h1 => ?_
   cases t
   case false => (exfalso; simp at h1 <;> omega)
   rw [decide_eq_true_iff] at h1
   refine Split.mk fun t h2 => ?_
   cases t
   case true => (exfalso; rw [decide_eq_true_iff] at h2; exact absurd h2 ‹_›)
   rw [decide_eq_false_iff_not] at h2
   exact Need.mk ⟨[], _, .same, rfl, rfl⟩ trivial
 ·have hres : rb (decide (log.size ≤ 12000) && (decide (0 ≤ safe) && (decide (safe ≤ log.size) && b))) = rb false := by rw [decide_eq_false h1]; simp
  rw [hres]
  clear hres
  refine AFn.introX (E := En 0 md0) (en_ok 0 _) Tryz.func54 rfl rfl rfl fun _ _ => ?_
  refine Split.mk fun t h1 => ?_
  cases t
  case true => (exfalso; simp at h1 <;> omega)
  rw [decide_eq_false_iff_not] at h1
  exact Need.mk ⟨[], _, .same, rfl, rfl⟩ trivial
theorem impl_opened (s : Sto) (hs : s.disk.log.size ≤ 1048576) (hF : AFn Tryz.prog 57 [.one (.c (.sl ((batD s.disk).map encX))), av (.int .i64 s.disk.seq)] [] (.tup [.one (.us 83 ((freshD (batD s.disk) s.disk.seq).1.map Ent.enc)), .one (vi (freshD (batD s.disk) s.disk.seq).2)]) []) : AFn Tryz.prog 50 [.agg (s.enc.map .c)] [] (.agg [vb true, vi (openD s).tree.seq, .us 83 ((openD s).tree.mem.map Ent.enc), .sl (s.disk.levels.map encL), .us 3 [], vs (openD s).disk.log, vi (openD s).disk.safe, .sl (s.disk.levels.map encL), vi s.disk.seq]) [] := by
 obtain ⟨up, ⟨tseq, mem, lv, snaps⟩, ⟨log, safe, dlv, dseq⟩⟩ := s
 simp only at hs hF
 have hex : ∃ x, readD (tb log) = x := ⟨_, rfl⟩
 obtain ⟨⟨R, r⟩, hR⟩ := hex
 have hRd := impl_FrameRead log hs R r hR
 have hbR : batD ⟨log, safe, dlv, dseq⟩ = R := congrArg Prod.fst hR
 have hok := (readD_ents hR).2.2.2
 have hRn := (readD_ents hR).2.1
 rw [tb_len] at hRn
 have hlog : (logT R).length ≤ 1048576 := by
  have := batD_log ⟨log, safe, dlv, dseq⟩
  rw [hbR] at this
  exact Nat.le_trans this hs
 rw [hbR] at hF
 have hround : ∀ (i : Nat) (l : Bs), i < R.length → l = logT (leftL (R.take i) dseq) → ∃ (b : List Ent) (e : Ent) (t : ByteArray) (l2 : Bs), (R.map encX)[i]? = some [.sl (b.map Ent.enc)] ∧ (b.map Ent.enc).length = b.length ∧ 1 ≤ b.length ∧
   (b.map Ent.enc)[b.length - 1]? = some e.enc ∧ IntKind.i64.wrap (((b.map Ent.enc).length : Int) - 1) = ((b.length - 1 : Nat) : Int) ∧
   AFn Tryz.prog 88 [.one (.c (.sl (b.map Ent.enc)))] [] (.one (vs t)) [] ∧
   AFnK Tryz.prog 87 [.bx 0 0, av (.string t)] [[.me 101, .us 5 (strU l)]] [0] (.tup [.one (vi t.size), .one (.v .nilIface)]) [[.me 101, .us 5 (strU l2)]] ∧
   ((e.seq > dseq ∧ l2 = logT (leftL (R.take (i + 1)) dseq)) ∨ (¬ e.seq > dseq ∧ l = logT (leftL (R.take (i + 1)) dseq))) := by
  intro i l hi hl
  have hb := batOk_p (hok _ (List.getElem_mem hi))
  have hm : ((R[i]'hi).map Ent.enc).length = (R[i]'hi).length := List.length_map ..
  have hlg := lastS_get (b := R[i]'hi) (by omega)
  have hOk : OkE (R[i]'hi) := fun e he => by
   have hp := entOk_p (hb.2.2.1 e he)
   have hk := (keyOk_no32 hp.1).2
   rw [tb_len] at hk
   have hm : 60 ≤ maxLen := by decide
   exact ⟨by omega, by omega⟩
  have hll : l.length ≤ 1048576 := by rw [hl]; exact Nat.le_trans (leftT_len R dseq i) hlog
  have hfl := frameT_le (R[i]'hi)
  have hW := Builder_WriteString l (bt (frameT (R[i]'hi))) (by rw [bt_size]; omega)
  rw [tb_bt] at hW
  refine ⟨R[i]'hi, (R[i]'hi)[(R[i]'hi).length - 1]'(by omega), bt (frameT (R[i]'hi)), _, map_get encX R i hi, hm, hb.1, map_get _ _ _ _, ?_, impl_FrameText _ hOk (by omega), hW, ?_⟩
  ·rw [hm, wrapI (by omega) (by omega)]; omega
  ·rw [← hlg]
   by_cases hc : dseq < lastS (R[i]'hi)
   ·refine .inl ⟨hc, ?_⟩
    rw [leftT_step hi, if_pos hc, hl]
   ·refine .inr ⟨hc, ?_⟩
    rw [leftT_step hi, if_neg hc, List.append_nil, hl]
 have hnl : (R.map encX).length = R.length := List.length_map ..
 have hop : openD ⟨up, ⟨tseq, mem, lv, snaps⟩, ⟨log, safe, dlv, dseq⟩⟩ = ⟨true, ⟨maxS dseq (freshE R dseq), isort eLess (freshE R dseq), dlv, []⟩, ⟨bt (logT (leftL R dseq)), ((logT (leftL R dseq)).length : Nat), dlv, dseq⟩⟩ := by unfold openD; rw [hbR]
 rw [hop]
 show AFn Tryz.prog 50 [.agg [.c (vb up), .c (vi tseq), .c (.sl (mem.map Ent.enc)), .c (.sl (lv.map encL)), .c (.sl (snaps.map encI)), .c (vs log), .c (vi safe), .c (.sl (dlv.map encL)), .c (vi dseq)]] [] (.agg [vb true, vi (maxS dseq (freshE R dseq)), .us 83 ((isort eLess (freshE R dseq)).map Ent.enc), .sl (dlv.map encL), .us 3 [], vs (bt (logT (leftL R dseq))), vi ((logT (leftL R dseq)).length : Nat), .sl (dlv.map encL), vi dseq]) []
 have hF : AFn Tryz.prog 57 [.one (.c (.sl (R.map encX))), av (.int .i64 dseq)] [] (.tup [.one (.us 83 ((isort eLess (freshE R dseq)).map Ent.enc)), .one (vi (maxS dseq (freshE R dseq)))]) [] := hF
 have hll : (logT (leftL R dseq)).length ≤ 140737488355328 := by have := logT_left_len R dseq; omega
 have hSt := Builder_String (logT (leftL R dseq))
 have hLn := Builder_LenF (logT (leftL R dseq)) hll
 refine AFn.introX (E := En 0 md0 (fz := [3]) (me := some 101)) (en_ok 0 md0 [] [] [3] [] [] (some 101)) Tryz.func50 rfl rfl rfl fun _ _ => ?_
 refine ACall.mk _ _ hRd ?_
 refine Fz.mk _ (frzX _) ?_
 let S : Nat → Bs → St := fun i l => ⟨none :: some (.bx 1 0) :: some (.bx 2 0) :: some (sl (List.map encX R)) :: none :: some (.bx 5 0) :: none :: none :: none :: none :: none :: none :: none :: none :: none :: none :: none :: none :: some (sl (List.map encX R)) :: some (av (.int .i64 (↑(List.map encX R).length))) :: some (av (.int .i64 (i : Nat))) :: List.replicate 43 none, absent :: ⟨0, 0, some [vb up, vi tseq, .sl (List.map Ent.enc mem), .sl (List.map encL lv), .sl (List.map encI snaps), vs log, vi safe, .sl (List.map encL dlv), vi dseq]⟩ :: ⟨0, 0, some [vb false, vi 0, .us 83 [], .us 110 [], .us 3 [], vs ({ data := #[] }), vi 0, .us 110 [], vi 0]⟩ :: absent :: absent :: ⟨0, 0, some [C.me 101, .us 5 (strU l)]⟩ :: List.replicate 58 absent⟩
 refine ALoop.mk (fun m s => ∃ (i : Nat) (l : Bs), (i ≤ R.length ∧ m = R.length - i) ∧ l = logT (leftL (R.take i) dseq) ∧ s = S i l)
  ⟨_, _, Weak.nrm [false, true, true, true, false, true, false, false, false, false, false, false, false, false, false, false, false, false, true, true, true] [(1, 1), (2, 2), (5, 5)] rfl rfl rfl, 0, [], ⟨Nat.zero_le _, rfl⟩, rfl, rfl⟩ ?_
 rintro m s ⟨i, l, ⟨hi, rfl⟩, hl, hs⟩
 by_cases hi2 : i < R.length
 ·refine Exists.elim (hround i l hi2 hl) fun b hx => ?_
  refine Exists.elim hx fun e hx => ?_
  refine Exists.elim hx fun t hx => ?_
  refine Exists.elim hx fun l2 hx => ?_
  have hr := hx.1
  have hbl := hx.2.1
  have hb1 := hx.2.2.1
  have hr2 := hx.2.2.2.1
  have hw := hx.2.2.2.2.1
  have hFT := hx.2.2.2.2.2.1
  have hW := hx.2.2.2.2.2.2.1
  have hT := hx.2.2.2.2.2.2.2
  clear hx hround hl hF hSt hLn hop
  refine Or.elim hT (fun hq => ?_) fun hq => ?_
  ·have hc2 := hq.1
   have hq2 := hq.2
   clear hT hq
   subst hs
   refine spT (by omega) fun h1 => ?_
   refine nd ?_
   refine Row.mk _ hr ?_
   refine Num.mk _ hw ?_
   refine nd ?_
   refine Row.mk _ hr2 ?_
   refine spT (by omega) fun h2 => ?_
   refine Need.mk (rfl) ?_
   refine ACall.mk _ _ hFT ?_
   refine ACall.mk _ _ hW ?_
   refine Num.mk _ (wrapS (by omega)) ?_
   exact ⟨R.length - (i + 1), _, by omega, Weak.nrm [false, true, true, true, false, true, false, false, false, false, false, false, false, false, false, false, false, false, true, true, true] [(1, 1), (2, 2), (5, 5)] rfl rfl rfl, i + 1, l2, ⟨by omega, rfl⟩, hq2, rfl⟩
  ·have hc2 := hq.1
   have hq2 := hq.2
   clear hT hq
   subst hs
   refine spT (by omega) fun h1 => ?_
   refine nd ?_
   refine Row.mk _ hr ?_
   refine Num.mk _ hw ?_
   refine nd ?_
   refine Row.mk _ hr2 ?_
   refine spF (by omega) fun h2 => ?_
   refine Need.mk (rfl) ?_
   refine Num.mk _ (wrapS (by omega)) ?_
   exact ⟨R.length - (i + 1), _, by omega, Weak.nrm [false, true, true, true, false, true, false, false, false, false, false, false, false, false, false, false, false, false, true, true, true] [(1, 1), (2, 2), (5, 5)] rfl rfl rfl, i + 1, l, ⟨by omega, rfl⟩, hq2, rfl⟩
 ·have hib : i = R.length := by omega
  subst hib
  rw [List.take_length] at hl
  clear hround hop
  rw [← hl] at hSt hLn hll
  rw [← hl]
  subst hs
  refine spF (by omega) fun h1 => ?_
  refine ACall.mk _ _ hF ?_
  refine ACall.mk _ _ hSt ?_
  refine ACall.mk _ _ hLn ?_
  exact Need.mk ⟨[], _, .same, rfl, rfl⟩ trivial
def encO (r : Rn) : List C := [.us 83 (r.ents.map Ent.enc), vi r.mask]
def encLO (l : List Rn) : List C := [.us 113 (l.map encO)]
theorem clO (xs : List Rn) : ∀ r ∈ xs.map encO, ClL r := cl_map (f := encO) (fun l => .us (clE l.ents) (.v .nil)) xs
theorem clLO (xs : List (List Rn)) : ∀ r ∈ xs.map encLO, ClL r := cl_map (f := encLO) (fun l => .us (clO l) .nil) xs
def encTO (t : Tre) : List C := [vi t.seq, .us 83 (t.mem.map Ent.enc), .us 110 (t.levels.map encLO), .us 3 (t.snaps.map encI)]
theorem frzR (xs : List Rn) : Frz (.us 113 (xs.map encO)) (.sl (xs.map Rn.enc)) := frz_map fun r _ => .cons (frzE r.ents) (.cons .v .nil)
theorem frzRR (xs : List (List Rn)) : Frz (.us 110 (xs.map encLO)) (.sl (xs.map encL)) := frz_map fun r _ => .cons (frzR r) .nil
theorem impl_runCopy (r : Rn) (hl : r.ents.length ≤ 1048576) : AFn Tryz.prog 170 [.agg (r.enc.map .c)] [] (.agg (encO r)) [] := by
 refine AFn.introX (E := En 0 md0) (en_ok 0 _) Tryz.func170 rfl rfl rfl fun _ _ => ?_
 refine Need.mk (⟨(plainE _), (lenE _)⟩) ?_
 refine apq (A' := []) (B' := _) rfl rfl ?_
 refine Need.mk (rfl) ?_
 exact Need.mk ⟨[], _, .same, rfl, rfl⟩ trivial
theorem impl_levelsCopy (L : List (List Rn)) (hL : L.length ≤ 1048576) (hl : ∀ l ∈ L, l.length ≤ 1048576 ∧ ∀ r ∈ l, r.ents.length ≤ 1048576) : AFn Tryz.prog 126 [sl (L.map encL)] [] (.one (.us 110 (L.map encLO))) [] := by
 have hn : (L.map encL).length = L.length := List.length_map ..
 refine AFn.introX (E := En 0 md0) (en_ok 0 _) Tryz.func126 rfl rfl rfl fun _ _ => ?_
 have hpos : 0 < Tryz.prog.cellsOf 110 := pos_of tab_ok (t := 110) rfl
 have hpos2 : 0 < Tryz.prog.cellsOf 113 := pos_of tab_ok (t := 113) rfl
 let S : List (List C) → Nat → St := fun R i => ⟨none :: none :: none :: some (.one (.ref 3 0 (.cell 0))) :: none :: none :: none :: none :: none :: some (sl (L.map encL)) :: some (av (.int .i64 (L.map encL).length)) :: some (av (.int .i64 i)) :: List.replicate 21 none, absent :: absent :: absent :: ⟨0, 1, some [.us 110 R]⟩ :: List.replicate 29 absent⟩
 refine ALoop.mk (fun m s => ∃ i : Nat, i ≤ L.length ∧ m = L.length - i ∧ s = S ((L.take i).map encLO) i)
  ⟨_, _, Weak.trans (Weak.nrm [false, false, false, true, false, false, false, false, false, true, true, true] [] rfl rfl rfl) (Weak.nilOwn 3 3 110 rfl rfl hpos), 0, Nat.zero_le _, rfl, rfl⟩ ?_
 rintro m s ⟨i, hi, rfl, hs⟩
 by_cases hin : i = L.length
 ·rw [hin, List.take_length] at hs
  subst hs
  refine spF (by omega) fun h1 => ?_
  exact Need.mk ⟨[], _, .same, rfl, rfl⟩ trivial
 ·have hia : i < L.length := by omega
  have hx := hl _ (List.getElem_mem hia)
  have hex := exq (L[i])
  obtain ⟨xs, hxs⟩ := hex
  have hrow : (L.map encL)[i]? = some (encL xs) := by rw [map_get _ L i hia, hxs]
  have hsn : (L.take (i + 1)).map encLO = (L.take i).map encLO ++ [encLO xs] := by rw [List.take_succ_eq_append_getElem hia, List.map_append, hxs]; rfl
  rw [hxs] at hx
  have hxn : (xs.map Rn.enc).length = xs.length := List.length_map ..
  have hRl : ((L.take i).map encLO).length ≤ 1048576 := by rw [List.length_map, List.length_take]; omega
  have hex := exq ((L.take i).map encLO)
  obtain ⟨R, hR⟩ := hex
  rw [hR] at hs hsn hRl
  subst hs
  refine spT (by omega) fun h1 => ?_
  refine nd ?_
  refine Row.mk _ hrow ?_
  let S1 : List (List C) → Nat → St := fun Z q => ⟨none :: none :: none :: some (.one (.ref 3 0 (.cell 0))) :: none :: none :: some (.one (.ref 6 0 (.cell 0))) :: none :: none :: some (sl (L.map encL)) :: some (av (.int .i64 (L.map encL).length)) :: some (av (.int .i64 i)) :: none :: none :: none :: some (sl (xs.map Rn.enc)) :: some (av (.int .i64 (xs.map Rn.enc).length)) :: some (av (.int .i64 q)) :: List.replicate 15 none, absent :: absent :: absent :: ⟨0, 1, some [.us 110 R]⟩ :: absent :: absent :: ⟨0, 1, some [.us 113 Z]⟩ :: List.replicate 26 absent⟩
  refine ALoop.mk (fun m s => ∃ q : Nat, q ≤ xs.length ∧ m = xs.length - q ∧ s = S1 ((xs.take q).map encO) q)
   ⟨_, _, Weak.trans (Weak.nrm [false, false, false, true, false, false, true, false, false, true, true, true, false, false, false, true, true, true] [(3, 3)] rfl rfl rfl) (Weak.nilOwn 6 6 113 rfl rfl hpos2), 0, Nat.zero_le _, rfl, rfl⟩ ?_
  rintro m s ⟨q, hq, hm2, hs⟩
  by_cases hqn : q = xs.length
  ·rw [hqn, List.take_length] at hs
   subst hs
   refine spF (by omega) fun h1 => ?_
   refine apq (A' := _) (B' := [[.us 113 (List.map encO xs)]]) rfl rfl ?_
   refine Num.mk _ (wrapS (by omega)) ?_
   exact ⟨_, _, by omega, Weak.nrm [false, false, false, true, false, false, false, false, false, true, true, true] [(30, 3)] rfl rfl rfl, i + 1, by omega, rfl, Eq.trans (b := S (R ++ [encLO xs]) (i + 1)) rfl (by rw [hsn])⟩
  ·have hqa : q < xs.length := by omega
   have hrc := impl_runCopy xs[q] (hx.2 _ (List.getElem_mem hqa))
   have hsn2 : (xs.take (q + 1)).map encO = (xs.take q).map encO ++ [encO xs[q]] := by rw [List.take_succ_eq_append_getElem hqa, List.map_append]; rfl
   have hZl : ((xs.take q).map encO).length ≤ 1048576 := by rw [List.length_map, List.length_take]; omega
   have hex := exq ((xs.take q).map encO)
   obtain ⟨Z, hZ⟩ := hex
   rw [hZ] at hs hsn2 hZl
   subst hs
   refine spT (by omega) fun h1 => ?_
   refine nd ?_
   refine Row.mk _ (map_get _ xs q (by omega)) ?_
   refine ACall.mk _ _ hrc ?_
   refine apq (A' := _) (B' := [[.us 83 (List.map Ent.enc xs[q].ents), vi xs[q].mask]]) rfl rfl ?_
   refine Num.mk _ (wrapS (by omega)) ?_
   exact ⟨_, _, by omega, Weak.nrm [false, false, false, true, false, false, true, false, false, true, true, true, false, false, false, true, true, true] [(3, 3), (25, 6)] rfl rfl rfl, q + 1, by omega, rfl, Eq.trans (b := S1 (Z ++ [encO xs[q]]) (q + 1)) rfl (by rw [hsn2])⟩
theorem spec_l5CopyLevels (L : List (List Rn)) (hL : L.length ≤ 1048576) (hl : ∀ l ∈ L, l.length ≤ 1048576 ∧ ∀ r ∈ l, r.ents.length ≤ 1048576) : AFn Tryz.prog 70 [sl (L.map encL)] [] (.one (.us 110 (L.map encLO))) [] := by
 have hn : (L.map encL).length = L.length := List.length_map ..
 refine AFn.introX (E := En 0 md0) (en_ok 0 _) Tryz.func70 rfl rfl rfl fun _ _ => ?_
 let S : List (List C) → Nat → St := fun R i => ⟨some (sl (L.map encL)) :: none :: none :: some (.one (.ref 3 0 (.cell 0))) :: some (av (.int .i64 i)) :: List.replicate 46 none, absent :: absent :: absent :: ⟨0, 1, some [.us 110 R]⟩ :: List.replicate 47 absent⟩
 refine ALoop.mk (fun m s => ∃ i : Nat, i ≤ L.length ∧ m = L.length - i ∧ s = S ((L.take i).map encLO) i)
  ⟨_, _, Weak.trans (Weak.nrm [true, false, false, true, true] [(7, 3)] rfl rfl rfl) Weak.one, 0, Nat.zero_le _, rfl, rfl⟩ ?_
 rintro m s ⟨i, hi, rfl, hs⟩
 by_cases hin : i = L.length
 ·rw [hin, List.take_length] at hs
  subst hs
  refine spF (by omega) fun h1 => ?_
  exact Need.mk ⟨[], _, .same, rfl, rfl⟩ trivial
 ·have hia : i < L.length := by omega
  have hx := hl _ (List.getElem_mem hia)
  have hex := exq (L[i])
  obtain ⟨xs, hxs⟩ := hex
  have hrow : (L.map encL)[i]? = some (encL xs) := by rw [map_get _ L i hia, hxs]
  have hsn : (L.take (i + 1)).map encLO = (L.take i).map encLO ++ [encLO xs] := by rw [List.take_succ_eq_append_getElem hia, List.map_append, hxs]; rfl
  rw [hxs] at hx
  have hxn : (xs.map Rn.enc).length = xs.length := List.length_map ..
  have hRl : ((L.take i).map encLO).length ≤ 1048576 := by rw [List.length_map, List.length_take]; omega
  have hex := exq ((L.take i).map encLO)
  obtain ⟨R, hR⟩ := hex
  rw [hR] at hs hsn hRl
  subst hs
  refine spT (by omega) fun h1 => ?_
  let S1 : List (List C) → Nat → St := fun Z q => ⟨some (sl (L.map encL)) :: none :: none :: some (.one (.ref 3 0 (.cell 0))) :: some (av (.int .i64 i)) :: some (.one (.ref 5 0 (.cell 0))) :: some (av (.int .i64 q)) :: List.replicate 44 none, absent :: absent :: absent :: ⟨0, 1, some [.us 110 R]⟩ :: absent :: ⟨0, 1, some [.us 113 Z]⟩ :: List.replicate 45 absent⟩
  refine ALoop.mk (fun m s => ∃ q : Nat, q ≤ xs.length ∧ m = xs.length - q ∧ s = S1 ((xs.take q).map encO) q)
   ⟨_, _, Weak.trans (Weak.nrm [true, false, false, true, true, true, true] [(3, 3), (14, 5)] rfl rfl rfl) Weak.one, 0, Nat.zero_le _, rfl, rfl⟩ ?_
  rintro m s ⟨q, hq, hm2, hs⟩
  by_cases hqn : q = xs.length
  ·rw [hqn, List.take_length] at hs
   subst hs
   refine nd ?_
   refine Row.mk _ hrow ?_
   refine spF (by omega) fun h1 => ?_
   refine apq (A' := _) (B' := [[.us 113 (List.map encO xs)]]) rfl rfl ?_
   refine Num.mk _ (wrapS (by omega)) ?_
   exact ⟨_, _, by omega, Weak.nrm [true, false, false, true, true] [(49, 3)] rfl rfl rfl, i + 1, by omega, rfl, Eq.trans (b := S (R ++ [encLO xs]) (i + 1)) rfl (by rw [hsn])⟩
  ·have hqa : q < xs.length := by omega
   have hel := hx.2 _ (List.getElem_mem hqa)
   have hsn2 : (xs.take (q + 1)).map encO = (xs.take q).map encO ++ [encO xs[q]] := by rw [List.take_succ_eq_append_getElem hqa, List.map_append]; rfl
   have hZl : ((xs.take q).map encO).length ≤ 1048576 := by rw [List.length_map, List.length_take]; omega
   have hex := exq ((xs.take q).map encO)
   obtain ⟨Z, hZ⟩ := hex
   rw [hZ] at hs hsn2 hZl
   subst hs
   refine nd ?_
   refine Row.mk _ hrow ?_
   refine spT (by omega) fun h1 => ?_
   refine nd ?_
   refine Row.mk _ hrow ?_
   refine nd ?_
   refine Row.mk _ (map_get _ xs q (by omega)) ?_
   refine Need.mk (⟨(plainE _), (lenE _)⟩) ?_
   refine apq (A' := []) (B' := _) rfl rfl ?_
   refine nd ?_
   refine Row.mk _ hrow ?_
   refine nd ?_
   refine Row.mk _ (map_get _ xs q (by omega)) ?_
   refine apq (A' := _) (B' := [[.us 83 ([] ++ (List.map Ent.enc xs[q].ents)), vi xs[q].mask]]) rfl rfl ?_
   refine Need.mk (rfl) ?_
   refine Num.mk _ (wrapS (by omega)) ?_
   exact ⟨_, _, by omega, Weak.nrm [true, false, false, true, true, true, true] [(3, 3), (45, 5)] rfl rfl rfl, q + 1, by omega, rfl, Eq.trans (b := S1 (Z ++ [encO xs[q]]) (q + 1)) rfl (by rw [hsn2])⟩
theorem spec_TreeOk (t : Tre) (ht : t.Ok) (hsn : t.snaps.length ≤ 1099511627776) (hz : ∀ l ∈ t.levels, ∀ r ∈ l, r.ents.length ≤ 1099511627776) : AFn Tryz.prog 59 [.agg (t.enc.map .c)] [] (rb (treeOk t)) [] := by
 have hmn : (t.mem.map Ent.enc).length = t.mem.length := List.length_map ..
 have hln : (t.levels.map encL).length = t.levels.length := List.length_map ..
 have hT := @treeOk_first t
 have hS := spec_l5Snaps t hsn
 by_cases a1 : 0 ≤ t.seq
 ·by_cases a2 : t.seq ≤ 100000
  ·by_cases a3 : t.mem.length ≤ 60
   ·have hO := spec_l4Right t.mem ht.1 (by omega)
    have hW := spec_l5Within t.mem t.seq (by omega)
    by_cases a4 : ordOk t.mem = true
    ·skip
     rw [a4] at hO
     by_cases a5 : withinB t.mem t.seq = true
     ·skip
      rw [a5] at hW
      by_cases hl3 : t.levels.length = 3
      ·obtain ⟨l0, l1, l2, hlev⟩ := three_of hl3
       have hm0 : l0 ∈ t.levels := by rw [hlev]; simp
       have hm1 : l1 ∈ t.levels := by rw [hlev]; simp
       have hm2 : l2 ∈ t.levels := by rw [hlev]; simp
       have hR0 := spec_l5Runs l0 4 false t.seq (ht.2 _ hm0) (hz _ hm0) (by omega)
       have hR1 := spec_l5Runs l1 8 true t.seq (ht.2 _ hm1) (hz _ hm1) (by omega)
       have hR2 := spec_l5Runs l2 8 true t.seq (ht.2 _ hm2) (hz _ hm2) (by omega)
       have hr0 : (t.levels.map encL)[0]? = some (encL l0) := by rw [hlev]; rfl
       have hr1 : (t.levels.map encL)[1]? = some (encL l1) := by rw [hlev]; rfl
       have hr2 : (t.levels.map encL)[2]? = some (encL l2) := by rw [hlev]; rfl
       by_cases a6 : snapsB t.snaps t.seq = true
       ·skip
        rw [a6] at hS
        by_cases a7 : levW l0 4 false t.seq = true
        ·skip
         rw [a7] at hR0
         by_cases a8 : levW l1 8 true t.seq = true
         ·skip
          rw [a8] at hR1
          by_cases a9 : levW l2 8 true t.seq = true
          ·skip
           rw [a9] at hR2
           have k0 := levB_ok (Bool.and_eq_true_iff.1 a7).1
           have k1 := levB_ok (Bool.and_eq_true_iff.1 a8).1
           have k2 := levB_ok (Bool.and_eq_true_iff.1 a9).1
           have hA := spec_l5Aged t.seq t.mem l0 l1 l2 t.snaps (by omega) (by omega) (by omega) (by omega) (fun r hr => by have := runOk_len (k0.2 r hr); omega) (fun r hr => by have := runOk_len (k1.2 r hr); omega) (fun r hr => by have := runOk_len (k2.2 r hr); omega)
           have htt : (Tre.mk t.seq t.mem [l0, l1, l2] t.snaps) = t := by rw [← hlev]
           rw [htt] at hA
           by_cases a10 : agedB (parts3 l0 l1 l2 t.mem) = true
           ·skip
            rw [a10] at hA
            have hres : treeOk t = true := (treeS_iff hlev).2 ⟨a1, a2, a3, a4, a5, a6, a7, a8, a9, a10⟩
            refine AFn.introX (E := En 0 md0) (en_ok 0 _ _ _ _ _) Tryz.func59 rfl rfl rfl fun _ _ => ?_
            refine spF (by omega) fun h1 => ?_
            refine spF (by omega) fun h2 => ?_
            refine spF (by omega) fun h3 => ?_
            refine ACall.mk _ _ hO ?_
            refine sp1 ?_
            refine ACall.mk _ _ hW ?_
            refine sp1 ?_
            refine Split.mk fun t h6 => ?_
            cases t
            case true => (exfalso; rw [bne_iff_ne] at h6; omega)
            rw [bne_eq_false_iff_eq] at h6
            refine ACall.mk _ _ hS ?_
            refine sp1 ?_
            refine nd ?_
            refine Row.mk _ hr0 ?_
            refine ACall.mk _ _ hR0 ?_
            refine sp1 ?_
            refine nd ?_
            refine Row.mk _ hr1 ?_
            refine ACall.mk _ _ hR1 ?_
            refine sp1 ?_
            refine nd ?_
            refine Row.mk _ hr2 ?_
            refine ACall.mk _ _ hR2 ?_
            refine sp1 ?_
            refine ACall.mk _ _ hA ?_
            refine sp1 ?_
            refine Need.mk (rfl) ?_
            exact Need.mk ⟨[], _, .same, congrArg rb hres.symm, rfl⟩ trivial
           ·skip
            have hres : treeOk t = false := Bool.eq_false_iff.2 fun h => a10 ((treeS_iff hlev).1 h).2.2.2.2.2.2.2.2.2
            rw [Bool.not_eq_true] at a10
            rw [a10] at hA
            refine AFn.introX (E := En 0 md0) (en_ok 0 _ _ _ _ _) Tryz.func59 rfl rfl rfl fun _ _ => ?_
            refine spF (by omega) fun h1 => ?_
            refine spF (by omega) fun h2 => ?_
            refine spF (by omega) fun h3 => ?_
            refine ACall.mk _ _ hO ?_
            refine sp1 ?_
            refine ACall.mk _ _ hW ?_
            refine sp1 ?_
            refine Split.mk fun t h6 => ?_
            cases t
            case true => (exfalso; rw [bne_iff_ne] at h6; omega)
            rw [bne_eq_false_iff_eq] at h6
            refine ACall.mk _ _ hS ?_
            refine sp1 ?_
            refine nd ?_
            refine Row.mk _ hr0 ?_
            refine ACall.mk _ _ hR0 ?_
            refine sp1 ?_
            refine nd ?_
            refine Row.mk _ hr1 ?_
            refine ACall.mk _ _ hR1 ?_
            refine sp1 ?_
            refine nd ?_
            refine Row.mk _ hr2 ?_
            refine ACall.mk _ _ hR2 ?_
            refine sp1 ?_
            refine ACall.mk _ _ hA ?_
            refine sp0 ?_
            refine Need.mk (rfl) ?_
            exact Need.mk ⟨[], _, .same, congrArg rb hres.symm, rfl⟩ trivial
          ·skip
           have hres : treeOk t = false := Bool.eq_false_iff.2 fun h => a9 ((treeS_iff hlev).1 h).2.2.2.2.2.2.2.2.1
           rw [Bool.not_eq_true] at a9
           rw [a9] at hR2
           refine AFn.introX (E := En 0 md0) (en_ok 0 _ _ _ _ _) Tryz.func59 rfl rfl rfl fun _ _ => ?_
           refine spF (by omega) fun h1 => ?_
           refine spF (by omega) fun h2 => ?_
           refine spF (by omega) fun h3 => ?_
           refine ACall.mk _ _ hO ?_
           refine sp1 ?_
           refine ACall.mk _ _ hW ?_
           refine sp1 ?_
           refine Split.mk fun t h6 => ?_
           cases t
           case true => (exfalso; rw [bne_iff_ne] at h6; omega)
           rw [bne_eq_false_iff_eq] at h6
           refine ACall.mk _ _ hS ?_
           refine sp1 ?_
           refine nd ?_
           refine Row.mk _ hr0 ?_
           refine ACall.mk _ _ hR0 ?_
           refine sp1 ?_
           refine nd ?_
           refine Row.mk _ hr1 ?_
           refine ACall.mk _ _ hR1 ?_
           refine sp1 ?_
           refine nd ?_
           refine Row.mk _ hr2 ?_
           refine ACall.mk _ _ hR2 ?_
           refine sp0 ?_
           refine Need.mk (rfl) ?_
           exact Need.mk ⟨[], _, .same, congrArg rb hres.symm, rfl⟩ trivial
         ·skip
          have hres : treeOk t = false := Bool.eq_false_iff.2 fun h => a8 ((treeS_iff hlev).1 h).2.2.2.2.2.2.2.1
          rw [Bool.not_eq_true] at a8
          rw [a8] at hR1
          refine AFn.introX (E := En 0 md0) (en_ok 0 _ _ _ _ _) Tryz.func59 rfl rfl rfl fun _ _ => ?_
          refine spF (by omega) fun h1 => ?_
          refine spF (by omega) fun h2 => ?_
          refine spF (by omega) fun h3 => ?_
          refine ACall.mk _ _ hO ?_
          refine sp1 ?_
          refine ACall.mk _ _ hW ?_
          refine sp1 ?_
          refine Split.mk fun t h6 => ?_
          cases t
          case true => (exfalso; rw [bne_iff_ne] at h6; omega)
          rw [bne_eq_false_iff_eq] at h6
          refine ACall.mk _ _ hS ?_
          refine sp1 ?_
          refine nd ?_
          refine Row.mk _ hr0 ?_
          refine ACall.mk _ _ hR0 ?_
          refine sp1 ?_
          refine nd ?_
          refine Row.mk _ hr1 ?_
          refine ACall.mk _ _ hR1 ?_
          refine sp0 ?_
          refine Need.mk (rfl) ?_
          exact Need.mk ⟨[], _, .same, congrArg rb hres.symm, rfl⟩ trivial
        ·skip
         have hres : treeOk t = false := Bool.eq_false_iff.2 fun h => a7 ((treeS_iff hlev).1 h).2.2.2.2.2.2.1
         rw [Bool.not_eq_true] at a7
         rw [a7] at hR0
         refine AFn.introX (E := En 0 md0) (en_ok 0 _ _ _ _ _) Tryz.func59 rfl rfl rfl fun _ _ => ?_
         refine spF (by omega) fun h1 => ?_
         refine spF (by omega) fun h2 => ?_
         refine spF (by omega) fun h3 => ?_
         refine ACall.mk _ _ hO ?_
         refine sp1 ?_
         refine ACall.mk _ _ hW ?_
         refine sp1 ?_
         refine Split.mk fun t h6 => ?_
         cases t
         case true => (exfalso; rw [bne_iff_ne] at h6; omega)
         rw [bne_eq_false_iff_eq] at h6
         refine ACall.mk _ _ hS ?_
         refine sp1 ?_
         refine nd ?_
         refine Row.mk _ hr0 ?_
         refine ACall.mk _ _ hR0 ?_
         refine sp0 ?_
         refine Need.mk (rfl) ?_
         exact Need.mk ⟨[], _, .same, congrArg rb hres.symm, rfl⟩ trivial
       ·skip
        have hres : treeOk t = false := Bool.eq_false_iff.2 fun h => a6 ((treeS_iff hlev).1 h).2.2.2.2.2.1
        rw [Bool.not_eq_true] at a6
        rw [a6] at hS
        refine AFn.introX (E := En 0 md0) (en_ok 0 _ _ _ _ _) Tryz.func59 rfl rfl rfl fun _ _ => ?_
        refine spF (by omega) fun h1 => ?_
        refine spF (by omega) fun h2 => ?_
        refine spF (by omega) fun h3 => ?_
        refine ACall.mk _ _ hO ?_
        refine sp1 ?_
        refine ACall.mk _ _ hW ?_
        refine sp1 ?_
        refine Split.mk fun t h6 => ?_
        cases t
        case true => (exfalso; rw [bne_iff_ne] at h6; omega)
        rw [bne_eq_false_iff_eq] at h6
        refine ACall.mk _ _ hS ?_
        refine sp0 ?_
        exact Need.mk ⟨[], _, .same, congrArg rb hres.symm, rfl⟩ trivial
      ·skip
       refine AFn.introX (E := En 0 md0) (en_ok 0 _ _ _ _ _) Tryz.func59 rfl rfl rfl fun _ _ => ?_
       refine spF (by omega) fun h1 => ?_
       refine spF (by omega) fun h2 => ?_
       refine spF (by omega) fun h3 => ?_
       refine ACall.mk _ _ hO ?_
       refine sp1 ?_
       refine ACall.mk _ _ hW ?_
       refine sp1 ?_
       refine Split.mk fun t h6 => ?_
       cases t
       case false => (exfalso; rw [bne_eq_false_iff_eq] at h6; omega)
       rw [bne_iff_ne] at h6
       exact Need.mk ⟨[], _, .same, congrArg rb (Bool.eq_false_iff.2 fun h => by have := hT h; omega).symm, rfl⟩ trivial
     ·skip
      have hres : treeOk t = false := Bool.eq_false_iff.2 fun h => by
       obtain ⟨_, _, _, hlev, _⟩ := treeOk_levels h
       exact a5 ((treeS_iff hlev).1 h).2.2.2.2.1
      rw [Bool.not_eq_true] at a5
      rw [a5] at hW
      refine AFn.introX (E := En 0 md0) (en_ok 0 _ _ _ _ _) Tryz.func59 rfl rfl rfl fun _ _ => ?_
      refine spF (by omega) fun h1 => ?_
      refine spF (by omega) fun h2 => ?_
      refine spF (by omega) fun h3 => ?_
      refine ACall.mk _ _ hO ?_
      refine sp1 ?_
      refine ACall.mk _ _ hW ?_
      refine sp0 ?_
      exact Need.mk ⟨[], _, .same, congrArg rb hres.symm, rfl⟩ trivial
    ·skip
     have hres : treeOk t = false := Bool.eq_false_iff.2 fun h => by
      obtain ⟨_, _, _, hlev, _⟩ := treeOk_levels h
      exact a4 ((treeS_iff hlev).1 h).2.2.2.1
     rw [Bool.not_eq_true] at a4
     rw [a4] at hO
     refine AFn.introX (E := En 0 md0) (en_ok 0 _ _ _ _ _) Tryz.func59 rfl rfl rfl fun _ _ => ?_
     refine spF (by omega) fun h1 => ?_
     refine spF (by omega) fun h2 => ?_
     refine spF (by omega) fun h3 => ?_
     refine ACall.mk _ _ hO ?_
     refine sp0 ?_
     exact Need.mk ⟨[], _, .same, congrArg rb hres.symm, rfl⟩ trivial
   ·skip
    refine AFn.introX (E := En 0 md0) (en_ok 0 _ _ _ _ _) Tryz.func59 rfl rfl rfl fun _ _ => ?_
    refine spF (by omega) fun h1 => ?_
    refine spF (by omega) fun h2 => ?_
    refine spT (by omega) fun h3 => ?_
    exact Need.mk ⟨[], _, .same, congrArg rb (Bool.eq_false_iff.2 fun h => by have := hT h; omega).symm, rfl⟩ trivial
  ·skip
   refine AFn.introX (E := En 0 md0) (en_ok 0 _ _ _ _ _) Tryz.func59 rfl rfl rfl fun _ _ => ?_
   refine spF (by omega) fun h1 => ?_
   refine spT (by omega) fun h2 => ?_
   exact Need.mk ⟨[], _, .same, congrArg rb (Bool.eq_false_iff.2 fun h => by have := hT h; omega).symm, rfl⟩ trivial
 ·skip
  refine AFn.introX (E := En 0 md0) (en_ok 0 _ _ _ _ _) Tryz.func59 rfl rfl rfl fun _ _ => ?_
  refine spT (by omega) fun h1 => ?_
  exact Need.mk ⟨[], _, .same, congrArg rb (Bool.eq_false_iff.2 fun h => by have := hT h; omega).symm, rfl⟩ trivial
end Go.Proofs.YtpcimdalgpfkaaaGreatDoor
