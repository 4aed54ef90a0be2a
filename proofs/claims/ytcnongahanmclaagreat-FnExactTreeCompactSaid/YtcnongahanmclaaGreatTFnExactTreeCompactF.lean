/-
  Contracts of functions, part 6.
-/
import Derived.Test.YtcnongahanmclaaGreatTFnExactTreeCompactE
set_option linter.unusedVariables false
set_option linter.unusedSimpArgs false
namespace Go.Proofs.YtcnongahanmclaaGreat
open Go Go.Proofs Ev
set_option maxRecDepth 100000
set_option maxHeartbeats 40000000
set_option linter.unusedSimpArgs false
set_option linter.unusedVariables false
theorem in_succ {xs : List Rn} {i : Nat} (h : i < xs.length) (lo hi : ByteArray) : inL (xs.take (i + 1)) lo hi = inL (xs.take i) lo hi ++ (if meetsB xs[i] lo hi = true then [xs[i]] else []) := by
 unfold inL; rw [List.take_succ_eq_append_getElem h, List.filter_append]; congr 1; cases hm : meetsB xs[i] lo hi <;> simp [hm]
theorem off_succ {xs : List Rn} {i : Nat} (h : i < xs.length) (lo hi : ByteArray) : offL (xs.take (i + 1)) lo hi = offL (xs.take i) lo hi ++ (if meetsB xs[i] lo hi = true then [] else [xs[i]]) := by
 unfold offL; rw [List.take_succ_eq_append_getElem h, List.filter_append]; congr 1; cases hm : meetsB xs[i] lo hi <;> simp [hm]
theorem order_succ {xs ys : List Rn} {i : Nat} (h : i < ys.length) : orderL xs (ys.take (i + 1)) = ins rLess (orderL xs (ys.take i)) ys[i] := by
 unfold orderL; rw [List.take_succ_eq_append_getElem h, List.foldl_append]; rfl
theorem order_mem : ∀ (xs ys : List Rn), ∀ r ∈ orderL xs ys, r ∈ xs ∨ r ∈ ys := by
 intro xs ys
 induction ys generalizing xs with
 | nil => exact fun r h => .inl h
 | cons y ys ih =>
  intro r h
  rcases ih (ins rLess xs y) r h with h | h
  ·rcases List.mem_cons.1 ((ins_perm rLess xs y).mem_iff.1 h) with rfl | h
   ·exact .inr (List.mem_cons_self ..)
   ·exact .inl h
  ·exact .inr (List.mem_cons_of_mem _ h)
theorem order_len : ∀ (xs ys : List Rn), (orderL xs ys).length = xs.length + ys.length := by
 intro xs ys
 induction ys generalizing xs with
 | nil => rfl
 | cons y ys ih => exact (ih (ins rLess xs y)).trans (by rw [ins_len, List.length_cons]; omega)
theorem spec_l5Meet (r : Rn) (low high : ByteArray) (h : 0 < r.ents.length) (hl : r.ents.length ≤ 1099511627776) : AFn Tryz.prog 214 [.agg (r.enc.map .c), av (.string low), av (.string high)] [] (rb (meetsB r low high)) [] := by
 have hL := spec_l5Low r h
 have hH := spec_l5High r h hl
 have hex := exq (lowK r)
 obtain ⟨a, ha⟩ := hex
 have hex := exq (highK r)
 obtain ⟨b, hb⟩ := hex
 unfold meetsB
 rw [ha] at hL
 rw [hb] at hH
 rw [ha, hb]
 by_cases h1 : slt high a = true
 ·have hres : (!slt high a && !slt b low) = false := by rw [h1]; rfl
  rw [hres]
  refine AFn.introX (E := En 0 md0) (en_ok 0 _) Tryz.func214 rfl rfl rfl fun _ _ => ?_
  refine ACall.mk _ _ hL ?_
  refine Split.mk fun t h1 => ?_
  cases t
  case true => (exfalso; rw [str_le, Bool.not_eq_true'] at h1; exact Bool.noConfusion (h1.symm.trans (‹_› : _ = true)))
  rw [str_le, Bool.not_eq_false'] at h1
  exact Need.mk ⟨[], _, .same, rfl, rfl⟩ trivial
 ·have h1' : slt high a = false := Bool.eq_false_iff.2 h1
  by_cases h2 : slt b low = true
  ·have hres : (!slt high a && !slt b low) = false := by rw [h1', h2]; rfl
   rw [hres]
   refine AFn.introX (E := En 0 md0) (en_ok 0 _) Tryz.func214 rfl rfl rfl fun _ _ => ?_
   refine ACall.mk _ _ hL ?_
   refine Split.mk fun t h1 => ?_
   cases t
   case false => (exfalso; rw [str_le, Bool.not_eq_false'] at h1; exact absurd h1 ‹_›)
   rw [str_le, Bool.not_eq_true'] at h1
   refine ACall.mk _ _ hH ?_
   refine Split.mk fun t h2 => ?_
   cases t
   case true => (exfalso; rw [str_le, Bool.not_eq_true'] at h2; exact Bool.noConfusion (h2.symm.trans (‹_› : _ = true)))
   rw [str_le, Bool.not_eq_false'] at h2
   exact Need.mk ⟨[], _, .same, rfl, rfl⟩ trivial
  ·have h2' : slt b low = false := Bool.eq_false_iff.2 h2
   have hres : (!slt high a && !slt b low) = true := by rw [h1', h2']; rfl
   rw [hres]
   refine AFn.introX (E := En 0 md0) (en_ok 0 _) Tryz.func214 rfl rfl rfl fun _ _ => ?_
   refine ACall.mk _ _ hL ?_
   refine Split.mk fun t h1 => ?_
   cases t
   case false => (exfalso; rw [str_le, Bool.not_eq_false'] at h1; exact absurd h1 ‹_›)
   rw [str_le, Bool.not_eq_true'] at h1
   refine ACall.mk _ _ hH ?_
   refine Split.mk fun t h2 => ?_
   cases t
   case false => (exfalso; rw [str_le, Bool.not_eq_false'] at h2; exact absurd h2 ‹_›)
   rw [str_le, Bool.not_eq_true'] at h2
   exact Need.mk ⟨[], _, .same, rfl, rfl⟩ trivial
theorem spec_l5Range (x : Rn) (xs : List Rn) (hl : xs.length ≤ 1048576) (hr : ∀ r ∈ x :: xs, 0 < r.ents.length ∧ r.ents.length ≤ 1048576) :
  AFn Tryz.prog 184 [sl ((x :: xs).map Rn.enc)] [] (.tup [.one (vs (lowR (x :: xs))), .one (vs (highR (x :: xs)))]) [] := by
 have hn : ((x :: xs).map Rn.enc).length = xs.length + 1 := List.length_map ..
 have hL := spec_l5Low x (hr x (List.mem_cons_self ..)).1
 have hH := spec_l5High x (hr x (List.mem_cons_self ..)).1 (Nat.le_trans (hr x (List.mem_cons_self ..)).2 (by decide))
 have h0 : ((x :: xs).map Rn.enc)[0]? = some x.enc := rfl
 refine AFn.introX (E := En 0 md0) (en_ok 0 _) Tryz.func184 rfl rfl rfl fun _ _ => ?_
 refine nd ?_
 refine Row.mk _ h0 ?_
 refine ACall.mk _ _ hL ?_
 refine nd ?_
 refine Row.mk _ h0 ?_
 refine ACall.mk _ _ hH ?_
 let S : Nat → ByteArray → ByteArray → St := fun i lo hi => ⟨some (sl (List.map Rn.enc (x :: xs))) :: none :: none :: none :: some (av (.string lo)) :: some (av (.string hi)) :: some (av (.int .i64 ((i + 1 : Nat) : Int))) :: List.replicate 40 none, List.replicate 47 absent⟩
 refine ALoop.mk (fun m s => ∃ (i : Nat) (lo hi : ByteArray), i ≤ xs.length ∧ m = xs.length - i ∧ lo = loR x xs i ∧ hi = hiR x xs i ∧ s = S i lo hi)
  ⟨_, _, Weak.nrm [true, false, false, false, true, true, true] [] rfl rfl rfl, 0, _, _, Nat.zero_le _, rfl, rfl, rfl, rfl⟩ ?_
 rintro m s ⟨i, _, _, hi, rfl, rfl, rfl, hs⟩
 by_cases hin : i < xs.length
 ·have hget : ((x :: xs).map Rn.enc)[i + 1]? = some (xs[i]).enc := map_get Rn.enc xs i hin
  have hmem := hr _ (List.mem_cons_of_mem x (List.getElem_mem hin))
  have hL2 := spec_l5Low xs[i] hmem.1
  have hH2 := spec_l5High xs[i] hmem.1 (Nat.le_trans hmem.2 (by decide))
  have s1 : loR x xs (i + 1) = minB (loR x xs i) (lowK xs[i]) := loR_succ hin
  have s2 : hiR x xs (i + 1) = maxB (hiR x xs i) (highK xs[i]) := hiR_succ hin
  by_cases c1 : slt (lowK xs[i]) (loR x xs i) = true
  ·have s1' : lowK xs[i] = loR x xs (i + 1) := (s1.trans (if_pos c1)).symm
   by_cases c2 : slt (hiR x xs i) (highK xs[i]) = true
   ·have s2' : highK xs[i] = hiR x xs (i + 1) := (s2.trans (if_pos c2)).symm
    subst hs
    refine spT (by omega) fun h1 => ?_
    refine nd ?_
    refine Row.mk _ hget ?_
    refine ACall.mk _ _ hL2 ?_
    refine Split.mk fun t h2 => ?_
    cases t
    case false => (exfalso; exact Bool.noConfusion (h2.symm.trans (‹_› : _ = true)))
    refine nd ?_
    refine Row.mk _ hget ?_
    refine ACall.mk _ _ hL2 ?_
    refine nd ?_
    refine Row.mk _ hget ?_
    refine ACall.mk _ _ hH2 ?_
    refine Split.mk fun t h3 => ?_
    cases t
    case false => (exfalso; rw [str_gt] at h3; exact Bool.noConfusion (h3.symm.trans (‹_› : _ = true)))
    rw [str_gt] at h3
    refine nd ?_
    refine Row.mk _ hget ?_
    refine ACall.mk _ _ hH2 ?_
    refine Num.mk _ (wrapS (by omega)) ?_
    exact ⟨_, _, by omega, Weak.nrm [true, false, false, false, true, true, true] [] rfl rfl rfl, i + 1, _, _, by omega, rfl, s1', s2', rfl⟩
   ·have s2' : hiR x xs i = hiR x xs (i + 1) := (s2.trans (if_neg c2)).symm
    have c2' := Bool.eq_false_iff.2 c2
    subst hs
    refine spT (by omega) fun h1 => ?_
    refine nd ?_
    refine Row.mk _ hget ?_
    refine ACall.mk _ _ hL2 ?_
    refine Split.mk fun t h2 => ?_
    cases t
    case false => (exfalso; exact Bool.noConfusion (h2.symm.trans (‹_› : _ = true)))
    refine nd ?_
    refine Row.mk _ hget ?_
    refine ACall.mk _ _ hL2 ?_
    refine nd ?_
    refine Row.mk _ hget ?_
    refine ACall.mk _ _ hH2 ?_
    refine Split.mk fun t h3 => ?_
    cases t
    case true => (exfalso; rw [str_gt] at h3; exact absurd h3 ‹_›)
    rw [str_gt] at h3
    refine Num.mk _ (wrapS (by omega)) ?_
    exact ⟨_, _, by omega, Weak.nrm [true, false, false, false, true, true, true] [] rfl rfl rfl, i + 1, _, _, by omega, rfl, s1', s2', rfl⟩
  ·have s1' : loR x xs i = loR x xs (i + 1) := (s1.trans (if_neg c1)).symm
   have c1' := Bool.eq_false_iff.2 c1
   by_cases c2 : slt (hiR x xs i) (highK xs[i]) = true
   ·have s2' : highK xs[i] = hiR x xs (i + 1) := (s2.trans (if_pos c2)).symm
    subst hs
    refine spT (by omega) fun h1 => ?_
    refine nd ?_
    refine Row.mk _ hget ?_
    refine ACall.mk _ _ hL2 ?_
    refine Split.mk fun t h2 => ?_
    cases t
    case true => (exfalso; exact Bool.noConfusion (h2.symm.trans (‹_› : _ = false)))
    refine nd ?_
    refine Row.mk _ hget ?_
    refine ACall.mk _ _ hH2 ?_
    refine Split.mk fun t h3 => ?_
    cases t
    case false => (exfalso; rw [str_gt] at h3; exact Bool.noConfusion (h3.symm.trans (‹_› : _ = true)))
    rw [str_gt] at h3
    refine nd ?_
    refine Row.mk _ hget ?_
    refine ACall.mk _ _ hH2 ?_
    refine Num.mk _ (wrapS (by omega)) ?_
    exact ⟨_, _, by omega, Weak.nrm [true, false, false, false, true, true, true] [] rfl rfl rfl, i + 1, _, _, by omega, rfl, s1', s2', rfl⟩
   ·have s2' : hiR x xs i = hiR x xs (i + 1) := (s2.trans (if_neg c2)).symm
    have c2' := Bool.eq_false_iff.2 c2
    subst hs
    refine spT (by omega) fun h1 => ?_
    refine nd ?_
    refine Row.mk _ hget ?_
    refine ACall.mk _ _ hL2 ?_
    refine Split.mk fun t h2 => ?_
    cases t
    case true => (exfalso; exact Bool.noConfusion (h2.symm.trans (‹_› : _ = false)))
    refine nd ?_
    refine Row.mk _ hget ?_
    refine ACall.mk _ _ hH2 ?_
    refine Split.mk fun t h3 => ?_
    cases t
    case true => (exfalso; rw [str_gt] at h3; exact absurd h3 ‹_›)
    rw [str_gt] at h3
    refine Num.mk _ (wrapS (by omega)) ?_
    exact ⟨_, _, by omega, Weak.nrm [true, false, false, false, true, true, true] [] rfl rfl rfl, i + 1, _, _, by omega, rfl, s1', s2', rfl⟩
 ·have e1 : loR x xs i = lowR (x :: xs) := by rw [show i = xs.length by omega]; unfold loR; rw [List.take_length]; rfl
  have e2 : hiR x xs i = highR (x :: xs) := by rw [show i = xs.length by omega]; unfold hiR; rw [List.take_length]; rfl
  rw [← e1, ← e2]
  subst hs
  refine spF (by omega) fun h1 => ?_
  exact Need.mk ⟨[], _, .same, rfl, rfl⟩ trivial
theorem spec_l5Part (xs : List Rn) (low high : ByteArray) (hl : xs.length ≤ 1048576) (hr : ∀ r ∈ xs, 0 < r.ents.length ∧ r.ents.length ≤ 1048576) :
  AFn Tryz.prog 185 [sl (xs.map Rn.enc), av (.string low), av (.string high)] [] (.tup [.one (.us 68 ((inL xs low high).map Rn.enc)), .one (.us 68 ((offL xs low high).map Rn.enc))]) [] := by
 have hn : (xs.map Rn.enc).length = xs.length := List.length_map ..
 refine AFn.introX (E := En 0 md0 (fb := [])) (en_ok 0 _ _ _ _ _) Tryz.func185 rfl rfl rfl fun _ _ => ?_
 let S : Nat → List (List C) → List (List C) → St := fun i R1 R2 => ⟨some (sl (List.map Rn.enc xs)) :: some (av (.string low)) :: some (av (.string high)) :: none :: none :: none :: none :: none :: some (.one (.ref 8 0 (.cell 0))) :: some (.one (.ref 9 0 (.cell 0))) :: some (av (.int .i64 i)) :: List.replicate 31 none, absent :: absent :: absent :: absent :: absent :: absent :: absent :: absent :: ⟨0, 1, some [.us 68 R1]⟩ :: ⟨0, 1, some [.us 68 R2]⟩ :: List.replicate 32 absent⟩
 refine ALoop.mk (fun m s => ∃ (i : Nat) (R1 R2 : List (List C)), i ≤ xs.length ∧ m = xs.length - i ∧ R1 = (inL (xs.take i) low high).map Rn.enc ∧ R2 = (offL (xs.take i) low high).map Rn.enc ∧ s = S i R1 R2)
  ⟨_, _, Weak.trans (Weak.nrm [true, true, true, false, false, false, false, false, true, true, true] [(11, 8), (12, 9)] rfl rfl rfl) Weak.one, 0, [], [], Nat.zero_le _, rfl, rfl, rfl, rfl⟩ ?_
 rintro m s ⟨i, R1, R2, hi, rfl, hR1, hR2, hs⟩
 by_cases hin : i < xs.length
 ·have hget := map_get Rn.enc xs i hin
  have hmem := hr _ (List.getElem_mem hin)
  have hM := spec_l5Meet xs[i] low high hmem.1 (Nat.le_trans hmem.2 (by decide))
  have hl1 : R1.length ≤ i := by rw [hR1, List.length_map]; exact Nat.le_trans (List.length_filter_le _ _) (by rw [List.length_take]; omega)
  have hl2 : R2.length ≤ i := by rw [hR2, List.length_map]; exact Nat.le_trans (List.length_filter_le _ _) (by rw [List.length_take]; omega)
  have t1 := in_succ hin low high
  have t2 := off_succ hin low high
  by_cases hm : meetsB xs[i] low high = true
  ·rw [if_pos hm] at t1 t2
   rw [hm] at hM
   have t1' : R1 ++ [xs[i].enc] = (inL (xs.take (i + 1)) low high).map Rn.enc := by rw [t1, List.map_append, ← hR1]; rfl
   have t2' : R2 = (offL (xs.take (i + 1)) low high).map Rn.enc := by rw [t2, List.append_nil, hR2]
   subst hs
   refine spT (by omega) fun h1 => ?_
   refine nd ?_
   refine Row.mk _ hget ?_
   refine ACall.mk _ _ hM ?_
   refine sp1 ?_
   refine nd ?_
   refine Row.mk _ hget ?_
   refine apq (A' := _) (B' := [[.sl (List.map Ent.enc xs[i].ents), vi xs[i].mask]]) rfl rfl ?_
   refine Num.mk _ (wrapS (by omega)) ?_
   exact ⟨_, _, by omega, Weak.nrm [true, true, true, false, false, false, false, false, true, true, true] [(32, 8), (9, 9)] rfl rfl rfl, i + 1, _, _, by omega, rfl, t1', t2', rfl⟩
  ·rw [if_neg hm] at t1 t2
   rw [Bool.eq_false_iff.2 hm] at hM
   have t1' : R1 = (inL (xs.take (i + 1)) low high).map Rn.enc := by rw [t1, List.append_nil, hR1]
   have t2' : R2 ++ [xs[i].enc] = (offL (xs.take (i + 1)) low high).map Rn.enc := by rw [t2, List.map_append, ← hR2]; rfl
   subst hs
   refine spT (by omega) fun h1 => ?_
   refine nd ?_
   refine Row.mk _ hget ?_
   refine ACall.mk _ _ hM ?_
   refine sp0 ?_
   refine nd ?_
   refine Row.mk _ hget ?_
   refine apq (A' := _) (B' := [[.sl (List.map Ent.enc xs[i].ents), vi xs[i].mask]]) rfl rfl ?_
   refine Num.mk _ (wrapS (by omega)) ?_
   exact ⟨_, _, by omega, Weak.nrm [true, true, true, false, false, false, false, false, true, true, true] [(8, 8), (39, 9)] rfl rfl rfl, i + 1, _, _, by omega, rfl, t1', t2', rfl⟩
 ·have e0 : xs.take i = xs := List.take_of_length_le (by omega)
  rw [e0] at hR1 hR2
  rw [← hR1, ← hR2]
  subst hs
  refine spF (by omega) fun h1 => ?_
  exact Need.mk ⟨[], _, .same, rfl, rfl⟩ trivial
theorem spec_l5Lists (xs : List Rn) (hl : xs.length ≤ 1048576) :
  AFn Tryz.prog 186 [sl (xs.map Rn.enc)] [] (.one (.us 29 (xs.map encLs))) [] := by
 have hn : (xs.map Rn.enc).length = xs.length := List.length_map ..
 refine AFn.introX (E := En 0 md0) (en_ok 0 _) Tryz.func186 rfl rfl rfl fun _ _ => ?_
 let S : Nat → List (List C) → St := fun i R => ⟨some (sl (List.map Rn.enc xs)) :: none :: none :: some (.one (.ref 3 0 (.cell 0))) :: some (av (.int .i64 i)) :: List.replicate 16 none, absent :: absent :: absent :: ⟨0, 1, some [.us 29 R]⟩ :: List.replicate 17 absent⟩
 refine ALoop.mk (fun m s => ∃ (i : Nat) (R : List (List C)), i ≤ xs.length ∧ m = xs.length - i ∧ R = (xs.take i).map encLs ∧ s = S i R)
  ⟨_, _, Weak.trans (Weak.nrm [true, false, false, true, true] [(5, 3)] rfl rfl rfl) Weak.one, 0, [], Nat.zero_le _, rfl, rfl, rfl⟩ ?_
 rintro m s ⟨i, R, hi, rfl, hR, hs⟩
 by_cases hin : i < xs.length
 ·have hRl : R.length = i := by rw [hR, List.length_map, List.length_take]; omega
  have hget := map_get Rn.enc xs i hin
  have hRR : R ++ [[.sl (xs[i].ents.map Ent.enc)]] = (xs.take (i + 1)).map encLs := by rw [hR, List.take_succ_eq_append_getElem hin, List.map_append]; rfl
  subst hs
  refine spT (by omega) fun h1 => ?_
  refine nd ?_
  refine Row.mk _ hget ?_
  refine apq (A' := _) (B' := [[.sl (List.map Ent.enc xs[i].ents)]]) rfl rfl ?_
  refine Num.mk _ (wrapS (by omega)) ?_
  exact ⟨_, _, by omega, Weak.nrm [true, false, false, true, true] [(19, 3)] rfl rfl rfl, i + 1, _, by omega, rfl, hRR, rfl⟩
 ·have hres : R = xs.map encLs := by rw [hR, List.take_of_length_le (by omega)]
  rw [← hres]
  subst hs
  refine spF (by omega) fun h1 => ?_
  exact Need.mk ⟨[], _, .same, rfl, rfl⟩ trivial
theorem spec_l5Fits (xs : List Rn) (hl : xs.length ≤ 1048576) (c : Bool) (hc : (xs.all (fun r => decide (r.ents.length ≤ 150)) && decide (xs.length ≤ 8)) = c) :
  AFn Tryz.prog 190 [sl (xs.map Rn.enc)] [] (rb c) [] := by
 have hn : (xs.map Rn.enc).length = xs.length := List.length_map ..
 refine AFn.introX (E := En 0 md0) (en_ok 0 _) Tryz.func190 rfl rfl rfl fun _ _ => ?_
 let S : Nat → St := fun i => ⟨some (sl (List.map Rn.enc xs)) :: none :: none :: some (av (.int .i64 i)) :: List.replicate 16 none, List.replicate 20 absent⟩
 refine ALoop.mk (fun m s => ∃ i : Nat, i ≤ xs.length ∧ m = xs.length - i ∧ (∀ j, j < i → ∀ h : j < xs.length, xs[j].ents.length ≤ 150) ∧ s = S i)
  ⟨_, _, Weak.nrm [true, false, false, true] [] rfl rfl rfl, 0, Nat.zero_le _, rfl, fun j h => by omega, rfl⟩ ?_
 rintro m s ⟨i, hi, rfl, hall, hs⟩
 by_cases hin : i < xs.length
 ·have hget := map_get Rn.enc xs i hin
  have hel : (xs[i].ents.map Ent.enc).length = xs[i].ents.length := List.length_map ..
  by_cases hb : xs[i].ents.length ≤ 150
  ·have hall2 := allS (P := fun j => ∀ h : j < xs.length, xs[j].ents.length ≤ 150) hall fun _ => hb
   subst hs
   refine spT (by omega) fun h1 => ?_
   refine nd ?_
   refine Row.mk _ hget ?_
   refine spF (by omega) fun h2 => ?_
   refine Num.mk _ (wrapS (by omega)) ?_
   exact ⟨_, _, by omega, Weak.nrm [true, false, false, true] [] rfl rfl rfl, i + 1, by omega, rfl, hall2, rfl⟩
  ·have hres : c = false := by
    rw [← hc, Bool.and_eq_false_iff]
    exact .inl (Bool.eq_false_iff.2 fun h => hb (of_decide_eq_true (List.all_eq_true.1 h _ (List.getElem_mem hin))))
   rw [hres]
   subst hs
   refine spT (by omega) fun h1 => ?_
   refine nd ?_
   refine Row.mk _ hget ?_
   refine spT (by omega) fun h2 => ?_
   exact Need.mk ⟨[], _, .same, rfl, rfl⟩ trivial
 ·have hres : decide (xs.length ≤ 8) = c := by
   rw [← hc, show xs.all (fun r => decide (r.ents.length ≤ 150)) = true from all_iff.2 fun j hj => decide_eq_true (hall j (by omega) hj)]
   rfl
  by_cases h8 : xs.length ≤ 8
  ·rw [← hres, decide_eq_true h8]
   subst hs
   refine spF (by omega) fun h1 => ?_
   refine spT (by omega) fun h2 => ?_
   exact Need.mk ⟨[], _, .same, rfl, rfl⟩ trivial
  ·rw [← hres, decide_eq_false h8]
   subst hs
   refine spF (by omega) fun h1 => ?_
   refine spF (by omega) fun h2 => ?_
   exact Need.mk ⟨[], _, .same, rfl, rfl⟩ trivial
theorem spec_l5Cut (xs : List Ent) (hl : xs.length ≤ 1048576) (hx : OkE xs) :
  AFn Tryz.prog 189 [sl (xs.map Ent.enc)] [] (.one (.us 68 ((cutL xs).map Rn.enc))) [] := by
 have hn : (xs.map Ent.enc).length = xs.length := List.length_map ..
 refine AFn.introX (E := En 0 (mdv [130] []) (fz := [45])) (en_ok 0 _ _ _ _ _) Tryz.func189 rfl rfl rfl fun _ _ => ?_
 let S : Nat → Nat → List (List C) → St := fun f i R => ⟨some (sl (List.map Ent.enc xs)) :: none :: none :: some (.one (.ref 3 0 (.cell 0))) :: some (av (.int .i64 f)) :: some (av (.int .i64 i)) :: List.replicate 43 none, absent :: absent :: absent :: ⟨0, 1, some [.us 68 R]⟩ :: List.replicate 45 absent⟩
 refine ALoop.mk (fun m s => ∃ (f i : Nat) (R : List (List C)), i ≤ xs.length + 1 ∧ f ≤ xs.length ∧ f < i ∧ m = xs.length + 1 - i ∧ (i = xs.length + 1 → f = xs.length) ∧ R.length ≤ f ∧ R ++ (cutL (xs.drop f)).map Rn.enc = (cutL xs).map Rn.enc ∧ (∀ j (h1 : 0 < j) (_ : j < i - f) (h3 : j < (xs.drop f).length), ¬ brkP (0 + j - 1) ((xs.drop f)[j - 1]'(by omega)) (xs.drop f)[j]) ∧ s = S f i R)
  ⟨_, _, Weak.trans (Weak.nrm [true, false, false, true, true, true] [(6, 3)] rfl rfl rfl) Weak.one, 0, 1, [], by omega, by omega, by omega, rfl, fun h => by omega, Nat.le_refl _, rfl, fun j h1 h2 => by omega, rfl⟩ ?_
 rintro m s ⟨f, i, R, hi, hf, hfi, rfl, hlast, hRl, hR, hbr, hs⟩
 by_cases hin : i ≤ xs.length
 ·have hdl : (xs.drop f).length = xs.length - f := List.length_drop ..
  have hfi2 : IntKind.i64.wrap ((i : Int) - (f : Int)) = ((i - f : Nat) : Int) := wrapI' (by omega) (by omega)
  have hsub : IntKind.i64.wrap ((i : Int) - 1) = ((i - 1 : Nat) : Int) := wrapI' (by omega) (by omega)
  have hE : ∀ (a b : Int), a = f → b = i → List.take (b - a).toNat (List.drop a.toNat (List.map Ent.enc xs)) = ((xs.drop f).take (i - f)).map Ent.enc := fun a b ha hb => by rw [ha, hb, show ((i : Int) - (f : Int)).toNat = i - f by omega, List.map_take, List.map_drop]; rfl
  by_cases hcut : i = xs.length ∨ ∃ h : i < xs.length, 20 ≤ i - f ∧ ¬ xs[i].key = (xs[i - 1]'(by omega)).key
  ·have hend : ∀ (h : i - f < (xs.drop f).length), brkP (0 + (i - f) - 1) ((xs.drop f)[i - f - 1]'(by omega)) (xs.drop f)[i - f] := fun h => by
    obtain ⟨hil, h20, hk⟩ := hcut.resolve_left (by omega)
    refine ⟨by omega, ?_⟩
    rw [List.getElem_drop, List.getElem_drop]
    have e1 : f + (i - f) = i := by omega
    have e2 : f + (i - f - 1) = i - 1 := by omega
    simp only [e1, e2]
    exact hk
   have hcs := cut_step (by omega) (by omega) hbr hend
   have hdd : (xs.drop f).drop (i - f) = xs.drop i := by rw [List.drop_drop]; congr 1; omega
   rw [hdd] at hcs
   have hRR : (R ++ [(mkRun ((xs.drop f).take (i - f))).enc]) ++ (cutL (xs.drop i)).map Rn.enc = (cutL xs).map Rn.enc := by rw [← hR, hcs, List.append_assoc]; rfl
   have hO := spec_l4RunO' ((xs.drop f).take (i - f)) (fun e he => hx e (List.mem_of_mem_drop (List.mem_of_mem_take he))) (by rw [List.length_take]; omega)
   have hO2 : AFn Tryz.prog 130 [.one (.ref 0 0 (.cell 0))] [[.us 54 ([] ++ List.take ((i : Int) - (f : Int)).toNat (List.drop (f : Int).toNat (List.map Ent.enc xs)))]] (.agg [.us 54 (((xs.drop f).take (i - f)).map Ent.enc), vi (rmask ((xs.drop f).take (i - f)) : Nat)]) [[.x]] := by rw [List.nil_append, hE (f : Int) (i : Int) rfl rfl]; exact hO
   by_cases hil : i = xs.length
   ·subst hs
    refine spT (by omega) fun h1 => ?_
    refine sqT (by omega) fun h2 => ?_
    refine Need.mk (rfl) ?_
    refine Need.mk (⟨by omega, by omega, by omega, lenE _⟩) ?_
    refine Need.mk (⟨(Plain.take (Plain.drop (plainE _) _) _), (len_take (len_drop (lenE _) _) _)⟩) ?_
    refine apq (A' := []) (B' := _) rfl rfl ?_
    refine ACall.mk _ _ hO2 ?_
    refine Fz.mk _ (frzE _) ?_
    refine apq (A' := _) (B' := [[.sl (List.map Ent.enc (List.take (i - f) (List.drop f xs))), vi (↑(rmask (List.take (i - f) (List.drop f xs))))]]) rfl rfl ?_
    refine Num.mk _ (wrapS (by omega)) ?_
    exact ⟨_, _, by omega, Weak.nrm [true, false, false, true, true, true] [(46, 3)] rfl rfl rfl, i, i + 1, R ++ [(mkRun ((xs.drop f).take (i - f))).enc], by omega, by omega, by omega, rfl, fun h => by omega, by simp only [List.length_append, List.length_cons, List.length_nil]; omega, hRR, fun j h1 h2 => by omega, rfl⟩
   ·obtain ⟨hil2, h20, hk⟩ := hcut.resolve_left hil
    have g1 := map_get Ent.enc xs i hil2
    have g2 := map_get Ent.enc xs (i - 1) (by omega)
    subst hs
    refine spT (by omega) fun h1 => ?_
    refine sqF (by omega) fun h2 => ?_
    refine Num.mk _ hfi2 ?_
    refine spT (by omega) fun h3 => ?_
    refine nd ?_
    refine Row.mk _ g1 ?_
    refine Num.mk _ hsub ?_
    refine nd ?_
    refine Row.mk _ g2 ?_
    refine Split.mk fun t h4 => ?_
    cases t
    case false => (exfalso; rw [Bool.not_eq_false', bytes_beq, decide_eq_true_iff] at h4; exact absurd h4 ‹_›)
    rw [Bool.not_eq_true', bytes_beq, decide_eq_false_iff_not] at h4
    refine Need.mk (rfl) ?_
    refine Need.mk (⟨by omega, by omega, by omega, lenE _⟩) ?_
    refine Need.mk (⟨(Plain.take (Plain.drop (plainE _) _) _), (len_take (len_drop (lenE _) _) _)⟩) ?_
    refine apq (A' := []) (B' := _) rfl rfl ?_
    refine ACall.mk _ _ hO2 ?_
    refine Fz.mk _ (frzE _) ?_
    refine apq (A' := _) (B' := [[.sl (List.map Ent.enc (List.take (i - f) (List.drop f xs))), vi (↑(rmask (List.take (i - f) (List.drop f xs))))]]) rfl rfl ?_
    refine Num.mk _ (wrapS (by omega)) ?_
    exact ⟨_, _, by omega, Weak.nrm [true, false, false, true, true, true] [(46, 3)] rfl rfl rfl, i, i + 1, R ++ [(mkRun ((xs.drop f).take (i - f))).enc], by omega, by omega, by omega, rfl, fun h => by omega, by simp only [List.length_append, List.length_cons, List.length_nil]; omega, hRR, fun j h1 h2 => by omega, rfl⟩
  ·have hil : i < xs.length := by have : ¬ i = xs.length := fun h => hcut (.inl h); omega
   have g1 := map_get Ent.enc xs i hil
   have g2 := map_get Ent.enc xs (i - 1) (by omega)
   have hnb : ∀ j (h1 : 0 < j) (_ : j < i + 1 - f) (h3 : j < (xs.drop f).length), ¬ brkP (0 + j - 1) ((xs.drop f)[j - 1]'(by omega)) (xs.drop f)[j] := fun j h1 h2 h3 => by
    by_cases hj : j < i - f
    ·exact hbr j h1 hj h3
    ·obtain rfl : j = i - f := by omega
     rintro ⟨b1, b2⟩
     rw [List.getElem_drop, List.getElem_drop] at b2
     have e1 : f + (i - f) = i := by omega
     have e2 : f + (i - f - 1) = i - 1 := by omega
     simp only [e1, e2] at b2
     exact hcut (.inr ⟨hil, by omega, b2⟩)
   by_cases h20 : 20 ≤ i - f
   ·have hk : xs[i].key = (xs[i - 1]'(by omega)).key := Decidable.not_not.1 fun hk => hcut (.inr ⟨hil, h20, hk⟩)
    subst hs
    refine spT (by omega) fun h1 => ?_
    refine sqF (by omega) fun h2 => ?_
    refine Num.mk _ hfi2 ?_
    refine spT (by omega) fun h3 => ?_
    refine nd ?_
    refine Row.mk _ g1 ?_
    refine Num.mk _ hsub ?_
    refine nd ?_
    refine Row.mk _ g2 ?_
    refine Split.mk fun t h4 => ?_
    cases t
    case true => (exfalso; rw [Bool.not_eq_true', bytes_beq, decide_eq_false_iff_not] at h4; exact absurd ‹_› h4)
    rw [Bool.not_eq_false', bytes_beq, decide_eq_true_iff] at h4
    refine Need.mk (rfl) ?_
    refine Num.mk _ (wrapS (by omega)) ?_
    exact ⟨_, _, by omega, Weak.nrm [true, false, false, true, true, true] [(3, 3)] rfl rfl rfl, f, i + 1, R, by omega, by omega, by omega, rfl, fun h => by omega, hRl, hR, hnb, rfl⟩
   ·subst hs
    refine spT (by omega) fun h1 => ?_
    refine sqF (by omega) fun h2 => ?_
    refine Num.mk _ hfi2 ?_
    refine spF (by omega) fun h3 => ?_
    refine Need.mk (rfl) ?_
    refine Num.mk _ (wrapS (by omega)) ?_
    exact ⟨_, _, by omega, Weak.nrm [true, false, false, true, true, true] [(3, 3)] rfl rfl rfl, f, i + 1, R, by omega, by omega, by omega, rfl, fun h => by omega, hRl, hR, hnb, rfl⟩
 ·have hfl := hlast (by omega)
  have hres : R = (cutL xs).map Rn.enc := by rw [← hR, hfl, List.drop_length]; exact (List.append_nil R).symm
  rw [← hres]
  subst hs
  refine spF (by omega) fun h1 => ?_
  exact Need.mk ⟨[], _, .same, rfl, rfl⟩ trivial
theorem spec_l5Order (xs ys : List Rn) (hl : xs.length ≤ 1048576) (hl2 : ys.length ≤ 1048576) (hr : ∀ r ∈ xs, 0 < r.ents.length) (hr2 : ∀ r ∈ ys, 0 < r.ents.length) :
  AFn Tryz.prog 188 [sl (xs.map Rn.enc), sl (ys.map Rn.enc)] [] (.one (.us 68 ((orderL xs ys).map Rn.enc))) [] := by
 have hn : (xs.map Rn.enc).length = xs.length := List.length_map ..
 have hn2 : (ys.map Rn.enc).length = ys.length := List.length_map ..
 refine AFn.introX (E := En 0 md0) (en_ok 0 _) Tryz.func188 rfl rfl rfl fun _ _ => ?_
 refine Need.mk (⟨(plainR _), (lenR _)⟩) ?_
 refine apq (A' := []) (B' := _) rfl rfl ?_
 let S : List (List C) → Nat → St := fun R i => ⟨none :: some (sl (List.map Rn.enc ys)) :: none :: none :: none :: some (.one (.ref 5 0 (.cell 0))) :: some (av (.int .i64 i)) :: List.replicate 48 none, absent :: absent :: absent :: absent :: absent :: ⟨0, 1, some [.us 68 R]⟩ :: List.replicate 49 absent⟩
 refine ALoop.mk (fun m s => ∃ (i : Nat) (out : List Rn), i ≤ ys.length ∧ m = ys.length - i ∧ out = orderL xs (ys.take i) ∧ s = S (out.map Rn.enc) i)
  ⟨_, _, Weak.nrm [false, true, false, false, false, true, true] [(11, 5)] rfl rfl rfl, 0, xs, Nat.zero_le _, rfl, rfl, rfl⟩ ?_
 rintro m s ⟨i, out, hi, rfl, ho, hs⟩
 have hon : (out.map Rn.enc).length = out.length := List.length_map ..
 have hom := order_mem xs (ys.take i)
 rw [← ho] at hom
 have hol : out.length = xs.length + i := by rw [ho, order_len, List.length_take]; omega
 have hor : ∀ r ∈ out, 0 < r.ents.length := fun r h => (hom r h).elim (hr r) fun h => hr2 r (List.mem_of_mem_take h)
 by_cases hin : i < ys.length
 ·have hsn : orderL xs (ys.take (i + 1)) = ins rLess out ys[i] := by rw [ho]; exact order_succ hin
  have hL2 := spec_l5Low ys[i] (hr2 _ (List.getElem_mem hin))
  have g2 := map_get Rn.enc ys i hin
  subst hs
  refine spT (by omega) fun h1 => ?_
  let S1 : Nat → St := fun k => ⟨none :: some (sl (List.map Rn.enc ys)) :: none :: none :: none :: some (.one (.ref 5 0 (.cell 0))) :: some (av (.int .i64 i)) :: some (av (.int .i64 k)) :: List.replicate 47 none, absent :: absent :: absent :: absent :: absent :: ⟨0, 1, some [.us 68 (out.map Rn.enc)]⟩ :: List.replicate 49 absent⟩
  refine ALoop.mk (fun m s => ∃ k : Nat, k ≤ out.length ∧ m = k ∧ ins rLess out ys[i] = ins rLess (out.take k) ys[i] ++ out.drop k ∧ s = S1 k)
   ⟨_, _, Weak.nrm [false, true, false, false, false, true, true, true] [(5, 5)] rfl rfl rfl, out.length, Nat.le_refl _, rfl, by simp, Eq.trans (b := S1 (out.map Rn.enc).length) rfl (by rw [hon])⟩ ?_
  rintro m s ⟨k, hk, hm, hins, hs⟩
  have stop : ins rLess (out.take k) ys[i] = out.take k ++ [ys[i]] → S ((out.take k).map Rn.enc ++ [ys[i].enc] ++ (out.drop k).map Rn.enc) (i + 1) = S ((orderL xs (ys.take (i + 1))).map Rn.enc) (i + 1) := fun h => by
   rw [hsn, hins, h, List.map_append, List.map_append]; rfl
  have d1 : ((out.map Rn.enc).drop (k : Int).toNat).take (((out.map Rn.enc).length : Int) - (k : Int)).toNat = (out.drop k).map Rn.enc := by
   rw [Int.toNat_natCast, ← List.map_drop]
   exact List.take_of_length_le (by rw [List.length_map, List.length_drop, hon]; omega)
  have d2 : ((out.map Rn.enc).take ((k : Int) - 0).toNat) = (out.take k).map Rn.enc := by
   rw [Int.sub_zero, Int.toNat_natCast, ← List.map_take]
  have l1 : (out.drop k).length = out.length - k := List.length_drop ..
  have l2 : (out.take k).length = k := by rw [List.length_take]; omega
  by_cases hk0 : k = 0
  ·have hst := stop (by rw [hk0]; rfl)
   subst hs
   refine spF (by omega) fun h1 => ?_
   refine Need.mk (rfl) ?_
   refine nd ?_
   refine Need.mk ((plainR _)) ?_
   refine apq (A' := []) (B' := _) rfl rfl ?_
   refine nd ?_
   refine nd ?_
   refine Row.mk _ g2 ?_
   refine apq (A' := _) (B' := [[.sl (List.map Ent.enc ys[i].ents), vi ys[i].mask]]) rfl rfl ?_
   refine Need.mk ((Plain.app plain_nil (Plain.take (Plain.drop (plainR _) _) _))) ?_
   refine apq (A' := (_ ++ [[.sl (List.map Ent.enc ys[i].ents), vi ys[i].mask]])) (B' := ([] ++ _)) rfl rfl ?_
   refine Need.mk (rfl) ?_
   refine Num.mk _ (wrapS (by omega)) ?_
   exact ⟨_, _, by omega, Weak.nrm [false, true, false, false, false, true, true] [(53, 5)] rfl rfl rfl, i + 1, orderL xs (ys.take (i + 1)), by omega, rfl, rfl, Eq.trans (b := S ((out.map Rn.enc).take ((k : Int) - 0).toNat ++ [ys[i].enc] ++ ([] ++ ((out.map Rn.enc).drop (k : Int).toNat).take (((out.map Rn.enc).length : Int) - (k : Int)).toNat)) (i + 1)) rfl (by rw [d1, d2, List.nil_append]; exact hst)⟩
  ·have hts := take_snoc (by omega) hk
   have hk1 : k - 1 < out.length := by omega
   have hsub : IntKind.i64.wrap ((k : Int) - 1) = ((k - 1 : Nat) : Int) := wrapI' (by omega) (by omega)
   have hL1 := spec_l5Low out[k - 1] (hor _ (List.getElem_mem hk1))
   have g1 := map_get Rn.enc out (k - 1) hk1
   by_cases hle : slt (lowK ys[i]) (lowK out[k - 1]) = true
   ·have hlt : rLess ys[i] out[k - 1] = true := hle
    have hst := ins_step rLess ys[i] out[k - 1] (out.take (k - 1)) hlt
    rw [← hts] at hst
    have hdk := List.drop_eq_getElem_cons hk1
    rw [show k - 1 + 1 = k by omega] at hdk
    have hnew : ins rLess out ys[i] = ins rLess (out.take (k - 1)) ys[i] ++ out.drop (k - 1) := by rw [hins, hst, hdk, List.append_assoc]; rfl
    subst hs
    refine spT (by omega) fun h1 => ?_
    refine Num.mk _ hsub ?_
    refine nd ?_
    refine Row.mk _ g1 ?_
    refine ACall.mk _ _ hL1 ?_
    refine nd ?_
    refine Row.mk _ g2 ?_
    refine ACall.mk _ _ hL2 ?_
    refine Split.mk fun t h2 => ?_
    cases t
    case false => (exfalso; rw [str_gt] at h2; exact Bool.noConfusion (h2.symm.trans (‹_› : _ = true)))
    rw [str_gt] at h2
    refine Need.mk (rfl) ?_
    refine Num.mk _ hsub ?_
    exact ⟨_, _, by omega, Weak.nrm [false, true, false, false, false, true, true, true] [(5, 5)] rfl rfl rfl, k - 1, by omega, rfl, hnew, rfl⟩
   ·have hle := Bool.eq_false_iff.2 hle
    have hlt : rLess ys[i] out[k - 1] = false := hle
    have hst := ins_stop rLess ys[i] out[k - 1] (out.take (k - 1)) hlt
    rw [← hts] at hst
    have hst := stop hst
    subst hs
    refine spT (by omega) fun h1 => ?_
    refine Num.mk _ hsub ?_
    refine nd ?_
    refine Row.mk _ g1 ?_
    refine ACall.mk _ _ hL1 ?_
    refine nd ?_
    refine Row.mk _ g2 ?_
    refine ACall.mk _ _ hL2 ?_
    refine Split.mk fun t h2 => ?_
    cases t
    case true => (exfalso; rw [str_gt] at h2; exact absurd h2 ‹_›)
    rw [str_gt] at h2
    refine Need.mk (rfl) ?_
    refine nd ?_
    refine Need.mk ((plainR _)) ?_
    refine apq (A' := []) (B' := _) rfl rfl ?_
    refine nd ?_
    refine nd ?_
    refine Row.mk _ g2 ?_
    refine apq (A' := _) (B' := [[.sl (List.map Ent.enc ys[i].ents), vi ys[i].mask]]) rfl rfl ?_
    refine Need.mk ((Plain.app plain_nil (Plain.take (Plain.drop (plainR _) _) _))) ?_
    refine apq (A' := (_ ++ [[.sl (List.map Ent.enc ys[i].ents), vi ys[i].mask]])) (B' := ([] ++ _)) rfl rfl ?_
    refine Need.mk (rfl) ?_
    refine Num.mk _ (wrapS (by omega)) ?_
    exact ⟨_, _, by omega, Weak.nrm [false, true, false, false, false, true, true] [(53, 5)] rfl rfl rfl, i + 1, orderL xs (ys.take (i + 1)), by omega, rfl, rfl, Eq.trans (b := S ((out.map Rn.enc).take ((k : Int) - 0).toNat ++ [ys[i].enc] ++ ([] ++ ((out.map Rn.enc).drop (k : Int).toNat).take (((out.map Rn.enc).length : Int) - (k : Int)).toNat)) (i + 1)) rfl (by rw [d1, d2, List.nil_append]; exact hst)⟩
 ·have hres : out = orderL xs ys := by rw [ho, List.take_of_length_le (by omega)]
  rw [← hres]
  subst hs
  refine spF (by omega) fun h1 => ?_
  exact Need.mk ⟨[], _, .same, rfl, rfl⟩ trivial
def encF (sq : Int) (mem : List Ent) (l0 l1 l2 : List Rn) (snaps : List Int) : List C := [vi sq, .sl (mem.map Ent.enc), .sl ([l0, l1, l2].map encL), .sl (snaps.map encI)]
def encE (x1 x2 x3 : Value) (sq : Int) (mem : List Ent) (l0 l1 l2 : List Rn) (snaps : List Int) : List C := [vi sq, .ex x1 (mem.map Ent.enc), .ex x2 ([l0, l1, l2].map encL), .ex x3 (snaps.map encI)]
theorem run_lens {l : List Rn} (h : ∀ r ∈ l, runOk r = true) : ∀ r ∈ l, 0 < r.ents.length ∧ r.ents.length ≤ 1048576 := fun r hr => by
 have := (runOk_len (h r hr)).1
 have := (runOk_len (h r hr)).2.1
 omega
theorem spec_l5Bare2 (sq : Int) (mem : List Ent) (l0 l1 l2 : List Rn) (snaps : List Int) (all : List Rn) : AFn Tryz.prog 187 [.agg ((encF sq mem l0 l1 l2 snaps).map .c), av (.int .i64 2), sl (all.map Rn.enc)] [] (rb true) [] := by
 refine AFn.introX (E := En 0 md0 (cb := [3])) (en_ok 0 _ _ _ _ _) Tryz.func187 rfl rfl rfl fun _ _ => ?_
 refine sp1 ?_
 exact Need.mk ⟨[], _, .same, rfl, rfl⟩ trivial
theorem spec_l5Bare1 (sq : Int) (mem : List Ent) (l0 l1 l2 : List Rn) (snaps : List Int) (all : List Rn) (ha : all ≠ []) (hal : all.length ≤ 1048576) (hr : ∀ r ∈ all, runOk r = true) (h2 : ∀ r ∈ l2, runOk r = true) (hl2 : l2.length ≤ 1048576) :
  AFn Tryz.prog 187 [.agg ((encF sq mem l0 l1 l2 snaps).map .c), av (.int .i64 1), sl (all.map Rn.enc)] [] (rb (inL l2 (lowR all) (highR all)).isEmpty) [] := by
 have hRg : AFn Tryz.prog 184 [sl (all.map Rn.enc)] [] (.tup [.one (vs (lowR all)), .one (vs (highR all))]) [] := by
  cases all with
  | nil => exact absurd rfl ha
  | cons x xs => exact spec_l5Range x xs (by rw [List.length_cons] at hal; omega) (run_lens hr)
 have hPt := spec_l5Part l2 (lowR all) (highR all) hl2 (run_lens h2)
 have hrow : ([l0, l1, l2].map encL)[(2 : Nat)]? = some (encL l2) := rfl
 have hex := exq (inL l2 (lowR all) (highR all))
 obtain ⟨q, hq⟩ := hex
 rw [hq] at hPt
 rw [hq]
 have hqn : (q.map Rn.enc).length = q.length := List.length_map ..
 by_cases h0 : q.length = 0
 ·rw [show q.isEmpty = true from List.isEmpty_iff_length_eq_zero.2 h0]
  refine AFn.introX (E := En 0 md0 (cb := [3])) (en_ok 0 _ _ _ _ _) Tryz.func187 rfl rfl rfl fun _ _ => ?_
  refine sp0 ?_
  refine ACall.mk _ _ hRg ?_
  refine nd ?_
  refine Row.mk _ hrow ?_
  refine ACall.mk _ _ hPt ?_
  refine sqT (by omega) fun h2 => ?_
  exact Need.mk ⟨[], _, .same, rfl, rfl⟩ trivial
 ·rw [show q.isEmpty = false from Bool.eq_false_iff.2 fun h => h0 (List.isEmpty_iff_length_eq_zero.1 h)]
  refine AFn.introX (E := En 0 md0 (cb := [3])) (en_ok 0 _ _ _ _ _) Tryz.func187 rfl rfl rfl fun _ _ => ?_
  refine sp0 ?_
  refine ACall.mk _ _ hRg ?_
  refine nd ?_
  refine Row.mk _ hrow ?_
  refine ACall.mk _ _ hPt ?_
  refine sqF (by omega) fun h2 => ?_
  exact Need.mk ⟨[], _, .same, rfl, rfl⟩ trivial
theorem fits_eq {off : List Rn} {z : List Ent} (h : ∀ r ∈ off, r.ents.length ≤ 150) : (orderL off (cutL z)).all (fun r => decide (r.ents.length ≤ 150)) = cutOk z := by
 have hm : ∀ r, r ∈ orderL off (cutL z) ↔ r ∈ off ∨ r ∈ cutL z := fun r => ⟨order_mem _ _ r, fun hr => by
  have key : ∀ (ys xs : List Rn), (r ∈ xs ∨ r ∈ ys) → r ∈ orderL xs ys := by
   intro ys
   induction ys with
   | nil => intro xs h; exact h.elim id fun h => nomatch h
   | cons y ys ih =>
    intro xs h
    refine ih (ins rLess xs y) ?_
    rcases h with h | h
    ·exact .inl ((ins_perm rLess xs y).mem_iff.2 (List.mem_cons_of_mem _ h))
    ·rcases List.mem_cons.1 h with rfl | h
     ·exact .inl ((ins_perm rLess xs r).mem_iff.2 (List.mem_cons_self ..))
     ·exact .inr h
  exact key _ _ hr⟩
 rw [Bool.eq_iff_iff, List.all_eq_true]
 unfold cutOk
 rw [List.all_eq_true]
 constructor
 ·intro h1 c hc
  exact h1 (mkRun c) ((hm _).2 (.inr (List.mem_map_of_mem hc)))
 ·intro h1 r hr
  rcases (hm r).1 hr with h2 | h2
  ·exact decide_eq_true (h r h2)
  ·obtain ⟨c, hc, rfl⟩ := List.mem_map.1 h2
   exact h1 c hc
theorem cutL_pos (z : List Ent) : ∀ r ∈ cutL z, 0 < r.ents.length := fun r hr => by
 obtain ⟨c, hc, rfl⟩ := List.mem_map.1 hr
 exact pieces_pos c hc
theorem len_flat {α : Type} : ∀ (L : List (List α)), (∀ c ∈ L, 0 < c.length) → L.length ≤ L.flatten.length := by
 intro L
 induction L with
 | nil => intro _; exact Nat.le_refl _
 | cons c L ih =>
  intro h
  have h1 := h c (List.mem_cons_self ..)
  have h2 := ih fun d hd => h d (List.mem_cons_of_mem _ hd)
  rw [List.flatten_cons, List.length_append, List.length_cons]
  omega
theorem cutL_le (z : List Ent) : (cutL z).length ≤ z.length := by
 unfold cutL
 rw [List.length_map]
 have := len_flat (pieces 0 z) pieces_pos
 rw [pieces_flat] at this
 exact this
theorem spec_l5Merge0 (sq : Int) (mem : List Ent) (l0 l1 l2 : List Rn) (snaps : List Int) (x1 x2 x3 : Value) (taken rest : List Rn) (hne : taken ≠ []) (htl : taken.length ≤ 8) (ht : ∀ r ∈ taken, runOk r = true) (h1 : ∀ r ∈ l1, runOk r = true) (hl1 : l1.length ≤ 8) (h2 : ∀ r ∈ l2, runOk r = true) (hl2 : l2.length ≤ 8)
  (hsn : snaps.length ≤ 1048576) (hsm : (⟨sq, mem, [l0, l1, l2], snaps⟩ : Tre).Small) (ho : ordOk (isort eLess (entsR (taken ++ inL l1 (lowR taken) (highR taken)))) = true) (o : List C) (ob : C) (c : Bool) (hc : mergeOk l0 l1 l2 0 taken snaps = c)
  (hy : c = true → o = [vi sq, .us 54 (mem.map Ent.enc), .us 66 [[.us 68 (rest.map Rn.enc)], [.us 68 ((mergeR l0 l1 l2 0 taken snaps).map Rn.enc)], encLO l2], .us 3 (snaps.map encI)] ∧ ob = .x) (hn : c = false → o = encE x1 x2 x3 sq mem l0 l1 l2 snaps ∧ ob = .us 68 (rest.map Rn.enc)) :
  AFn Tryz.prog 137 [.agg ((encE x1 x2 x3 sq mem l0 l1 l2 snaps).map .c), av (.int .i64 0), sl (taken.map Rn.enc), .one (.ref 0 0 (.cell 0))] [[.us 68 (rest.map Rn.enc)]] (.tup [.agg o, .one (vb c)]) [[ob]] := by
 have hRg : AFn Tryz.prog 184 [sl (taken.map Rn.enc)] [] (.tup [.one (vs (lowR taken)), .one (vs (highR taken))]) [] := by
  cases taken with
  | nil => exact absurd rfl hne
  | cons x xs => exact spec_l5Range x xs (by rw [List.length_cons] at htl; omega) (run_lens ht)
 have hPt := spec_l5Part l1 (lowR taken) (highR taken) (by omega) (run_lens h1)
 have hIr : ∀ r ∈ inL l1 (lowR taken) (highR taken), runOk r = true := fun r hr => h1 r (List.filter_sublist.subset hr)
 have hOr : ∀ r ∈ offL l1 (lowR taken) (highR taken), runOk r = true := fun r hr => h1 r (List.filter_sublist.subset hr)
 have hIl : (inL l1 (lowR taken) (highR taken)).length ≤ 8 := Nat.le_trans (List.length_filter_le _ _) hl1
 have hOl : (offL l1 (lowR taken) (highR taken)).length ≤ 8 := Nat.le_trans (List.length_filter_le _ _) hl1
 have hcz : mergeOk l0 l1 l2 0 taken snaps = (cutOk (mergeL l0 l1 l2 0 taken snaps) && decide ((mergeR l0 l1 l2 0 taken snaps).length ≤ 8)) := rfl
 have hRz : mergeR l0 l1 l2 0 taken snaps = orderL (offL l1 (lowR taken) (highR taken)) (cutL (mergeL l0 l1 l2 0 taken snaps)) := rfl
 have hLz : mergeL l0 l1 l2 0 taken snaps = squash (isort eLess (entsR (taken ++ inL l1 (lowR taken) (highR taken)))) snaps (decide ((0 : Nat) = 1) || (inL l2 (lowR (taken ++ inL l1 (lowR taken) (highR taken))) (highR (taken ++ inL l1 (lowR taken) (highR taken)))).isEmpty) := rfl
 rw [hc] at hcz
 have hex := exq (inL l1 (lowR taken) (highR taken))
 obtain ⟨q, hq⟩ := hex
 rw [hq] at hPt hIr hIl ho hLz
 have hex := exq (offL l1 (lowR taken) (highR taken))
 obtain ⟨f, hf⟩ := hex
 rw [hf] at hPt hOr hOl hRz
 have hex := exq (lowR taken)
 obtain ⟨lo, hlo⟩ := hex
 have hex := exq (highR taken)
 obtain ⟨hi, hhi⟩ := hex
 rw [hlo, hhi] at hRg hPt
 have hall : ∀ r ∈ taken ++ q, runOk r = true := fun r hr => (List.mem_append.1 hr).elim (ht r) (hIr r)
 have hallne : taken ++ q ≠ [] := fun h => hne (List.append_eq_nil_iff.1 h).1
 have halll : (taken ++ q).length ≤ 16 := by rw [List.length_append]; omega
 have hfA : Frz (.us 68 (([] ++ taken.map Rn.enc) ++ q.map Rn.enc)) (.sl ((taken ++ q).map Rn.enc)) := by rw [List.nil_append, ← List.map_append]; exact frzRs _
 have hex := exq (taken ++ q)
 obtain ⟨a, hae⟩ := hex
 rw [hae] at hall hallne halll hfA ho hLz
 have hLs := spec_l5Lists a (by omega)
 have hMl : ((a.map Rn.ents).flatten).length ≤ 2400 := by
  have := flat_le (b := 150) (L := a.map Rn.ents) fun l hl => by obtain ⟨r, hr, rfl⟩ := List.mem_map.1 hl; exact (runOk_len (hall r hr)).2.1
  rw [List.length_map] at this
  have h3 : a.length * 150 ≤ 16 * 150 := Nat.mul_le_mul_right _ halll
  omega
 have hMA := spec_MergeAll (a.map Rn.ents) (by omega) (by rw [List.length_map]; omega)
 have hfL : Frz (.us 29 (a.map encLs)) (.sl ((a.map Rn.ents).map encX)) := by
  rw [List.map_map]
  exact frz_map fun r _ => .cons .sl .nil
 have hBr : AFn Tryz.prog 187 [.agg ((encF sq mem l0 l1 l2 snaps).map .c), av (.int .i64 1), sl (a.map Rn.enc)] [] (rb ((inL l2 (lowR a) (highR a)).isEmpty)) [] := spec_l5Bare1 sq mem l0 l1 l2 snaps a hallne (by omega) hall h2 (by omega)
 have hzl : (isort eLess (a.map Rn.ents).flatten).length ≤ 2400 := by rw [isort_len]; exact hMl
 have hex := exq (isort eLess (a.map Rn.ents).flatten)
 obtain ⟨m, hm⟩ := hex
 have hm' : isort eLess (entsR a) = m := hm
 rw [hm'] at ho hLz
 rw [hm] at hMA hzl
 have hex := exq (((inL l2 (lowR a) (highR a)).isEmpty))
 obtain ⟨b, hb⟩ := hex
 rw [hb] at hBr
 have hSq := spec_Squash m snaps (by omega) (by omega) (ordOk_OkE ho) b
 rw [show squashed m snaps b = squash m snaps b from if_pos ho] at hSq
 have hzo := squash_ok (snaps := snaps) (last := b) ho
 have hzn := squash_len (l := m) (snaps := snaps) (last := b)
 have hLz : mergeL l0 l1 l2 0 taken snaps = squash m snaps b := by rw [hLz]; rw [← hb]; rfl
 rw [hLz] at hcz hRz
 have hex := exq (squash m snaps b)
 obtain ⟨z, hz⟩ := hex
 rw [hz] at hSq hzo hzn hcz hRz
 have hCt := spec_l5Cut z (by omega) (ordOk_OkE hzo)
 have hcr := cutL_pos z
 have hcl : (cutL z).length ≤ z.length := cutL_le z
 have hOd := spec_l5Order f (cutL z) (by omega) (by omega) (fun r hr => (runOk_len (hOr r hr)).1) hcr
 rw [← hRz] at hOd
 have hRl : (mergeR l0 l1 l2 0 taken snaps).length ≤ 2408 := by rw [hRz, order_len]; omega
 have hFt := spec_l5Fits (mergeR l0 l1 l2 0 taken snaps) (by rw [hRz, order_len]; omega) c (by rw [hcz, hRz, fits_eq fun r hr => (runOk_len (hOr r hr)).2.1])
 have hCp : AFn Tryz.prog 60 [.agg ((encF sq mem l0 l1 l2 snaps).map .c)] [] (.agg (encTO ⟨sq, mem, [l0, l1, l2], snaps⟩)) [] := spec_l5Copy _ hsm
 have hex := exq (mergeR l0 l1 l2 0 taken snaps)
 obtain ⟨N, hN⟩ := hex
 rw [hN] at hOd hFt hRl hy
 have hrow : ([l0, l1, l2].map encL)[(1 : Nat)]? = some (encL l1) := rfl
 have hadd : IntKind.i64.wrap ((0 : Int) + 1) = (1 : Int) := rfl
 cases c
 ·obtain ⟨ho1, hob⟩ := hn rfl
  rw [ho1, hob]
  cases b
  ·refine AFn.introX (E := En 1 (mdv [] [189, 188]) (cb := [4]) (fz := [15]) (ws := [28, 46, 47, 60])) (en_ok 1 _ _ _ _ _ _) Tryz.func137 rfl rfl rfl fun _ _ => ?_
   refine Num.mk _ hadd ?_
   refine ACall.mk _ _ hRg ?_
   refine nd ?_
   refine Row.mk _ hrow ?_
   refine ACall.mk _ _ hPt ?_
   refine Need.mk (⟨(plainR _), (lenR _)⟩) ?_
   refine apq (A' := []) (B' := _) rfl rfl ?_
   refine Need.mk ((plainR _)) ?_
   refine apq (A' := ([] ++ _)) (B' := _) rfl rfl ?_
   refine Fz.mk _ hfA ?_
   refine ACall.mk _ _ hLs ?_
   refine Fz.mk _ hfL ?_
   refine ACall.mk _ _ hMA ?_
   refine Need.mk (⟨ClL.mem (.us (clE _) .nil), no_objs⟩) ?_
   refine ACall.mk _ _ hBr ?_
   refine sp0 ?_
   refine Fz.mk _ (frzE _) ?_
   refine ACall.mk _ _ hSq ?_
   refine Need.mk (⟨ClL.mem (.us (clE _) .nil), no_objs⟩) ?_
   refine Need.mk (rfl) ?_
   refine Fz.mk _ (frzE _) ?_
   refine ACall.mk _ _ hCt ?_
   refine Fz.mk _ (frzRs _) ?_
   refine Fz.mk _ (frzRs _) ?_
   refine ACall.mk _ _ hOd ?_
   refine Fz.mk _ (frzRs _) ?_
   refine ACall.mk _ _ hFt ?_
   refine Need.mk (⟨ClL.mem (.v .nil), no_objs⟩) ?_
   refine sp0 ?_
   exact Need.mk ⟨[], _, .same, rfl, rfl⟩ trivial
  ·refine AFn.introX (E := En 1 (mdv [] [189, 188]) (cb := [4]) (fz := [15]) (ws := [28, 46, 47, 60])) (en_ok 1 _ _ _ _ _ _) Tryz.func137 rfl rfl rfl fun _ _ => ?_
   refine Num.mk _ hadd ?_
   refine ACall.mk _ _ hRg ?_
   refine nd ?_
   refine Row.mk _ hrow ?_
   refine ACall.mk _ _ hPt ?_
   refine Need.mk (⟨(plainR _), (lenR _)⟩) ?_
   refine apq (A' := []) (B' := _) rfl rfl ?_
   refine Need.mk ((plainR _)) ?_
   refine apq (A' := ([] ++ _)) (B' := _) rfl rfl ?_
   refine Fz.mk _ hfA ?_
   refine ACall.mk _ _ hLs ?_
   refine Fz.mk _ hfL ?_
   refine ACall.mk _ _ hMA ?_
   refine Need.mk (⟨ClL.mem (.us (clE _) .nil), no_objs⟩) ?_
   refine ACall.mk _ _ hBr ?_
   refine sp1 ?_
   refine Fz.mk _ (frzE _) ?_
   refine ACall.mk _ _ hSq ?_
   refine Need.mk (⟨ClL.mem (.us (clE _) .nil), no_objs⟩) ?_
   refine Need.mk (rfl) ?_
   refine Fz.mk _ (frzE _) ?_
   refine ACall.mk _ _ hCt ?_
   refine Fz.mk _ (frzRs _) ?_
   refine Fz.mk _ (frzRs _) ?_
   refine ACall.mk _ _ hOd ?_
   refine Fz.mk _ (frzRs _) ?_
   refine ACall.mk _ _ hFt ?_
   refine Need.mk (⟨ClL.mem (.v .nil), no_objs⟩) ?_
   refine sp0 ?_
   exact Need.mk ⟨[], _, .same, rfl, rfl⟩ trivial
 ·obtain ⟨ho1, hob⟩ := hy rfl
  rw [ho1, hob]
  cases b
  ·refine AFn.introX (E := En 1 (mdv [] [189, 188]) (cb := [4]) (fz := [15]) (ws := [28, 46, 47, 60])) (en_ok 1 _ _ _ _ _ _) Tryz.func137 rfl rfl rfl fun _ _ => ?_
   refine Num.mk _ hadd ?_
   refine ACall.mk _ _ hRg ?_
   refine nd ?_
   refine Row.mk _ hrow ?_
   refine ACall.mk _ _ hPt ?_
   refine Need.mk (⟨(plainR _), (lenR _)⟩) ?_
   refine apq (A' := []) (B' := _) rfl rfl ?_
   refine Need.mk ((plainR _)) ?_
   refine apq (A' := ([] ++ _)) (B' := _) rfl rfl ?_
   refine Fz.mk _ hfA ?_
   refine ACall.mk _ _ hLs ?_
   refine Fz.mk _ hfL ?_
   refine ACall.mk _ _ hMA ?_
   refine Need.mk (⟨ClL.mem (.us (clE _) .nil), no_objs⟩) ?_
   refine ACall.mk _ _ hBr ?_
   refine sp0 ?_
   refine Fz.mk _ (frzE _) ?_
   refine ACall.mk _ _ hSq ?_
   refine Need.mk (⟨ClL.mem (.us (clE _) .nil), no_objs⟩) ?_
   refine Need.mk (rfl) ?_
   refine Fz.mk _ (frzE _) ?_
   refine ACall.mk _ _ hCt ?_
   refine Fz.mk _ (frzRs _) ?_
   refine Fz.mk _ (frzRs _) ?_
   refine ACall.mk _ _ hOd ?_
   refine Fz.mk _ (frzRs _) ?_
   refine ACall.mk _ _ hFt ?_
   refine Need.mk (⟨ClL.mem (.v .nil), no_objs⟩) ?_
   refine sp1 ?_
   refine ACall.mk _ _ hCp ?_
   refine Need.mk (by simp) ?_
   refine Row.mk _ rfl ?_
   refine Need.mk (by simp) ?_
   refine Row.mk _ rfl ?_
   exact Need.mk ⟨[], _, .same, rfl, rfl⟩ trivial
  ·refine AFn.introX (E := En 1 (mdv [] [189, 188]) (cb := [4]) (fz := [15]) (ws := [28, 46, 47, 60])) (en_ok 1 _ _ _ _ _ _) Tryz.func137 rfl rfl rfl fun _ _ => ?_
   refine Num.mk _ hadd ?_
   refine ACall.mk _ _ hRg ?_
   refine nd ?_
   refine Row.mk _ hrow ?_
   refine ACall.mk _ _ hPt ?_
   refine Need.mk (⟨(plainR _), (lenR _)⟩) ?_
   refine apq (A' := []) (B' := _) rfl rfl ?_
   refine Need.mk ((plainR _)) ?_
   refine apq (A' := ([] ++ _)) (B' := _) rfl rfl ?_
   refine Fz.mk _ hfA ?_
   refine ACall.mk _ _ hLs ?_
   refine Fz.mk _ hfL ?_
   refine ACall.mk _ _ hMA ?_
   refine Need.mk (⟨ClL.mem (.us (clE _) .nil), no_objs⟩) ?_
   refine ACall.mk _ _ hBr ?_
   refine sp1 ?_
   refine Fz.mk _ (frzE _) ?_
   refine ACall.mk _ _ hSq ?_
   refine Need.mk (⟨ClL.mem (.us (clE _) .nil), no_objs⟩) ?_
   refine Need.mk (rfl) ?_
   refine Fz.mk _ (frzE _) ?_
   refine ACall.mk _ _ hCt ?_
   refine Fz.mk _ (frzRs _) ?_
   refine Fz.mk _ (frzRs _) ?_
   refine ACall.mk _ _ hOd ?_
   refine Fz.mk _ (frzRs _) ?_
   refine ACall.mk _ _ hFt ?_
   refine Need.mk (⟨ClL.mem (.v .nil), no_objs⟩) ?_
   refine sp1 ?_
   refine ACall.mk _ _ hCp ?_
   refine Need.mk (by simp) ?_
   refine Row.mk _ rfl ?_
   refine Need.mk (by simp) ?_
   refine Row.mk _ rfl ?_
   exact Need.mk ⟨[], _, .same, rfl, rfl⟩ trivial
theorem spec_l5Merge1 (sq : Int) (mem : List Ent) (l0 l1 l2 : List Rn) (snaps : List Int) (x1 x2 x3 : Value) (taken rest : List Rn) (hne : taken ≠ []) (htl : taken.length ≤ 8) (ht : ∀ r ∈ taken, runOk r = true) (h2 : ∀ r ∈ l2, runOk r = true) (hl2 : l2.length ≤ 8)
  (hsn : snaps.length ≤ 1048576) (hsm : (⟨sq, mem, [l0, l1, l2], snaps⟩ : Tre).Small) (ho : ordOk (isort eLess (entsR (taken ++ inL l2 (lowR taken) (highR taken)))) = true) (o : List C) (ob : C) (c : Bool) (hc : mergeOk l0 l1 l2 1 taken snaps = c)
  (hy : c = true → o = [vi sq, .us 54 (mem.map Ent.enc), .us 66 [encLO l0, [.us 68 (rest.map Rn.enc)], [.us 68 ((mergeR l0 l1 l2 1 taken snaps).map Rn.enc)]], .us 3 (snaps.map encI)] ∧ ob = .x) (hn : c = false → o = encE x1 x2 x3 sq mem l0 l1 l2 snaps ∧ ob = .us 68 (rest.map Rn.enc)) :
  AFn Tryz.prog 137 [.agg ((encE x1 x2 x3 sq mem l0 l1 l2 snaps).map .c), av (.int .i64 1), sl (taken.map Rn.enc), .one (.ref 0 0 (.cell 0))] [[.us 68 (rest.map Rn.enc)]] (.tup [.agg o, .one (vb c)]) [[ob]] := by
 have hRg : AFn Tryz.prog 184 [sl (taken.map Rn.enc)] [] (.tup [.one (vs (lowR taken)), .one (vs (highR taken))]) [] := by
  cases taken with
  | nil => exact absurd rfl hne
  | cons x xs => exact spec_l5Range x xs (by rw [List.length_cons] at htl; omega) (run_lens ht)
 have hPt := spec_l5Part l2 (lowR taken) (highR taken) (by omega) (run_lens h2)
 have hIr : ∀ r ∈ inL l2 (lowR taken) (highR taken), runOk r = true := fun r hr => h2 r (List.filter_sublist.subset hr)
 have hOr : ∀ r ∈ offL l2 (lowR taken) (highR taken), runOk r = true := fun r hr => h2 r (List.filter_sublist.subset hr)
 have hIl : (inL l2 (lowR taken) (highR taken)).length ≤ 8 := Nat.le_trans (List.length_filter_le _ _) hl2
 have hOl : (offL l2 (lowR taken) (highR taken)).length ≤ 8 := Nat.le_trans (List.length_filter_le _ _) hl2
 have hcz : mergeOk l0 l1 l2 1 taken snaps = (cutOk (mergeL l0 l1 l2 1 taken snaps) && decide ((mergeR l0 l1 l2 1 taken snaps).length ≤ 8)) := rfl
 have hRz : mergeR l0 l1 l2 1 taken snaps = orderL (offL l2 (lowR taken) (highR taken)) (cutL (mergeL l0 l1 l2 1 taken snaps)) := rfl
 have hLz : mergeL l0 l1 l2 1 taken snaps = squash (isort eLess (entsR (taken ++ inL l2 (lowR taken) (highR taken)))) snaps (decide ((1 : Nat) = 1) || (inL l2 (lowR (taken ++ inL l2 (lowR taken) (highR taken))) (highR (taken ++ inL l2 (lowR taken) (highR taken)))).isEmpty) := rfl
 rw [hc] at hcz
 have hex := exq (inL l2 (lowR taken) (highR taken))
 obtain ⟨q, hq⟩ := hex
 rw [hq] at hPt hIr hIl ho hLz
 have hex := exq (offL l2 (lowR taken) (highR taken))
 obtain ⟨f, hf⟩ := hex
 rw [hf] at hPt hOr hOl hRz
 have hex := exq (lowR taken)
 obtain ⟨lo, hlo⟩ := hex
 have hex := exq (highR taken)
 obtain ⟨hi, hhi⟩ := hex
 rw [hlo, hhi] at hRg hPt
 have hall : ∀ r ∈ taken ++ q, runOk r = true := fun r hr => (List.mem_append.1 hr).elim (ht r) (hIr r)
 have hallne : taken ++ q ≠ [] := fun h => hne (List.append_eq_nil_iff.1 h).1
 have halll : (taken ++ q).length ≤ 16 := by rw [List.length_append]; omega
 have hfA : Frz (.us 68 (([] ++ taken.map Rn.enc) ++ q.map Rn.enc)) (.sl ((taken ++ q).map Rn.enc)) := by rw [List.nil_append, ← List.map_append]; exact frzRs _
 have hex := exq (taken ++ q)
 obtain ⟨a, hae⟩ := hex
 rw [hae] at hall hallne halll hfA ho hLz
 have hLs := spec_l5Lists a (by omega)
 have hMl : ((a.map Rn.ents).flatten).length ≤ 2400 := by
  have := flat_le (b := 150) (L := a.map Rn.ents) fun l hl => by obtain ⟨r, hr, rfl⟩ := List.mem_map.1 hl; exact (runOk_len (hall r hr)).2.1
  rw [List.length_map] at this
  have h3 : a.length * 150 ≤ 16 * 150 := Nat.mul_le_mul_right _ halll
  omega
 have hMA := spec_MergeAll (a.map Rn.ents) (by omega) (by rw [List.length_map]; omega)
 have hfL : Frz (.us 29 (a.map encLs)) (.sl ((a.map Rn.ents).map encX)) := by
  rw [List.map_map]
  exact frz_map fun r _ => .cons .sl .nil
 have hBr : AFn Tryz.prog 187 [.agg ((encF sq mem l0 l1 l2 snaps).map .c), av (.int .i64 2), sl (a.map Rn.enc)] [] (rb (true)) [] := spec_l5Bare2 sq mem l0 l1 l2 snaps a
 have hzl : (isort eLess (a.map Rn.ents).flatten).length ≤ 2400 := by rw [isort_len]; exact hMl
 have hex := exq (isort eLess (a.map Rn.ents).flatten)
 obtain ⟨m, hm⟩ := hex
 have hm' : isort eLess (entsR a) = m := hm
 rw [hm'] at ho hLz
 rw [hm] at hMA hzl
 have hSq := spec_Squash m snaps (by omega) (by omega) (ordOk_OkE ho) true
 rw [show squashed m snaps true = squash m snaps true from if_pos ho] at hSq
 have hzo := squash_ok (snaps := snaps) (last := true) ho
 have hzn := squash_len (l := m) (snaps := snaps) (last := true)
 have hLz : mergeL l0 l1 l2 1 taken snaps = squash m snaps true := by rw [hLz]; rfl
 rw [hLz] at hcz hRz
 have hex := exq (squash m snaps true)
 obtain ⟨z, hz⟩ := hex
 rw [hz] at hSq hzo hzn hcz hRz
 have hCt := spec_l5Cut z (by omega) (ordOk_OkE hzo)
 have hcr := cutL_pos z
 have hcl : (cutL z).length ≤ z.length := cutL_le z
 have hOd := spec_l5Order f (cutL z) (by omega) (by omega) (fun r hr => (runOk_len (hOr r hr)).1) hcr
 rw [← hRz] at hOd
 have hRl : (mergeR l0 l1 l2 1 taken snaps).length ≤ 2408 := by rw [hRz, order_len]; omega
 have hFt := spec_l5Fits (mergeR l0 l1 l2 1 taken snaps) (by rw [hRz, order_len]; omega) c (by rw [hcz, hRz, fits_eq fun r hr => (runOk_len (hOr r hr)).2.1])
 have hCp : AFn Tryz.prog 60 [.agg ((encF sq mem l0 l1 l2 snaps).map .c)] [] (.agg (encTO ⟨sq, mem, [l0, l1, l2], snaps⟩)) [] := spec_l5Copy _ hsm
 have hex := exq (mergeR l0 l1 l2 1 taken snaps)
 obtain ⟨N, hN⟩ := hex
 rw [hN] at hOd hFt hRl hy
 have hrow : ([l0, l1, l2].map encL)[(2 : Nat)]? = some (encL l2) := rfl
 have hadd : IntKind.i64.wrap ((1 : Int) + 1) = (2 : Int) := rfl
 cases c
 ·obtain ⟨ho1, hob⟩ := hn rfl
  rw [ho1, hob]
  refine AFn.introX (E := En 1 (mdv [] [189, 188]) (cb := [4]) (fz := [15]) (ws := [28, 46, 47, 60])) (en_ok 1 _ _ _ _ _ _) Tryz.func137 rfl rfl rfl fun _ _ => ?_
  refine Num.mk _ hadd ?_
  refine ACall.mk _ _ hRg ?_
  refine nd ?_
  refine Row.mk _ hrow ?_
  refine ACall.mk _ _ hPt ?_
  refine Need.mk (⟨(plainR _), (lenR _)⟩) ?_
  refine apq (A' := []) (B' := _) rfl rfl ?_
  refine Need.mk ((plainR _)) ?_
  refine apq (A' := ([] ++ _)) (B' := _) rfl rfl ?_
  refine Fz.mk _ hfA ?_
  refine ACall.mk _ _ hLs ?_
  refine Fz.mk _ hfL ?_
  refine ACall.mk _ _ hMA ?_
  refine Need.mk (⟨ClL.mem (.us (clE _) .nil), no_objs⟩) ?_
  refine ACall.mk _ _ hBr ?_
  refine sp1 ?_
  refine Fz.mk _ (frzE _) ?_
  refine ACall.mk _ _ hSq ?_
  refine Need.mk (⟨ClL.mem (.us (clE _) .nil), no_objs⟩) ?_
  refine Need.mk (rfl) ?_
  refine Fz.mk _ (frzE _) ?_
  refine ACall.mk _ _ hCt ?_
  refine Fz.mk _ (frzRs _) ?_
  refine Fz.mk _ (frzRs _) ?_
  refine ACall.mk _ _ hOd ?_
  refine Fz.mk _ (frzRs _) ?_
  refine ACall.mk _ _ hFt ?_
  refine Need.mk (⟨ClL.mem (.v .nil), no_objs⟩) ?_
  refine sp0 ?_
  exact Need.mk ⟨[], _, .same, rfl, rfl⟩ trivial
 ·obtain ⟨ho1, hob⟩ := hy rfl
  rw [ho1, hob]
  refine AFn.introX (E := En 1 (mdv [] [189, 188]) (cb := [4]) (fz := [15]) (ws := [28, 46, 47, 60])) (en_ok 1 _ _ _ _ _ _) Tryz.func137 rfl rfl rfl fun _ _ => ?_
  refine Num.mk _ hadd ?_
  refine ACall.mk _ _ hRg ?_
  refine nd ?_
  refine Row.mk _ hrow ?_
  refine ACall.mk _ _ hPt ?_
  refine Need.mk (⟨(plainR _), (lenR _)⟩) ?_
  refine apq (A' := []) (B' := _) rfl rfl ?_
  refine Need.mk ((plainR _)) ?_
  refine apq (A' := ([] ++ _)) (B' := _) rfl rfl ?_
  refine Fz.mk _ hfA ?_
  refine ACall.mk _ _ hLs ?_
  refine Fz.mk _ hfL ?_
  refine ACall.mk _ _ hMA ?_
  refine Need.mk (⟨ClL.mem (.us (clE _) .nil), no_objs⟩) ?_
  refine ACall.mk _ _ hBr ?_
  refine sp1 ?_
  refine Fz.mk _ (frzE _) ?_
  refine ACall.mk _ _ hSq ?_
  refine Need.mk (⟨ClL.mem (.us (clE _) .nil), no_objs⟩) ?_
  refine Need.mk (rfl) ?_
  refine Fz.mk _ (frzE _) ?_
  refine ACall.mk _ _ hCt ?_
  refine Fz.mk _ (frzRs _) ?_
  refine Fz.mk _ (frzRs _) ?_
  refine ACall.mk _ _ hOd ?_
  refine Fz.mk _ (frzRs _) ?_
  refine ACall.mk _ _ hFt ?_
  refine Need.mk (⟨ClL.mem (.v .nil), no_objs⟩) ?_
  refine sp1 ?_
  refine ACall.mk _ _ hCp ?_
  refine Need.mk (by simp) ?_
  refine Row.mk _ rfl ?_
  refine Need.mk (by simp) ?_
  refine Row.mk _ rfl ?_
  exact Need.mk ⟨[], _, .same, rfl, rfl⟩ trivial
def TellR (R : List (List C)) (l : List Rn) : Prop := R.length = l.length ∧ ∀ (i : Nat) (row : List C) (r : Rn), R[i]? = some row → l[i]? = some r → row = encO r ∨ row = r.enc
theorem tellO (l : List Rn) : TellR (l.map encO) l := ⟨List.length_map .., fun i row r h1 h2 => by rw [List.getElem?_map, h2] at h1; injection h1 with h1; exact .inl h1.symm⟩
theorem tellE (l : List Rn) : TellR (l.map Rn.enc) l := ⟨List.length_map .., fun i row r h1 h2 => by rw [List.getElem?_map, h2] at h1; injection h1 with h1; exact .inr h1.symm⟩
theorem tell_frz {e : TypeId} {R : List (List C)} {l : List Rn} (h : TellR R l) : Frz (.us e R) (.sl (l.map Rn.enc)) := by
 have key : ∀ (i : Nat) (r r' : List C), R[i]? = some r → (l.map Rn.enc)[i]? = some r' → FrzL r r' := fun i r r' h1 h2 => by
  rw [List.getElem?_map] at h2
  cases hl : l[i]? with
  | none => rw [hl] at h2; cases h2
  | some q =>
   rw [hl] at h2
   injection h2 with h2
   subst h2
   rcases h.2 i r q h1 hl with rfl | rfl
   ·exact .cons (frzE q.ents) (.cons .v .nil)
   ·exact .cons .sl (.cons .v .nil)
 exact .us (by rw [List.length_map]; exact h.1) (fun i r r' h1 h2 => (key i r r' h1 h2).len) fun i r r' j c c' h1 h2 h3 h4 => (key i r r' h1 h2).get j c c' h3 h4
def lvM (R0 R1 R2 : List (List C)) : List (List C) := [[.us 68 R0], [.us 68 R1], [.us 68 R2]]
def encMx (sq : Int) (mem : List Ent) (R0 R1 R2 : List (List C)) (snaps : List Int) : List C := [vi sq, .us 54 (mem.map Ent.enc), .us 66 (lvM R0 R1 R2), .us 3 (snaps.map encI)]
theorem lvM_frz {e : TypeId} {R0 R1 R2 : List (List C)} {l0 l1 l2 : List Rn} (h0 : TellR R0 l0) (h1 : TellR R1 l1) (h2 : TellR R2 l2) : Frz (.us e (lvM R0 R1 R2)) (.sl ([l0, l1, l2].map encL)) :=
 FrzLL.frz (.cons (.cons (tell_frz h0) .nil) (.cons (.cons (tell_frz h1) .nil) (.cons (.cons (tell_frz h2) .nil) .nil)))
theorem compact_mergeOk {sq : Int} {mem : List Ent} {l0 l1 l2 : List Rn} {snaps : List Int} (hb : treeOk ⟨sq, mem, [l0, l1, l2], snaps⟩ = true) {lv : Nat} {taken l : List Rn} (hlv : lv = 0 ∧ taken = l0 ∧ l = l1 ∨ lv = 1 ∧ l = l2 ∧ ∃ p, ∃ h : p < l1.length, taken = [l1[p]]) :
  ordOk (isort eLess (entsR (taken ++ inL l (lowR taken) (highR taken)))) = true ∧ (∀ r ∈ taken, runOk r = true) ∧ taken.length ≤ 8 := by
 obtain ⟨a, ⟨v0, v1, v2⟩, a7, a8⟩ := treeP.1 (show treeOk3 sq mem l0 l1 l2 snaps = true from hb)
 obtain ⟨⟨p2, p1, p0⟩, b21, b20, b2m, b10, b1m, b0m⟩ := layersP.1 a8
 have r0 := (levB_ok v0).2
 have r1 := (levB_ok v1).2
 have r2 := (levB_ok v2).2
 have he : ∀ {taken l : List Rn}, (∀ r ∈ taken, runOk r = true) → (∀ r ∈ l, runOk r = true) → ∀ e ∈ entsR (taken ++ inL l (lowR taken) (highR taken)), entOk e = true := fun {taken l} ht hr e he => by
  obtain ⟨r, hrm, her⟩ := entsR_mem.1 he
  rcases List.mem_append.1 hrm with h | h
  ·exact ordOk_all (runOk_len (ht r h)).2.2.1 e her
  ·exact ordOk_all (runOk_len (hr r (List.filter_sublist.subset h))).2.2.1 e her
 rcases hlv with ⟨_, rfl, rfl⟩ | ⟨_, rfl, p, hp, rfl⟩
 ·exact ⟨dif_ord (merged_of (snaps := snaps) (bottom := true) r1 (levB_ap v1) r0 p0 b10).dif (he r0 r1), r0, by have := (levB_ok v0).1; omega⟩
 ·have hpm : l1[p] ∈ l1 := List.getElem_mem hp
  have ht : ∀ r ∈ [l1[p]], runOk r = true := fun r hr => by rw [List.mem_singleton.1 hr]; exact r1 _ hpm
  have hAb : Above (entsR l) (entsR [l1[p]]) := fun x hx y hy hk => b21 x (by
   obtain ⟨r, hr, her⟩ := entsR_mem.1 hx
   rw [List.mem_singleton.1 hr] at her
   exact entsR_mem.2 ⟨_, hpm, her⟩) y hy hk
  exact ⟨dif_ord (merged_of (snaps := snaps) (bottom := true) r2 (levB_ap v2) ht (by simp) hAb).dif (he ht r2), ht, by simp⟩
theorem compactD_0 {sq : Int} {mem : List Ent} {l0 l1 l2 : List Rn} {snaps : List Int} {pick : Int} (h : 0 < l0.length) : compactD 0 pick ⟨sq, mem, [l0, l1, l2], snaps⟩ = if mergeOk l0 l1 l2 0 l0 snaps then (⟨sq, mem, [[], mergeR l0 l1 l2 0 l0 snaps, l2], snaps⟩, true) else (⟨sq, mem, [l0, l1, l2], snaps⟩, false) := by
 unfold compactD; dsimp only; rw [if_pos ⟨rfl, h⟩]
theorem compactD_1 {sq : Int} {mem : List Ent} {l0 l1 l2 : List Rn} {snaps : List Int} {p : Nat} (h : p < l1.length) : compactD 1 p ⟨sq, mem, [l0, l1, l2], snaps⟩ = if mergeOk l0 l1 l2 1 [l1[p]] snaps then (⟨sq, mem, [l0, l1.take p ++ l1.drop (p + 1), mergeR l0 l1 l2 1 [l1[p]] snaps], snaps⟩, true) else (⟨sq, mem, [l0, l1, l2], snaps⟩, false) := by
 have htk : (l1.drop p).take 1 = [l1[p]] := by rw [List.drop_eq_getElem_cons h]; rfl
 unfold compactD
 dsimp only
 rw [if_neg (fun h => absurd h.1 (by decide)), if_pos ⟨rfl, by omega, by omega⟩, Int.toNat_natCast, htk]
theorem compactD_n {sq : Int} {mem : List Ent} {l0 l1 l2 : List Rn} {snaps : List Int} {lv pick : Int} (h0 : ¬ (lv = 0 ∧ 0 < l0.length)) (h1 : ¬ (lv = 1 ∧ 0 ≤ pick ∧ pick < l1.length)) : compactD lv pick ⟨sq, mem, [l0, l1, l2], snaps⟩ = (⟨sq, mem, [l0, l1, l2], snaps⟩, false) := by
 unfold compactD; dsimp only; rw [if_neg h0, if_neg h1]
theorem spec_l5Compact_no (sq : Int) (mem : List Ent) (l0 l1 l2 : List Rn) (snaps : List Int) (x1 x2 x3 : Value) (hb : treeOk ⟨sq, mem, [l0, l1, l2], snaps⟩ = true) (lv pick : Int) (hc : (compactD lv pick ⟨sq, mem, [l0, l1, l2], snaps⟩).2 = false) :
  AFn Tryz.prog 78 [.agg ((encE x1 x2 x3 sq mem l0 l1 l2 snaps).map .c), av (.int .i64 lv), av (.int .i64 pick)] [] (.tup [.agg (encE x1 x2 x3 sq mem l0 l1 l2 snaps), .one (vb false)]) [] := by
 have hsm := Tre.small_ok hb
 obtain ⟨⟨_, _, a3, _, a5⟩, ⟨v0, v1, v2⟩, _, _⟩ := treeP.1 (show treeOk3 sq mem l0 l1 l2 snaps = true from hb)
 have hl0 := (levB_ok v0).1
 have hl1 := (levB_ok v1).1
 have hl2 := (levB_ok v2).1
 have g0 : ([l0, l1, l2].map encL)[(0 : Nat)]? = some (encL l0) := rfl
 have g1 : ([l0, l1, l2].map encL)[(1 : Nat)]? = some (encL l1) := rfl
 have n0 : (l0.map Rn.enc).length = l0.length := List.length_map ..
 have n1 : (l1.map Rn.enc).length = l1.length := List.length_map ..
 by_cases c0 : lv = 0
 ·subst c0
  by_cases h0 : 0 < l0.length
  ·have hne : l0 ≠ [] := fun e => by rw [e] at h0; simp at h0
   obtain ⟨k1, k2, k3⟩ := compact_mergeOk hb (.inl ⟨rfl, rfl, rfl⟩)
   have hm : mergeOk l0 l1 l2 0 l0 snaps = false := by
    rw [compactD_0 h0] at hc
    by_cases hm : mergeOk l0 l1 l2 0 l0 snaps = true
    ·rw [if_pos hm] at hc; cases hc
    ·exact Bool.eq_false_iff.2 hm
   have hM := spec_l5Merge0 sq mem l0 l1 l2 snaps x1 x2 x3 l0 [] hne k3 k2 (levB_ok v1).2 hl1 (levB_ok v2).2 hl2 hsm.2.2.2 hsm k1 _ _ false hm (fun h => by cases h) fun _ => ⟨rfl, rfl⟩
   refine AFn.introX (E := En 0 (mdv [137] []) (cb := [3]) (ws := [13, 21])) (en_ok 0 _ _ _ _ _ _) Tryz.func78 rfl rfl rfl fun _ _ => ?_
   refine sp1 ?_
   refine nd ?_
   refine Row.mk _ g0 ?_
   refine spT (by omega) fun h2 => ?_
   refine nd ?_
   refine Row.mk _ g0 ?_
   refine ACall.mk _ _ hM ?_
   refine sp0 ?_
   refine Need.mk (rfl) ?_
   exact Need.mk ⟨[], _, .same, rfl, rfl⟩ trivial
  ·refine AFn.introX (E := En 0 (mdv [137] []) (cb := [3]) (ws := [13, 21])) (en_ok 0 _ _ _ _ _ _) Tryz.func78 rfl rfl rfl fun _ _ => ?_
   refine sp1 ?_
   refine nd ?_
   refine Row.mk _ g0 ?_
   refine spF (by omega) fun h2 => ?_
   refine sp0 ?_
   exact Need.mk ⟨[], _, .same, rfl, rfl⟩ trivial
 ·by_cases c1 : lv = 1
  ·subst c1
   by_cases hp0 : 0 ≤ pick
   ·by_cases hp1 : pick < l1.length
    ·obtain ⟨p, rfl⟩ : ∃ p : Nat, pick = p := ⟨pick.toNat, by omega⟩
     have hpl : p < l1.length := by omega
     have htk : (l1.drop p).take 1 = [l1[p]] := by rw [List.drop_eq_getElem_cons hpl]; rfl
     obtain ⟨k1, k2, k3⟩ := compact_mergeOk hb (lv := 1) (taken := [l1[p]]) (.inr ⟨rfl, rfl, p, hpl, rfl⟩)
     have hm : mergeOk l0 l1 l2 1 [l1[p]] snaps = false := by
      rw [compactD_1 hpl] at hc
      by_cases hm : mergeOk l0 l1 l2 1 [l1[p]] snaps = true
      ·rw [if_pos hm] at hc; cases hc
      ·exact Bool.eq_false_iff.2 hm
     have hM := spec_l5Merge1 sq mem l0 l1 l2 snaps x1 x2 x3 [l1[p]] (l1.take p ++ l1.drop (p + 1)) (by simp) k3 k2 (levB_ok v2).2 hl2 hsm.2.2.2 hsm k1 _ _ false hm (fun h => by cases h) fun _ => ⟨rfl, rfl⟩
     have e1 : List.take ((p : Int) - 0).toNat (List.drop (Int.toNat 0) (List.map Rn.enc l1)) = (l1.take p).map Rn.enc := by
      rw [show ((p : Int) - 0).toNat = p by omega, List.map_take]; rfl
     have e2 : List.take (↑(List.map Rn.enc l1).length - ((p + 1 : Nat) : Int)).toNat (List.drop (p + 1) (List.map Rn.enc l1)) = (l1.drop (p + 1)).map Rn.enc := by
      rw [n1, List.map_drop, List.take_of_length_le (by rw [List.length_drop, List.length_map]; omega)]
     have e3 : List.take ((((p + 1 : Nat) : Int) - (p : Int)).toNat) (List.drop (Int.toNat (p : Int)) (List.map Rn.enc l1)) = [l1[p]].map Rn.enc := by
      rw [show (((p + 1 : Nat) : Int) - (p : Int)).toNat = 1 by omega, ← htk, List.map_take, List.map_drop]; rfl
     have hM2 : AFn Tryz.prog 137 [.agg ((encE x1 x2 x3 sq mem l0 l1 l2 snaps).map .c), av (.int .i64 1), sl (List.take ((((p + 1 : Nat) : Int) - (p : Int)).toNat) (List.drop (Int.toNat (p : Int)) (List.map Rn.enc l1))), .one (.ref 0 0 (.cell 0))] [[.us 68 (([] ++ List.take ((p : Int) - 0).toNat (List.drop (Int.toNat 0) (List.map Rn.enc l1))) ++ List.take (↑(List.map Rn.enc l1).length - ((p + 1 : Nat) : Int)).toNat (List.drop (p + 1) (List.map Rn.enc l1)))]] (.tup [.agg (encE x1 x2 x3 sq mem l0 l1 l2 snaps), .one (vb false)]) [[.us 68 ((l1.take p ++ l1.drop (p + 1)).map Rn.enc)]] := by
      rw [e1, e2, e3, List.nil_append, ← List.map_append]; exact hM
     refine AFn.introX (E := En 0 (mdv [137] []) (cb := [3]) (ws := [13, 37, 45, 52, 61])) (en_ok 0 _ _ _ _ _ _) Tryz.func78 rfl rfl rfl fun _ _ => ?_
     refine sp0 ?_
     refine sp1 ?_
     refine sp1 ?_
     refine nd ?_
     refine Row.mk _ g1 ?_
     refine spT (by omega) fun h4 => ?_
     refine nd ?_
     refine Row.mk _ g1 ?_
     refine Need.mk (⟨by omega, by omega, by omega, lenR _⟩) ?_
     refine Need.mk (⟨(Plain.take (Plain.drop (plainR _) _) _), (len_take (len_drop (lenR _) _) _)⟩) ?_
     refine apq (A' := []) (B' := _) rfl rfl ?_
     refine nd ?_
     refine Row.mk _ g1 ?_
     refine Num.mk _ (wrapS (by omega)) ?_
     refine Need.mk (⟨by omega, by omega, by omega, lenR _⟩) ?_
     refine Need.mk (⟨(Plain.take (Plain.drop (plainR _) _) _), (len_take (len_drop (lenR _) _) _)⟩) ?_
     refine apq (A' := ([] ++ _)) (B' := _) rfl rfl ?_
     refine Need.mk (rfl) ?_
     refine nd ?_
     refine Row.mk _ g1 ?_
     refine Num.mk _ (wrapS (by omega)) ?_
     refine Need.mk (⟨by omega, by omega, by omega, lenR _⟩) ?_
     refine ACall.mk _ _ hM2 ?_
     refine sp0 ?_
     refine Need.mk (rfl) ?_
     exact Need.mk ⟨[], _, .same, rfl, rfl⟩ trivial
    ·refine AFn.introX (E := En 0 (mdv [137] []) (cb := [3]) (ws := [13, 37])) (en_ok 0 _ _ _ _ _ _) Tryz.func78 rfl rfl rfl fun _ _ => ?_
     refine sp0 ?_
     refine sp1 ?_
     refine spT (by omega) fun h3 => ?_
     refine nd ?_
     refine Row.mk _ g1 ?_
     refine spF (by omega) fun h4 => ?_
     exact Need.mk ⟨[], _, .same, rfl, rfl⟩ trivial
   ·refine AFn.introX (E := En 0 (mdv [137] []) (cb := [3]) (ws := [13, 37])) (en_ok 0 _ _ _ _ _ _) Tryz.func78 rfl rfl rfl fun _ _ => ?_
    refine sp0 ?_
    refine sp1 ?_
    refine spF (by omega) fun h3 => ?_
    exact Need.mk ⟨[], _, .same, rfl, rfl⟩ trivial
  ·refine AFn.introX (E := En 0 (mdv [137] []) (cb := [3]) (ws := [13])) (en_ok 0 _ _ _ _ _ _) Tryz.func78 rfl rfl rfl fun _ _ => ?_
   refine sqF (by omega) fun h1 => ?_
   refine sqF (by omega) fun h2 => ?_
   exact Need.mk ⟨[], _, .same, rfl, rfl⟩ trivial
theorem spec_l5Compact_ok (sq : Int) (mem : List Ent) (l0 l1 l2 : List Rn) (snaps : List Int) (hb : treeOk ⟨sq, mem, [l0, l1, l2], snaps⟩ = true) (lv pick : Int) (hc : (compactD lv pick ⟨sq, mem, [l0, l1, l2], snaps⟩).2 = true) :
  ∃ R0 R1 R2 k0 k1 k2, TellR R0 k0 ∧ TellR R1 k1 ∧ TellR R2 k2 ∧ (compactD lv pick ⟨sq, mem, [l0, l1, l2], snaps⟩).1 = ⟨sq, mem, [k0, k1, k2], snaps⟩ ∧
  ∀ x1 x2 x3, AFn Tryz.prog 78 [.agg ((encE x1 x2 x3 sq mem l0 l1 l2 snaps).map .c), av (.int .i64 lv), av (.int .i64 pick)] [] (.tup [.agg (encMx sq mem R0 R1 R2 snaps), .one (vb true)]) [] := by
 have hsm := Tre.small_ok hb
 obtain ⟨⟨_, _, a3, _, a5⟩, ⟨v0, v1, v2⟩, _, _⟩ := treeP.1 (show treeOk3 sq mem l0 l1 l2 snaps = true from hb)
 have hl0 := (levB_ok v0).1
 have hl1 := (levB_ok v1).1
 have hl2 := (levB_ok v2).1
 have g0 : ([l0, l1, l2].map encL)[(0 : Nat)]? = some (encL l0) := rfl
 have g1 : ([l0, l1, l2].map encL)[(1 : Nat)]? = some (encL l1) := rfl
 have n0 : (l0.map Rn.enc).length = l0.length := List.length_map ..
 have n1 : (l1.map Rn.enc).length = l1.length := List.length_map ..
 by_cases c0 : lv = 0 ∧ 0 < l0.length
 ·obtain ⟨rfl, h0⟩ := c0
  rw [compactD_0 h0] at hc ⊢
  have hne : l0 ≠ [] := fun e => by rw [e] at h0; simp at h0
  obtain ⟨k1, k2, k3⟩ := compact_mergeOk hb (.inl ⟨rfl, rfl, rfl⟩)
  by_cases hm : mergeOk l0 l1 l2 0 l0 snaps = true
  ·rw [if_pos hm]
   refine ⟨_, _, _, [], mergeR l0 l1 l2 0 l0 snaps, l2, tellE [], tellE _, tellO l2, rfl, fun x1 x2 x3 => ?_⟩
   have hM := spec_l5Merge0 sq mem l0 l1 l2 snaps x1 x2 x3 l0 [] hne k3 k2 (levB_ok v1).2 hl1 (levB_ok v2).2 hl2 hsm.2.2.2 hsm k1 _ _ true hm (fun _ => ⟨rfl, rfl⟩) fun h => by cases h
   have hex := exq ((mergeR l0 l1 l2 0 l0 snaps).map Rn.enc)
   obtain ⟨N, hN⟩ := hex
   rw [hN] at hM
   rw [hN]
   refine AFn.introX (E := En 0 (mdv [137] []) (cb := [3]) (ws := [13, 21])) (en_ok 0 _ _ _ _ _ _) Tryz.func78 rfl rfl rfl fun _ _ => ?_
   refine sp1 ?_
   refine nd ?_
   refine Row.mk _ g0 ?_
   refine spT (by omega) fun h2 => ?_
   refine nd ?_
   refine Row.mk _ g0 ?_
   refine ACall.mk _ _ hM ?_
   refine sp1 ?_
   refine Need.mk (rfl) ?_
   exact Need.mk ⟨[], _, .same, rfl, rfl⟩ trivial
  ·rw [if_neg hm] at hc; cases hc
 ·by_cases c1 : lv = 1 ∧ 0 ≤ pick ∧ pick < l1.length
  ·obtain ⟨rfl, hp0, hp1⟩ := c1
   obtain ⟨p, rfl⟩ : ∃ p : Nat, pick = p := ⟨pick.toNat, by omega⟩
   have hpl : p < l1.length := by omega
   rw [compactD_1 hpl] at hc ⊢
   have htk : (l1.drop p).take 1 = [l1[p]] := by rw [List.drop_eq_getElem_cons hpl]; rfl
   obtain ⟨k1, k2, k3⟩ := compact_mergeOk hb (lv := 1) (taken := [l1[p]]) (.inr ⟨rfl, rfl, p, hpl, rfl⟩)
   by_cases hm : mergeOk l0 l1 l2 1 [l1[p]] snaps = true
   ·rw [if_pos hm]
    refine ⟨_, _, _, l0, l1.take p ++ l1.drop (p + 1), mergeR l0 l1 l2 1 [l1[p]] snaps, tellO l0, tellE _, tellE _, rfl, fun x1 x2 x3 => ?_⟩
    have hM := spec_l5Merge1 sq mem l0 l1 l2 snaps x1 x2 x3 [l1[p]] (l1.take p ++ l1.drop (p + 1)) (by simp) k3 k2 (levB_ok v2).2 hl2 hsm.2.2.2 hsm k1 _ _ true hm (fun _ => ⟨rfl, rfl⟩) fun h => by cases h
    have e1 : List.take ((p : Int) - 0).toNat (List.drop (Int.toNat 0) (List.map Rn.enc l1)) = (l1.take p).map Rn.enc := by
     rw [show ((p : Int) - 0).toNat = p by omega, List.map_take]; rfl
    have e2 : List.take (↑(List.map Rn.enc l1).length - ((p + 1 : Nat) : Int)).toNat (List.drop (p + 1) (List.map Rn.enc l1)) = (l1.drop (p + 1)).map Rn.enc := by
     rw [n1, List.map_drop, List.take_of_length_le (by rw [List.length_drop, List.length_map]; omega)]
    have e3 : List.take ((((p + 1 : Nat) : Int) - (p : Int)).toNat) (List.drop (Int.toNat (p : Int)) (List.map Rn.enc l1)) = [l1[p]].map Rn.enc := by
     rw [show (((p + 1 : Nat) : Int) - (p : Int)).toNat = 1 by omega, ← htk, List.map_take, List.map_drop]; rfl
    have hex := exq ((mergeR l0 l1 l2 1 [l1[p]] snaps).map Rn.enc)
    obtain ⟨N, hN⟩ := hex
    have hex := exq ((l1.take p ++ l1.drop (p + 1)).map Rn.enc)
    obtain ⟨W, hW⟩ := hex
    rw [hN, hW] at hM
    rw [hN, hW]
    have hM2 : AFn Tryz.prog 137 [.agg ((encE x1 x2 x3 sq mem l0 l1 l2 snaps).map .c), av (.int .i64 1), sl (List.take ((((p + 1 : Nat) : Int) - (p : Int)).toNat) (List.drop (Int.toNat (p : Int)) (List.map Rn.enc l1))), .one (.ref 0 0 (.cell 0))] [[.us 68 (([] ++ List.take ((p : Int) - 0).toNat (List.drop (Int.toNat 0) (List.map Rn.enc l1))) ++ List.take (↑(List.map Rn.enc l1).length - ((p + 1 : Nat) : Int)).toNat (List.drop (p + 1) (List.map Rn.enc l1)))]] (.tup [.agg [vi sq, .us 54 (mem.map Ent.enc), .us 66 [encLO l0, [.us 68 W], [.us 68 N]], .us 3 (snaps.map encI)], .one (vb true)]) [[.x]] := by
     rw [e1, e2, e3, List.nil_append, ← List.map_append, hW]; exact hM
    refine AFn.introX (E := En 0 (mdv [137] []) (cb := [3]) (ws := [13, 37, 45, 52, 61])) (en_ok 0 _ _ _ _ _ _) Tryz.func78 rfl rfl rfl fun _ _ => ?_
    refine sp0 ?_
    refine sp1 ?_
    refine sp1 ?_
    refine nd ?_
    refine Row.mk _ g1 ?_
    refine spT (by omega) fun h4 => ?_
    refine nd ?_
    refine Row.mk _ g1 ?_
    refine Need.mk (⟨by omega, by omega, by omega, lenR _⟩) ?_
    refine Need.mk (⟨(Plain.take (Plain.drop (plainR _) _) _), (len_take (len_drop (lenR _) _) _)⟩) ?_
    refine apq (A' := []) (B' := _) rfl rfl ?_
    refine nd ?_
    refine Row.mk _ g1 ?_
    refine Num.mk _ (wrapS (by omega)) ?_
    refine Need.mk (⟨by omega, by omega, by omega, lenR _⟩) ?_
    refine Need.mk (⟨(Plain.take (Plain.drop (plainR _) _) _), (len_take (len_drop (lenR _) _) _)⟩) ?_
    refine apq (A' := ([] ++ _)) (B' := _) rfl rfl ?_
    refine Need.mk (rfl) ?_
    refine nd ?_
    refine Row.mk _ g1 ?_
    refine Num.mk _ (wrapS (by omega)) ?_
    refine Need.mk (⟨by omega, by omega, by omega, lenR _⟩) ?_
    refine ACall.mk _ _ hM2 ?_
    refine sp1 ?_
    refine Need.mk (rfl) ?_
    exact Need.mk ⟨[], _, .same, rfl, rfl⟩ trivial
   ·rw [if_neg hm] at hc; cases hc
  ·rw [compactD_n c0 c1] at hc; cases hc
theorem impl_treeCompact0 (sq : Int) (mem : List Ent) (l0 l1 l2 : List Rn) (snaps : List Int) (hb : treeOk ⟨sq, mem, [l0, l1, l2], snaps⟩ = true) (pick : Int) (h0 : 0 < l0.length) (o : List C) (c : Bool) (hc : mergeOk l0 l1 l2 0 l0 snaps = c)
  (hy : c = true → o = encF sq mem [] (mergeR l0 l1 l2 0 l0 snaps) l2 snaps) (hn : c = false → o = encF sq mem l0 l1 l2 snaps) :
  AFn Tryz.prog 80 [.agg ((encF sq mem l0 l1 l2 snaps).map .c), av (.int .i64 0), av (.int .i64 pick)] [] (.tup [.agg o, .one (vb c)]) [] := by
 obtain ⟨⟨_, _, a3, _, a5⟩, ⟨v0, v1, v2⟩, _, _⟩ := treeP.1 (show treeOk3 sq mem l0 l1 l2 snaps = true from hb)
 have hsn := (snaps_iff.1 a5).1
 have hl0 := (levB_ok v0).1
 have hl1 := (levB_ok v1).1
 have hl2 := (levB_ok v2).1
 have r1 := (levB_ok v1).2
 have r2 := (levB_ok v2).2
 have ap1 := levB_ap v1
 have ap2 := levB_ap v2
 obtain ⟨k1, k2, k3⟩ := compact_mergeOk hb (.inl ⟨rfl, rfl, rfl⟩)
 have hTk := impl_takeRuns0 l0 pick (by omega)
 rw [decide_eq_true h0] at hTk
 have hne : l0 ≠ [] := fun e => by rw [e] at h0; simp at h0
 have hRg : AFn Tryz.prog 139 [sl (l0.map Rn.enc)] [] (.tup [.one (vs (lowR l0)), .one (vs (highR l0))]) [] := by
  skip
  cases hT : l0 with
  | nil => exact absurd hT hne
  | cons x xs => rw [hT] at k2 k3; exact impl_rangeOf x xs (by rw [List.length_cons] at k3; omega) (run_lens k2)
 have hIr : ∀ r ∈ inL l1 (lowR l0) (highR l0), runOk r = true := fun r hr => r1 r (List.filter_sublist.subset hr)
 have hIl : (inL l1 (lowR l0) (highR l0)).length ≤ 8 := Nat.le_trans (List.length_filter_le _ _) hl1
 have hcz : mergeOk l0 l1 l2 0 l0 snaps = (cutOk (mergeL l0 l1 l2 0 l0 snaps) && decide ((mergeR l0 l1 l2 0 l0 snaps).length ≤ 8)) := rfl
 have hRz : mergeR l0 l1 l2 0 l0 snaps = orderL (offL l1 (lowR l0) (highR l0)) (cutL (mergeL l0 l1 l2 0 l0 snaps)) := rfl
 have hLz : mergeL l0 l1 l2 0 l0 snaps = squash (isort eLess (entsR (l0 ++ inL l1 (lowR l0) (highR l0)))) snaps (decide ((0 : Nat) = 1) || (inL l2 (lowR (l0 ++ inL l1 (lowR l0) (highR l0))) (highR (l0 ++ inL l1 (lowR l0) (highR l0)))).isEmpty) := rfl
 rw [hc] at hcz
 have hms := meet_split (low := lowR l0) (high := highR l0) r1 ap1
 have hfl := from_le (low := lowR l0) (high := highR l0) r1 ap1
 have hMA0 := fun z ho hcu hzk => (merge_apart (taken := l0) (z := z) r1 ap1 k2 hne ho hcu hzk).2.2
 have hdif := (merged_of (snaps := snaps) (bottom := true) r1 ap1 k2 (layersP.1 (treeP.1 (show treeOk3 sq mem l0 l1 l2 snaps = true from hb)).2.2.2).1.2.2 (layersP.1 (treeP.1 (show treeOk3 sq mem l0 l1 l2 snaps = true from hb)).2.2.2).2.2.2.2.1).dif
 have hex := exq (fromI l1 (lowR l0))
 obtain ⟨kf, hkf⟩ := hex
 have hex := exq (toI l1 (highR l0))
 obtain ⟨kt, hkt⟩ := hex
 have hMt := impl_meeting l1 (lowR l0) (highR l0) (by omega) r1 ap1 kf kt _ hkf hkt rfl
 rw [hkf, hkt] at hms hfl hMA0
 have hex := exq (max kf kt)
 obtain ⟨kb, hkb⟩ := hex
 rw [hkb] at hMt hms hfl hMA0
 have hex := exq (inL l1 (lowR l0) (highR l0))
 obtain ⟨q, hq⟩ := hex
 rw [hq] at hIr hIl k1 hLz hms hdif
 have hqn : q.length = kb - kf := by rw [hms.1, List.length_drop, List.length_take]; omega
 have hoff := hms.2
 rw [hoff] at hRz hMA0
 have hE1 : List.take (((kb : Nat) : Int) - ((kf : Nat) : Int)).toNat (List.drop (Int.toNat ((kf : Nat) : Int)) (List.map Rn.enc l1)) = q.map Rn.enc := by
  rw [show (((kb : Nat) : Int) - ((kf : Nat) : Int)).toNat = kb - kf by omega, Int.toNat_natCast, hms.1, List.map_drop, List.map_take, List.drop_take]
 have hE2 : List.take (((kf : Nat) : Int) - 0).toNat (List.drop (Int.toNat 0) (List.map Rn.enc l1)) = (l1.take kf).map Rn.enc := by
  rw [show (((kf : Nat) : Int) - 0).toNat = kf by omega, List.map_take]; rfl
 have hln : (l1.map Rn.enc).length = l1.length := List.length_map ..
 have hE3 : List.take (((l1.map Rn.enc).length : Nat) - ((kb : Nat) : Int)).toNat (List.drop (Int.toNat ((kb : Nat) : Int)) (List.map Rn.enc l1)) = (l1.drop kb).map Rn.enc := by
  rw [hln, Int.toNat_natCast, List.map_drop, List.take_of_length_le (by rw [List.length_drop, List.length_map]; omega)]
 have hfX : Frz (.us 66 [[.sl (l0.map Rn.enc)], [.sl (List.take (((kb : Nat) : Int) - ((kf : Nat) : Int)).toNat (List.drop (Int.toNat ((kf : Nat) : Int)) (List.map Rn.enc l1)))]]) (.sl ([l0, q].map encL)) := by
  rw [hE1]; exact FrzLL.frz (.cons (.cons .sl .nil) (.cons (.cons .sl .nil) .nil))
 have hK := slices_ConcatR [l0, q] (by simp) (by simp; omega) (by simp; omega)
 rw [show [l0, q].flatten = l0 ++ q by simp] at hK
 have hall : ∀ r ∈ l0 ++ q, runOk r = true := fun r hr => (List.mem_append.1 hr).elim (k2 r) (hIr r)
 have hallne : l0 ++ q ≠ [] := fun h => hne (List.append_eq_nil_iff.1 h).1
 have halll : (l0 ++ q).length ≤ 16 := by rw [List.length_append]; omega
 have hex := exq (l0 ++ q)
 obtain ⟨a, hae⟩ := hex
 rw [hae] at hall hallne halll k1 hLz hK hdif
 have hEn := impl_entsOf a (by omega)
 have hMl : ((a.map Rn.ents).flatten).length ≤ 1048576 := by
  have := flat_le (b := 150) (L := a.map Rn.ents) fun l hl => by obtain ⟨r, hr, rfl⟩ := List.mem_map.1 hl; exact (runOk_len (hall r hr)).2.1
  rw [List.length_map] at this
  have h3 : a.length * 150 ≤ 16 * 150 := Nat.mul_le_mul_right _ halll
  omega
 have hMA := impl_MergeAll (a.map Rn.ents) hMl (by rw [List.length_map]; omega)
 have hfL : Frz (.us 29 (a.map encLs)) (.sl ((a.map Rn.ents).map encX)) := by
  rw [List.map_map]
  exact frz_map fun r _ => .cons .sl .nil
 have hml : (isort eLess (a.map Rn.ents).flatten).length ≤ 2400 := by
  rw [isort_len]
  have := flat_le (b := 150) (L := a.map Rn.ents) fun l hl => by obtain ⟨r, hr, rfl⟩ := List.mem_map.1 hl; exact (runOk_len (hall r hr)).2.1
  rw [List.length_map] at this
  have h3 : a.length * 150 ≤ 16 * 150 := Nat.mul_le_mul_right _ halll
  omega
 have hmpos : 0 < (isort eLess (a.map Rn.ents).flatten).length := by
  rw [isort_len]
  cases a with
  | nil => exact absurd rfl hallne
  | cons x xs => rw [List.map_cons, List.flatten_cons, List.length_append]; have := (runOk_len (hall x (List.mem_cons_self ..))).1; omega
 have hmp := isort_perm eLess (a.map Rn.ents).flatten
 have hmw := dif_pw (show (a.map Rn.ents).flatten.Pairwise Dif from hdif)
 have hex := exq (isort eLess (a.map Rn.ents).flatten)
 obtain ⟨m, hm⟩ := hex
 have hm' : isort eLess (entsR a) = m := hm
 rw [hm'] at k1 hLz
 rw [hm] at hMA hml hmpos hmp hmw
 have hmlow := lowR_head hall hallne hmp hmw hmpos
 have hmhigh := highR_last hall hallne hmp hmw hmpos
 have hmn : (m.map Ent.enc).length = m.length := List.length_map ..
 have gm0 : (m.map Ent.enc)[(0 : Nat)]? = some (m[0]).enc := map_get Ent.enc m 0 hmpos
 have gm1 : (m.map Ent.enc)[m.length - 1]? = some (m[m.length - 1]'(by omega)).enc := map_get Ent.enc m (m.length - 1) (by omega)
 have hsubm : IntKind.i64.wrap ((((m.map Ent.enc).length : Nat) : Int) - 1) = ((m.length - 1 : Nat) : Int) := by rw [hmn]; exact wrapI' (by omega) (by omega)
 have hme := meet_empty (low := lowR a) (high := highR a) r2 ap2
 rw [← hmlow, ← hmhigh] at hme
 have hex := exq (fromI l2 m[0].key)
 obtain ⟨jf, hjf⟩ := hex
 have hex := exq (max (fromI l2 m[0].key) (toI l2 (m[m.length - 1]'(by omega)).key))
 obtain ⟨jt, hjt⟩ := hex
 have hMt2 := impl_meeting l2 m[0].key (m[m.length - 1]'(by omega)).key (by omega) r2 ap2 _ _ _ hjf rfl (by rw [← hjt, ← hjf])
 rw [hjt, hjf] at hme
 have hex := exq ((((jf : Nat) : Int) == ((jt : Nat) : Int)))
 obtain ⟨b, hb0⟩ := hex
 have hb1 : decide (jf = jt) = b := by rw [← hb0, Bool.eq_iff_iff, decide_eq_true_eq, beq_iff_eq]; omega
 have hLz : mergeL l0 l1 l2 0 l0 snaps = squash m snaps b := by
  rw [hLz, ← hmlow, ← hmhigh, hme, hb1]; rfl
 have hSq := impl_Squash m snaps (by omega) (by omega) (ordOk_OkE k1) b
 rw [show squashed m snaps b = squash m snaps b from if_pos k1] at hSq
 have hzo := squash_ok (snaps := snaps) (last := b) k1
 have hzn := squash_len (l := m) (snaps := snaps) (last := b)
 have hlike : ∀ e ∈ squash m snaps b, ∃ e' ∈ entsR (l0 ++ inL l1 (lowR l0) (highR l0)), e.key = e'.key := fun e he => by
  obtain ⟨e', h1, h2⟩ := squash_mem he
  exact ⟨e', by rw [hq, hae]; exact hmp.mem_iff.1 h1, h2.2⟩
 rw [hLz] at hcz hRz
 have hex := exq (squash m snaps b)
 obtain ⟨z, hz⟩ := hex
 rw [hz] at hSq hzo hzn hcz hRz hlike
 have hw1 : IntKind.i64.wrap (((kb : Nat) : Int) - ((kf : Nat) : Int)) = ((kb - kf : Nat) : Int) := wrapI' (by omega) (by omega)
 have hw2 : IntKind.i64.wrap ((((l1.map Rn.enc).length : Nat) : Int) - ((kb - kf : Nat) : Int)) = ((l1.length - (kb - kf) : Nat) : Int) := by rw [hln]; exact wrapI' (by omega) (by omega)
 have hcl : (cutL z).length ≤ z.length := cutL_le z
 by_cases hcu : cutOk z = true
 ·have hCt := impl_cutRuns z (by omega) hzo _ true hcu (fun _ => rfl) fun h => by cases h
  have hcn : ((cutL z).map Rn.enc).length = (cutL z).length := List.length_map ..
  have hRe := hMA0 z hzo hcu hlike
  rw [hRe] at hRz
  have hRl : (mergeR l0 l1 l2 0 l0 snaps).length = l1.length - (kb - kf) + (cutL z).length := by rw [hRz, List.length_append, List.length_append, List.length_take, List.length_drop]; omega
  rw [hcu, Bool.true_and] at hcz
  have hw3 : IntKind.i64.wrap (((l1.length - (kb - kf) : Nat) : Int) + ((((cutL z).map Rn.enc).length : Nat) : Int)) = ((l1.length - (kb - kf) + (cutL z).length : Nat) : Int) := by rw [hcn]; exact wrapI' (by omega) (by omega)
  have hK2 := slices_ConcatR [l1.take kf, cutL z, l1.drop kb] (by simp) (by simp [List.length_take, List.length_drop]; omega) (by simp [List.length_take, List.length_drop]; omega)
  rw [show [l1.take kf, cutL z, l1.drop kb].flatten = mergeR l0 l1 l2 0 l0 snaps by rw [hRz]; simp] at hK2
  have hfY : Frz (.us 66 [[.sl (List.take (((kf : Nat) : Int) - 0).toNat (List.drop (Int.toNat 0) (List.map Rn.enc l1)))], [.us 68 ((cutL z).map Rn.enc)], [.sl (List.take (((l1.map Rn.enc).length : Nat) - ((kb : Nat) : Int)).toNat (List.drop (Int.toNat ((kb : Nat) : Int)) (List.map Rn.enc l1)))]]) (.sl ([l1.take kf, cutL z, l1.drop kb].map encL)) := by
   rw [hE2, hE3]; exact FrzLL.frz (.cons (.cons .sl .nil) (.cons (.cons (frzRs _) .nil) (.cons (.cons .sl .nil) .nil)))
  have hex := exq (mergeR l0 l1 l2 0 l0 snaps)
  obtain ⟨N, hN⟩ := hex
  rw [hN] at hK2 hRl hcz hy
  have hLv := impl_levels [] N l2
  by_cases h8 : N.length ≤ 8
  ·have hct : c = true := by rw [hcz]; exact decide_eq_true h8
   rw [hy hct, hct]
   cases b
   ·have hj := of_decide_eq_false hb1
    refine AFn.introX (E := En 0 (mdv [] [135, 141, 142]) (cb := [3]) (fb := [6, 8, 22])) (en_ok 0 _ _ _ _ _) Tryz.func80 rfl rfl rfl fun _ _ => ?_
    refine sp0 ?_
    refine sp0 ?_
    refine ACall.mk _ _ (impl_shelvesOf _ _ _) ?_
    refine nd ?_
    refine ACall.mk _ _ hTk ?_
    refine Num.mk _ (wrapI (by omega) (by omega)) ?_
    refine nd ?_
    refine ACall.mk _ _ hRg ?_
    refine ACall.mk _ _ hMt ?_
    refine Need.mk (⟨by omega, by omega, by omega, lenR _⟩) ?_
    refine Fz.mk _ hfX ?_
    refine ACall.mk _ _ hK ?_
    refine Fz.mk _ (frzRs _) ?_
    refine ACall.mk _ _ hEn ?_
    refine Fz.mk _ hfL ?_
    refine ACall.mk _ _ hMA ?_
    refine Need.mk (⟨ClL.mem (.us (clE _) .nil), no_objs⟩) ?_
    refine Num.mk _ (wrapI (by omega) (by omega)) ?_
    refine sp0 ?_
    refine nd ?_
    refine nd ?_
    refine Row.mk _ gm0 ?_
    refine Num.mk _ hsubm ?_
    refine nd ?_
    refine Row.mk _ gm1 ?_
    refine ACall.mk _ _ hMt2 ?_
    refine Need.mk (rfl) ?_
    refine sqF (by omega) fun h4 => ?_
    refine Fz.mk _ (frzE _) ?_
    refine ACall.mk _ _ hSq ?_
    refine Need.mk (⟨ClL.mem (.us (clE _) .nil), no_objs⟩) ?_
    refine Fz.mk _ (frzE _) ?_
    refine ACall.mk _ _ hCt ?_
    refine sp1 ?_
    refine Num.mk _ hw1 ?_
    refine Num.mk _ hw2 ?_
    refine Num.mk _ hw3 ?_
    refine spF (by omega) fun h6 => ?_
    refine nd ?_
    refine Num.mk _ (wrapI (by omega) (by omega)) ?_
    refine Need.mk (⟨by omega, by omega, by omega, lenR _⟩) ?_
    refine Need.mk (⟨by omega, by omega, by omega, lenR _⟩) ?_
    refine Fz.mk _ hfY ?_
    refine ACall.mk _ _ hK2 ?_
    refine nd ?_
    refine Fz.mk _ (frzRs _) ?_
    refine Need.mk (rfl) ?_
    refine ACall.mk _ _ hLv ?_
    refine Fz.mk _ (frzLs _) ?_
    exact Need.mk ⟨[], _, .same, rfl, rfl⟩ trivial
   ·have hj := of_decide_eq_true hb1
    refine AFn.introX (E := En 0 (mdv [] [135, 141, 142]) (cb := [3]) (fb := [6, 8, 22])) (en_ok 0 _ _ _ _ _) Tryz.func80 rfl rfl rfl fun _ _ => ?_
    refine sp0 ?_
    refine sp0 ?_
    refine ACall.mk _ _ (impl_shelvesOf _ _ _) ?_
    refine nd ?_
    refine ACall.mk _ _ hTk ?_
    refine Num.mk _ (wrapI (by omega) (by omega)) ?_
    refine nd ?_
    refine ACall.mk _ _ hRg ?_
    refine ACall.mk _ _ hMt ?_
    refine Need.mk (⟨by omega, by omega, by omega, lenR _⟩) ?_
    refine Fz.mk _ hfX ?_
    refine ACall.mk _ _ hK ?_
    refine Fz.mk _ (frzRs _) ?_
    refine ACall.mk _ _ hEn ?_
    refine Fz.mk _ hfL ?_
    refine ACall.mk _ _ hMA ?_
    refine Need.mk (⟨ClL.mem (.us (clE _) .nil), no_objs⟩) ?_
    refine Num.mk _ (wrapI (by omega) (by omega)) ?_
    refine sp0 ?_
    refine nd ?_
    refine nd ?_
    refine Row.mk _ gm0 ?_
    refine Num.mk _ hsubm ?_
    refine nd ?_
    refine Row.mk _ gm1 ?_
    refine ACall.mk _ _ hMt2 ?_
    refine Need.mk (rfl) ?_
    refine sqT (by omega) fun h4 => ?_
    refine Fz.mk _ (frzE _) ?_
    refine ACall.mk _ _ hSq ?_
    refine Need.mk (⟨ClL.mem (.us (clE _) .nil), no_objs⟩) ?_
    refine Fz.mk _ (frzE _) ?_
    refine ACall.mk _ _ hCt ?_
    refine sp1 ?_
    refine Num.mk _ hw1 ?_
    refine Num.mk _ hw2 ?_
    refine Num.mk _ hw3 ?_
    refine spF (by omega) fun h6 => ?_
    refine nd ?_
    refine Num.mk _ (wrapI (by omega) (by omega)) ?_
    refine Need.mk (⟨by omega, by omega, by omega, lenR _⟩) ?_
    refine Need.mk (⟨by omega, by omega, by omega, lenR _⟩) ?_
    refine Fz.mk _ hfY ?_
    refine ACall.mk _ _ hK2 ?_
    refine nd ?_
    refine Fz.mk _ (frzRs _) ?_
    refine Need.mk (rfl) ?_
    refine ACall.mk _ _ hLv ?_
    refine Fz.mk _ (frzLs _) ?_
    exact Need.mk ⟨[], _, .same, rfl, rfl⟩ trivial
  ·have hct : c = false := by rw [hcz]; exact decide_eq_false h8
   rw [hn hct, hct]
   cases b
   ·have hj := of_decide_eq_false hb1
    refine AFn.introX (E := En 0 (mdv [] [135, 141, 142]) (cb := [3]) (fb := [6, 8, 22])) (en_ok 0 _ _ _ _ _) Tryz.func80 rfl rfl rfl fun _ _ => ?_
    refine sp0 ?_
    refine sp0 ?_
    refine ACall.mk _ _ (impl_shelvesOf _ _ _) ?_
    refine nd ?_
    refine ACall.mk _ _ hTk ?_
    refine Num.mk _ (wrapI (by omega) (by omega)) ?_
    refine nd ?_
    refine ACall.mk _ _ hRg ?_
    refine ACall.mk _ _ hMt ?_
    refine Need.mk (⟨by omega, by omega, by omega, lenR _⟩) ?_
    refine Fz.mk _ hfX ?_
    refine ACall.mk _ _ hK ?_
    refine Fz.mk _ (frzRs _) ?_
    refine ACall.mk _ _ hEn ?_
    refine Fz.mk _ hfL ?_
    refine ACall.mk _ _ hMA ?_
    refine Need.mk (⟨ClL.mem (.us (clE _) .nil), no_objs⟩) ?_
    refine Num.mk _ (wrapI (by omega) (by omega)) ?_
    refine sp0 ?_
    refine nd ?_
    refine nd ?_
    refine Row.mk _ gm0 ?_
    refine Num.mk _ hsubm ?_
    refine nd ?_
    refine Row.mk _ gm1 ?_
    refine ACall.mk _ _ hMt2 ?_
    refine Need.mk (rfl) ?_
    refine sqF (by omega) fun h4 => ?_
    refine Fz.mk _ (frzE _) ?_
    refine ACall.mk _ _ hSq ?_
    refine Need.mk (⟨ClL.mem (.us (clE _) .nil), no_objs⟩) ?_
    refine Fz.mk _ (frzE _) ?_
    refine ACall.mk _ _ hCt ?_
    refine sp1 ?_
    refine Num.mk _ hw1 ?_
    refine Num.mk _ hw2 ?_
    refine Num.mk _ hw3 ?_
    refine spT (by omega) fun h6 => ?_
    exact Need.mk ⟨[], _, .same, rfl, rfl⟩ trivial
   ·have hj := of_decide_eq_true hb1
    refine AFn.introX (E := En 0 (mdv [] [135, 141, 142]) (cb := [3]) (fb := [6, 8, 22])) (en_ok 0 _ _ _ _ _) Tryz.func80 rfl rfl rfl fun _ _ => ?_
    refine sp0 ?_
    refine sp0 ?_
    refine ACall.mk _ _ (impl_shelvesOf _ _ _) ?_
    refine nd ?_
    refine ACall.mk _ _ hTk ?_
    refine Num.mk _ (wrapI (by omega) (by omega)) ?_
    refine nd ?_
    refine ACall.mk _ _ hRg ?_
    refine ACall.mk _ _ hMt ?_
    refine Need.mk (⟨by omega, by omega, by omega, lenR _⟩) ?_
    refine Fz.mk _ hfX ?_
    refine ACall.mk _ _ hK ?_
    refine Fz.mk _ (frzRs _) ?_
    refine ACall.mk _ _ hEn ?_
    refine Fz.mk _ hfL ?_
    refine ACall.mk _ _ hMA ?_
    refine Need.mk (⟨ClL.mem (.us (clE _) .nil), no_objs⟩) ?_
    refine Num.mk _ (wrapI (by omega) (by omega)) ?_
    refine sp0 ?_
    refine nd ?_
    refine nd ?_
    refine Row.mk _ gm0 ?_
    refine Num.mk _ hsubm ?_
    refine nd ?_
    refine Row.mk _ gm1 ?_
    refine ACall.mk _ _ hMt2 ?_
    refine Need.mk (rfl) ?_
    refine sqT (by omega) fun h4 => ?_
    refine Fz.mk _ (frzE _) ?_
    refine ACall.mk _ _ hSq ?_
    refine Need.mk (⟨ClL.mem (.us (clE _) .nil), no_objs⟩) ?_
    refine Fz.mk _ (frzE _) ?_
    refine ACall.mk _ _ hCt ?_
    refine sp1 ?_
    refine Num.mk _ hw1 ?_
    refine Num.mk _ hw2 ?_
    refine Num.mk _ hw3 ?_
    refine spT (by omega) fun h6 => ?_
    exact Need.mk ⟨[], _, .same, rfl, rfl⟩ trivial
 ·have hcu := Bool.eq_false_iff.2 hcu
  have hCt := impl_cutRuns z (by omega) hzo _ false hcu (fun h => by cases h) fun _ => rfl
  have hct : c = false := by rw [hcz, hcu]; rfl
  rw [hn hct, hct]
  cases b
  ·have hj := of_decide_eq_false hb1
   refine AFn.introX (E := En 0 (mdv [] [135, 141, 142]) (cb := [3]) (fb := [6, 8, 22])) (en_ok 0 _ _ _ _ _) Tryz.func80 rfl rfl rfl fun _ _ => ?_
   refine sp0 ?_
   refine sp0 ?_
   refine ACall.mk _ _ (impl_shelvesOf _ _ _) ?_
   refine nd ?_
   refine ACall.mk _ _ hTk ?_
   refine Num.mk _ (wrapI (by omega) (by omega)) ?_
   refine nd ?_
   refine ACall.mk _ _ hRg ?_
   refine ACall.mk _ _ hMt ?_
   refine Need.mk (⟨by omega, by omega, by omega, lenR _⟩) ?_
   refine Fz.mk _ hfX ?_
   refine ACall.mk _ _ hK ?_
   refine Fz.mk _ (frzRs _) ?_
   refine ACall.mk _ _ hEn ?_
   refine Fz.mk _ hfL ?_
   refine ACall.mk _ _ hMA ?_
   refine Need.mk (⟨ClL.mem (.us (clE _) .nil), no_objs⟩) ?_
   refine Num.mk _ (wrapI (by omega) (by omega)) ?_
   refine sp0 ?_
   refine nd ?_
   refine nd ?_
   refine Row.mk _ gm0 ?_
   refine Num.mk _ hsubm ?_
   refine nd ?_
   refine Row.mk _ gm1 ?_
   refine ACall.mk _ _ hMt2 ?_
   refine Need.mk (rfl) ?_
   refine sqF (by omega) fun h4 => ?_
   refine Fz.mk _ (frzE _) ?_
   refine ACall.mk _ _ hSq ?_
   refine Need.mk (⟨ClL.mem (.us (clE _) .nil), no_objs⟩) ?_
   refine Fz.mk _ (frzE _) ?_
   refine ACall.mk _ _ hCt ?_
   refine sp0 ?_
   exact Need.mk ⟨[], _, .same, rfl, rfl⟩ trivial
  ·have hj := of_decide_eq_true hb1
   refine AFn.introX (E := En 0 (mdv [] [135, 141, 142]) (cb := [3]) (fb := [6, 8, 22])) (en_ok 0 _ _ _ _ _) Tryz.func80 rfl rfl rfl fun _ _ => ?_
   refine sp0 ?_
   refine sp0 ?_
   refine ACall.mk _ _ (impl_shelvesOf _ _ _) ?_
   refine nd ?_
   refine ACall.mk _ _ hTk ?_
   refine Num.mk _ (wrapI (by omega) (by omega)) ?_
   refine nd ?_
   refine ACall.mk _ _ hRg ?_
   refine ACall.mk _ _ hMt ?_
   refine Need.mk (⟨by omega, by omega, by omega, lenR _⟩) ?_
   refine Fz.mk _ hfX ?_
   refine ACall.mk _ _ hK ?_
   refine Fz.mk _ (frzRs _) ?_
   refine ACall.mk _ _ hEn ?_
   refine Fz.mk _ hfL ?_
   refine ACall.mk _ _ hMA ?_
   refine Need.mk (⟨ClL.mem (.us (clE _) .nil), no_objs⟩) ?_
   refine Num.mk _ (wrapI (by omega) (by omega)) ?_
   refine sp0 ?_
   refine nd ?_
   refine nd ?_
   refine Row.mk _ gm0 ?_
   refine Num.mk _ hsubm ?_
   refine nd ?_
   refine Row.mk _ gm1 ?_
   refine ACall.mk _ _ hMt2 ?_
   refine Need.mk (rfl) ?_
   refine sqT (by omega) fun h4 => ?_
   refine Fz.mk _ (frzE _) ?_
   refine ACall.mk _ _ hSq ?_
   refine Need.mk (⟨ClL.mem (.us (clE _) .nil), no_objs⟩) ?_
   refine Fz.mk _ (frzE _) ?_
   refine ACall.mk _ _ hCt ?_
   refine sp0 ?_
   exact Need.mk ⟨[], _, .same, rfl, rfl⟩ trivial
theorem impl_treeCompact1 (sq : Int) (mem : List Ent) (l0 l1 l2 : List Rn) (snaps : List Int) (hb : treeOk ⟨sq, mem, [l0, l1, l2], snaps⟩ = true) (p : Nat) (hpl : p < l1.length) (o : List C) (c : Bool) (hc : mergeOk l0 l1 l2 1 [l1[p]] snaps = c)
  (hy : c = true → o = encF sq mem l0 (l1.take p ++ l1.drop (p + 1)) (mergeR l0 l1 l2 1 [l1[p]] snaps) snaps) (hn : c = false → o = encF sq mem l0 l1 l2 snaps) :
  AFn Tryz.prog 80 [.agg ((encF sq mem l0 l1 l2 snaps).map .c), av (.int .i64 1), av (.int .i64 p)] [] (.tup [.agg o, .one (vb c)]) [] := by
 obtain ⟨⟨_, _, a3, _, a5⟩, ⟨v0, v1, v2⟩, _, _⟩ := treeP.1 (show treeOk3 sq mem l0 l1 l2 snaps = true from hb)
 have hsn := (snaps_iff.1 a5).1
 have hl0 := (levB_ok v0).1
 have hl1 := (levB_ok v1).1
 have hl2 := (levB_ok v2).1
 have r1 := (levB_ok v1).2
 have r2 := (levB_ok v2).2
 have ap1 := levB_ap v1
 have ap2 := levB_ap v2
 have htk : (l1.drop p).take 1 = [l1[p]] := by rw [List.drop_eq_getElem_cons hpl]; rfl
 obtain ⟨k1, k2, k3⟩ := compact_mergeOk hb (lv := 1) (taken := [l1[p]]) (.inr ⟨rfl, rfl, p, hpl, rfl⟩)
 have hTk := impl_takeRunsY l1 1 p (by decide) hpl (by omega)
 have hlay := layersP.1 (treeP.1 (show treeOk3 sq mem l0 l1 l2 snaps = true from hb)).2.2.2
 have hpm : l1[p] ∈ l1 := List.getElem_mem hpl
 have hAb : Above (entsR l2) (entsR [l1[p]]) := fun x hx y hy hk => hlay.2.1 x (by
  obtain ⟨r, hr, her⟩ := entsR_mem.1 hx
  rw [List.mem_singleton.1 hr] at her
  exact entsR_mem.2 ⟨_, hpm, her⟩) y hy hk
 rw [htk] at hTk
 have hne : [l1[p]] ≠ [] := by simp
 have hRg : AFn Tryz.prog 139 [sl ([l1[p]].map Rn.enc)] [] (.tup [.one (vs (lowR [l1[p]])), .one (vs (highR [l1[p]]))]) [] := by
  skip
  cases hT : [l1[p]] with
  | nil => exact absurd hT hne
  | cons x xs => rw [hT] at k2 k3; exact impl_rangeOf x xs (by rw [List.length_cons] at k3; omega) (run_lens k2)
 have hIr : ∀ r ∈ inL l2 (lowR [l1[p]]) (highR [l1[p]]), runOk r = true := fun r hr => r2 r (List.filter_sublist.subset hr)
 have hIl : (inL l2 (lowR [l1[p]]) (highR [l1[p]])).length ≤ 8 := Nat.le_trans (List.length_filter_le _ _) hl2
 have hcz : mergeOk l0 l1 l2 1 [l1[p]] snaps = (cutOk (mergeL l0 l1 l2 1 [l1[p]] snaps) && decide ((mergeR l0 l1 l2 1 [l1[p]] snaps).length ≤ 8)) := rfl
 have hRz : mergeR l0 l1 l2 1 [l1[p]] snaps = orderL (offL l2 (lowR [l1[p]]) (highR [l1[p]])) (cutL (mergeL l0 l1 l2 1 [l1[p]] snaps)) := rfl
 have hLz : mergeL l0 l1 l2 1 [l1[p]] snaps = squash (isort eLess (entsR ([l1[p]] ++ inL l2 (lowR [l1[p]]) (highR [l1[p]])))) snaps (decide ((1 : Nat) = 1) || (inL l2 (lowR ([l1[p]] ++ inL l2 (lowR [l1[p]]) (highR [l1[p]]))) (highR ([l1[p]] ++ inL l2 (lowR [l1[p]]) (highR [l1[p]])))).isEmpty) := rfl
 rw [hc] at hcz
 have hms := meet_split (low := lowR [l1[p]]) (high := highR [l1[p]]) r2 ap2
 have hfl := from_le (low := lowR [l1[p]]) (high := highR [l1[p]]) r2 ap2
 have hMA0 := fun (z : List Ent) (ho : ordOk z = true) (hcu : cutOk z = true) (hzk : ∀ e ∈ z, ∃ e' ∈ entsR ([l1[p]] ++ inL l2 (lowR [l1[p]]) (highR [l1[p]])), e.key = e'.key) => (merge_apart (taken := [l1[p]]) (z := z) r2 ap2 k2 hne ho hcu hzk).2.2
 have hdif := (merged_of (snaps := snaps) (bottom := true) r2 ap2 k2 (by simp) hAb).dif
 have hex := exq (fromI l2 (lowR [l1[p]]))
 obtain ⟨kf, hkf⟩ := hex
 have hex := exq (toI l2 (highR [l1[p]]))
 obtain ⟨kt, hkt⟩ := hex
 have hMt := impl_meeting l2 (lowR [l1[p]]) (highR [l1[p]]) (by omega) r2 ap2 kf kt _ hkf hkt rfl
 rw [hkf, hkt] at hms hfl hMA0
 have hex := exq (max kf kt)
 obtain ⟨kb, hkb⟩ := hex
 rw [hkb] at hMt hms hfl hMA0
 have hex := exq (inL l2 (lowR [l1[p]]) (highR [l1[p]]))
 obtain ⟨q, hq⟩ := hex
 rw [hq] at hIr hIl k1 hLz hms hdif
 have hqn : q.length = kb - kf := by rw [hms.1, List.length_drop, List.length_take]; omega
 have hoff := hms.2
 rw [hoff] at hRz hMA0
 have hE1 : List.take (((kb : Nat) : Int) - ((kf : Nat) : Int)).toNat (List.drop (Int.toNat ((kf : Nat) : Int)) (List.map Rn.enc l2)) = q.map Rn.enc := by
  rw [show (((kb : Nat) : Int) - ((kf : Nat) : Int)).toNat = kb - kf by omega, Int.toNat_natCast, hms.1, List.map_drop, List.map_take, List.drop_take]
 have hE2 : List.take (((kf : Nat) : Int) - 0).toNat (List.drop (Int.toNat 0) (List.map Rn.enc l2)) = (l2.take kf).map Rn.enc := by
  rw [show (((kf : Nat) : Int) - 0).toNat = kf by omega, List.map_take]; rfl
 have hln : (l2.map Rn.enc).length = l2.length := List.length_map ..
 have hE3 : List.take (((l2.map Rn.enc).length : Nat) - ((kb : Nat) : Int)).toNat (List.drop (Int.toNat ((kb : Nat) : Int)) (List.map Rn.enc l2)) = (l2.drop kb).map Rn.enc := by
  rw [hln, Int.toNat_natCast, List.map_drop, List.take_of_length_le (by rw [List.length_drop, List.length_map]; omega)]
 have hfX : Frz (.us 66 [[.sl ([l1[p]].map Rn.enc)], [.sl (List.take (((kb : Nat) : Int) - ((kf : Nat) : Int)).toNat (List.drop (Int.toNat ((kf : Nat) : Int)) (List.map Rn.enc l2)))]]) (.sl ([[l1[p]], q].map encL)) := by
  rw [hE1]; exact FrzLL.frz (.cons (.cons .sl .nil) (.cons (.cons .sl .nil) .nil))
 have hK := slices_ConcatR [[l1[p]], q] (by simp) (by simp; omega) (by simp; omega)
 rw [show [[l1[p]], q].flatten = [l1[p]] ++ q by simp] at hK
 have hall : ∀ r ∈ [l1[p]] ++ q, runOk r = true := fun r hr => (List.mem_append.1 hr).elim (k2 r) (hIr r)
 have hallne : [l1[p]] ++ q ≠ [] := fun h => hne (List.append_eq_nil_iff.1 h).1
 have halll : ([l1[p]] ++ q).length ≤ 16 := by rw [List.length_append]; omega
 have hex := exq ([l1[p]] ++ q)
 obtain ⟨a, hae⟩ := hex
 rw [hae] at hall hallne halll k1 hLz hK hdif
 have hEn := impl_entsOf a (by omega)
 have hMl : ((a.map Rn.ents).flatten).length ≤ 1048576 := by
  have := flat_le (b := 150) (L := a.map Rn.ents) fun l hl => by obtain ⟨r, hr, rfl⟩ := List.mem_map.1 hl; exact (runOk_len (hall r hr)).2.1
  rw [List.length_map] at this
  have h3 : a.length * 150 ≤ 16 * 150 := Nat.mul_le_mul_right _ halll
  omega
 have hMA := impl_MergeAll (a.map Rn.ents) hMl (by rw [List.length_map]; omega)
 have hfL : Frz (.us 29 (a.map encLs)) (.sl ((a.map Rn.ents).map encX)) := by
  rw [List.map_map]
  exact frz_map fun r _ => .cons .sl .nil
 have hml : (isort eLess (a.map Rn.ents).flatten).length ≤ 2400 := by
  rw [isort_len]
  have := flat_le (b := 150) (L := a.map Rn.ents) fun l hl => by obtain ⟨r, hr, rfl⟩ := List.mem_map.1 hl; exact (runOk_len (hall r hr)).2.1
  rw [List.length_map] at this
  have h3 : a.length * 150 ≤ 16 * 150 := Nat.mul_le_mul_right _ halll
  omega
 have hmpos : 0 < (isort eLess (a.map Rn.ents).flatten).length := by
  rw [isort_len]
  cases a with
  | nil => exact absurd rfl hallne
  | cons x xs => rw [List.map_cons, List.flatten_cons, List.length_append]; have := (runOk_len (hall x (List.mem_cons_self ..))).1; omega
 have hmp := isort_perm eLess (a.map Rn.ents).flatten
 have hmw := dif_pw (show (a.map Rn.ents).flatten.Pairwise Dif from hdif)
 have hex := exq (isort eLess (a.map Rn.ents).flatten)
 obtain ⟨m, hm⟩ := hex
 have hm' : isort eLess (entsR a) = m := hm
 rw [hm'] at k1 hLz
 rw [hm] at hMA hml hmpos hmp hmw
 have hmlow := lowR_head hall hallne hmp hmw hmpos
 have hmhigh := highR_last hall hallne hmp hmw hmpos
 have hmn : (m.map Ent.enc).length = m.length := List.length_map ..
 have gm0 : (m.map Ent.enc)[(0 : Nat)]? = some (m[0]).enc := map_get Ent.enc m 0 hmpos
 have gm1 : (m.map Ent.enc)[m.length - 1]? = some (m[m.length - 1]'(by omega)).enc := map_get Ent.enc m (m.length - 1) (by omega)
 have hsubm : IntKind.i64.wrap ((((m.map Ent.enc).length : Nat) : Int) - 1) = ((m.length - 1 : Nat) : Int) := by rw [hmn]; exact wrapI' (by omega) (by omega)
 have hLz : mergeL l0 l1 l2 1 [l1[p]] snaps = squash m snaps true := by rw [hLz]; rfl
 have hSq := impl_Squash m snaps (by omega) (by omega) (ordOk_OkE k1) true
 rw [show squashed m snaps true = squash m snaps true from if_pos k1] at hSq
 have hzo := squash_ok (snaps := snaps) (last := true) k1
 have hzn := squash_len (l := m) (snaps := snaps) (last := true)
 have hlike : ∀ e ∈ squash m snaps true, ∃ e' ∈ entsR ([l1[p]] ++ inL l2 (lowR [l1[p]]) (highR [l1[p]])), e.key = e'.key := fun e he => by
  obtain ⟨e', h1, h2⟩ := squash_mem he
  exact ⟨e', by rw [hq, hae]; exact hmp.mem_iff.1 h1, h2.2⟩
 rw [hLz] at hcz hRz
 have hex := exq (squash m snaps true)
 obtain ⟨z, hz⟩ := hex
 rw [hz] at hSq hzo hzn hcz hRz hlike
 have hw1 : IntKind.i64.wrap (((kb : Nat) : Int) - ((kf : Nat) : Int)) = ((kb - kf : Nat) : Int) := wrapI' (by omega) (by omega)
 have hw2 : IntKind.i64.wrap ((((l2.map Rn.enc).length : Nat) : Int) - ((kb - kf : Nat) : Int)) = ((l2.length - (kb - kf) : Nat) : Int) := by rw [hln]; exact wrapI' (by omega) (by omega)
 have hcl : (cutL z).length ≤ z.length := cutL_le z
 by_cases hcu : cutOk z = true
 ·have hCt := impl_cutRuns z (by omega) hzo _ true hcu (fun _ => rfl) fun h => by cases h
  have hcn : ((cutL z).map Rn.enc).length = (cutL z).length := List.length_map ..
  have hRe := hMA0 z hzo hcu hlike
  rw [hRe] at hRz
  have hRl : (mergeR l0 l1 l2 1 [l1[p]] snaps).length = l2.length - (kb - kf) + (cutL z).length := by rw [hRz, List.length_append, List.length_append, List.length_take, List.length_drop]; omega
  rw [hcu, Bool.true_and] at hcz
  have hw3 : IntKind.i64.wrap (((l2.length - (kb - kf) : Nat) : Int) + ((((cutL z).map Rn.enc).length : Nat) : Int)) = ((l2.length - (kb - kf) + (cutL z).length : Nat) : Int) := by rw [hcn]; exact wrapI' (by omega) (by omega)
  have hK2 := slices_ConcatR [l2.take kf, cutL z, l2.drop kb] (by simp) (by simp [List.length_take, List.length_drop]; omega) (by simp [List.length_take, List.length_drop]; omega)
  rw [show [l2.take kf, cutL z, l2.drop kb].flatten = mergeR l0 l1 l2 1 [l1[p]] snaps by rw [hRz]; simp] at hK2
  have hfY : Frz (.us 66 [[.sl (List.take (((kf : Nat) : Int) - 0).toNat (List.drop (Int.toNat 0) (List.map Rn.enc l2)))], [.us 68 ((cutL z).map Rn.enc)], [.sl (List.take (((l2.map Rn.enc).length : Nat) - ((kb : Nat) : Int)).toNat (List.drop (Int.toNat ((kb : Nat) : Int)) (List.map Rn.enc l2)))]]) (.sl ([l2.take kf, cutL z, l2.drop kb].map encL)) := by
   rw [hE2, hE3]; exact FrzLL.frz (.cons (.cons .sl .nil) (.cons (.cons (frzRs _) .nil) (.cons (.cons .sl .nil) .nil)))
  have hex := exq (mergeR l0 l1 l2 1 [l1[p]] snaps)
  obtain ⟨N, hN⟩ := hex
  rw [hN] at hK2 hRl hcz hy
  have hLv := impl_levels l0 (l1.take p ++ l1.drop (p + 1)) N
  by_cases h8 : N.length ≤ 8
  ·have hct : c = true := by rw [hcz]; exact decide_eq_true h8
   rw [hy hct, hct]
   refine AFn.introX (E := En 0 (mdv [] [135, 141, 142]) (cb := [3]) (fb := [6, 8, 22])) (en_ok 0 _ _ _ _ _) Tryz.func80 rfl rfl rfl fun _ _ => ?_
   refine sp0 ?_
   refine sp0 ?_
   refine ACall.mk _ _ (impl_shelvesOf _ _ _) ?_
   refine nd ?_
   refine ACall.mk _ _ hTk ?_
   refine Num.mk _ (wrapI (by omega) (by omega)) ?_
   refine nd ?_
   refine ACall.mk _ _ hRg ?_
   refine ACall.mk _ _ hMt ?_
   refine Need.mk (⟨by omega, by omega, by omega, lenR _⟩) ?_
   refine Fz.mk _ hfX ?_
   refine ACall.mk _ _ hK ?_
   refine Fz.mk _ (frzRs _) ?_
   refine ACall.mk _ _ hEn ?_
   refine Fz.mk _ hfL ?_
   refine ACall.mk _ _ hMA ?_
   refine Need.mk (⟨ClL.mem (.us (clE _) .nil), no_objs⟩) ?_
   refine Num.mk _ (wrapI (by omega) (by omega)) ?_
   refine sp1 ?_
   refine Fz.mk _ (frzE _) ?_
   refine ACall.mk _ _ hSq ?_
   refine Need.mk (⟨ClL.mem (.us (clE _) .nil), no_objs⟩) ?_
   refine Fz.mk _ (frzE _) ?_
   refine ACall.mk _ _ hCt ?_
   refine sp1 ?_
   refine Num.mk _ hw1 ?_
   refine Num.mk _ hw2 ?_
   refine Num.mk _ hw3 ?_
   refine spF (by omega) fun h5 => ?_
   refine nd ?_
   refine Fz.mk _ (frzRs _) ?_
   refine Num.mk _ (wrapI (by omega) (by omega)) ?_
   refine Need.mk (⟨by omega, by omega, by omega, lenR _⟩) ?_
   refine Need.mk (⟨by omega, by omega, by omega, lenR _⟩) ?_
   refine Fz.mk _ hfY ?_
   refine ACall.mk _ _ hK2 ?_
   refine nd ?_
   refine Fz.mk _ (frzRs _) ?_
   refine Need.mk (rfl) ?_
   refine ACall.mk _ _ hLv ?_
   refine Fz.mk _ (frzLs _) ?_
   exact Need.mk ⟨[], _, .same, rfl, rfl⟩ trivial
  ·have hct : c = false := by rw [hcz]; exact decide_eq_false h8
   rw [hn hct, hct]
   refine AFn.introX (E := En 0 (mdv [] [135, 141, 142]) (cb := [3]) (fb := [6, 8, 22])) (en_ok 0 _ _ _ _ _) Tryz.func80 rfl rfl rfl fun _ _ => ?_
   refine sp0 ?_
   refine sp0 ?_
   refine ACall.mk _ _ (impl_shelvesOf _ _ _) ?_
   refine nd ?_
   refine ACall.mk _ _ hTk ?_
   refine Num.mk _ (wrapI (by omega) (by omega)) ?_
   refine nd ?_
   refine ACall.mk _ _ hRg ?_
   refine ACall.mk _ _ hMt ?_
   refine Need.mk (⟨by omega, by omega, by omega, lenR _⟩) ?_
   refine Fz.mk _ hfX ?_
   refine ACall.mk _ _ hK ?_
   refine Fz.mk _ (frzRs _) ?_
   refine ACall.mk _ _ hEn ?_
   refine Fz.mk _ hfL ?_
   refine ACall.mk _ _ hMA ?_
   refine Need.mk (⟨ClL.mem (.us (clE _) .nil), no_objs⟩) ?_
   refine Num.mk _ (wrapI (by omega) (by omega)) ?_
   refine sp1 ?_
   refine Fz.mk _ (frzE _) ?_
   refine ACall.mk _ _ hSq ?_
   refine Need.mk (⟨ClL.mem (.us (clE _) .nil), no_objs⟩) ?_
   refine Fz.mk _ (frzE _) ?_
   refine ACall.mk _ _ hCt ?_
   refine sp1 ?_
   refine Num.mk _ hw1 ?_
   refine Num.mk _ hw2 ?_
   refine Num.mk _ hw3 ?_
   refine spT (by omega) fun h5 => ?_
   exact Need.mk ⟨[], _, .same, rfl, rfl⟩ trivial
 ·have hcu := Bool.eq_false_iff.2 hcu
  have hCt := impl_cutRuns z (by omega) hzo _ false hcu (fun h => by cases h) fun _ => rfl
  have hct : c = false := by rw [hcz, hcu]; rfl
  rw [hn hct, hct]
  refine AFn.introX (E := En 0 (mdv [] [135, 141, 142]) (cb := [3]) (fb := [6, 8, 22])) (en_ok 0 _ _ _ _ _) Tryz.func80 rfl rfl rfl fun _ _ => ?_
  refine sp0 ?_
  refine sp0 ?_
  refine ACall.mk _ _ (impl_shelvesOf _ _ _) ?_
  refine nd ?_
  refine ACall.mk _ _ hTk ?_
  refine Num.mk _ (wrapI (by omega) (by omega)) ?_
  refine nd ?_
  refine ACall.mk _ _ hRg ?_
  refine ACall.mk _ _ hMt ?_
  refine Need.mk (⟨by omega, by omega, by omega, lenR _⟩) ?_
  refine Fz.mk _ hfX ?_
  refine ACall.mk _ _ hK ?_
  refine Fz.mk _ (frzRs _) ?_
  refine ACall.mk _ _ hEn ?_
  refine Fz.mk _ hfL ?_
  refine ACall.mk _ _ hMA ?_
  refine Need.mk (⟨ClL.mem (.us (clE _) .nil), no_objs⟩) ?_
  refine Num.mk _ (wrapI (by omega) (by omega)) ?_
  refine sp1 ?_
  refine Fz.mk _ (frzE _) ?_
  refine ACall.mk _ _ hSq ?_
  refine Need.mk (⟨ClL.mem (.us (clE _) .nil), no_objs⟩) ?_
  refine Fz.mk _ (frzE _) ?_
  refine ACall.mk _ _ hCt ?_
  refine sp0 ?_
  exact Need.mk ⟨[], _, .same, rfl, rfl⟩ trivial
end Go.Proofs.YtcnongahanmclaaGreat
