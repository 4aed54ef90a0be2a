/-
  Contracts of functions, part 6.
-/
import Derived.Test.YtpcimdalgpfkaaaGreatDoorTFnExactStoreFallE
set_option linter.unusedVariables false
set_option linter.unusedSimpArgs false
namespace Go.Proofs.YtpcimdalgpfkaaaGreatDoor
open Go Go.Proofs Ev
set_option maxRecDepth 100000
set_option maxHeartbeats 40000000
set_option linter.unusedSimpArgs false
set_option linter.unusedVariables false
theorem laws_markRunS (xs : List Rn) (k : Nat) (hk : posR k xs ≤ 4611686018427387904) : AFn Tryz.prog 130 [.one (.ref 0 0 (.cell 0)), av (.int .i64 k)] [[.us 113 (xs.map encO)]] (.one (vi (posR k xs : Nat))) [[.us 113 ((mkRs k xs).map encO)]] := by
 refine AFn.introX (E := En 1 (md1 [80])) (en_ok 1 _) Tryz.func130 rfl rfl rfl fun _ _ => ?_
 let S : List (List C) → Nat → Nat → St := fun rows i m => ⟨some (.one (.ref 0 0 (.cell 0))) :: some (av (.int .i64 m)) :: none :: none :: none :: some (av (.int .i64 i)) :: List.replicate 21 none, ⟨0, 1, some [.us 113 rows]⟩ :: List.replicate 27 absent⟩
 refine ALoop.mk (fun n s => ∃ i : Nat, i ≤ xs.length ∧ n = xs.length - i ∧ s = S ((mkRs k (xs.take i) ++ xs.drop i).map encO) i (posR k (xs.take i)))
  ⟨xs.length, _, Weak.nrm [true, true, false, false, false, true] [(0, 0)] rfl rfl rfl, 0, Nat.zero_le _, rfl, rfl⟩ ?_
 rintro n s ⟨i, hi, rfl, rfl⟩
 have hlen : (mkRs k (xs.take i) ++ xs.drop i).length = xs.length := by rw [List.length_append, mkRs_len, List.length_take, List.length_drop]; omega
 refine Split.mk fun t ht => ?_
 rw [List.length_map, hlen] at ht
 cases t
 ·have hia : i = xs.length := by simp at ht; omega
  subst hia
  refine Need.mk ⟨[], _, .same, ?_, ?_⟩ trivial
  ·rw [List.take_length]; rfl
  ·rw [List.take_length, List.drop_length, List.append_nil]; rfl
 ·have hia : i < xs.length := by simpa using ht
  have hget : (mkRs k (xs.take i) ++ xs.drop i)[i]? = some xs[i] := by
   rw [List.getElem?_append_right (by rw [mkRs_len, List.length_take]; omega), mkRs_len, List.length_take, Nat.min_eq_left (by omega), Nat.sub_self, List.getElem?_drop, Nat.add_zero, List.getElem?_eq_getElem hia]
  have hpos : posR k (xs.take (i + 1)) = posR k (xs.take i) + 5 * xs[i].ents.length + 1 := by rw [List.take_succ_eq_append_getElem hia, posR_app]; rfl
  have hle : posR k (xs.take (i + 1)) ≤ 4611686018427387904 := by
   have : posR k xs = posR (posR k (xs.take (i + 1))) (xs.drop (i + 1)) := by rw [← posR_app, List.take_append_drop]
   have h2 := posR_le (xs.drop (i + 1)) (posR k (xs.take (i + 1)))
   omega
  have hrow : ((mkRs k (xs.take i) ++ xs.drop i).map encO)[i]? = some (encO xs[i]) := by rw [List.getElem?_map, hget]; rfl
  have hlt : i < ((mkRs k (xs.take i) ++ xs.drop i).map encO).length := by rw [List.length_map, hlen]; exact hia
  have hxl := posR_len xs k
  refine Need.mk ⟨by omega, by omega⟩ ?_
  refine Row.mk _ hrow ?_
  refine Row.mk _ hrow ?_
  refine ACall.mk _ _ (laws_markEntryS xs[i].ents (posR k (xs.take i)) (by omega)) ?_
  refine Row.mk _ hrow ?_
  refine Need.mk ⟨by omega, by rw [List.length_set]; omega⟩ ?_
  refine Row.mk _ (set_get _ _ _ hlt) ?_
  refine Num.mk _ (wrapS (by omega)) ?_
  refine Num.mk _ (wrapS (by omega)) ?_
  refine ⟨xs.length - (i + 1), _, by omega, Weak.nrm [true, true, false, false, false, true] [(0, 0)] rfl rfl rfl, i + 1, by omega, rfl, ?_⟩
  refine Eq.trans (b := S ((((mkRs k (xs.take i) ++ xs.drop i).map encO).set i _).set i (encO (mkR (posR k (xs.take i)) xs[i]))) (i + 1) (posR k (xs.take i) + 5 * xs[i].ents.length + 1)) rfl ?_
  rw [hpos, List.set_set, ← List.map_set, mkRs_step hia]
theorem laws_markRunSS (xs : List (List Rn)) (k : Nat) (hk : posL k xs ≤ 4611686018427387904) : AFn Tryz.prog 81 [.one (.ref 0 0 (.cell 0)), av (.int .i64 k)] [[.us 110 (xs.map encLO)]] (.one (vi (posL k xs : Nat))) [[.us 110 ((mkLs k xs).map encLO)]] := by
 refine AFn.introX (E := En 1 (md1 [130])) (en_ok 1 _) Tryz.func81 rfl rfl rfl fun _ hs => ?_
 have hxl := Small.lenU (hs _ (List.mem_cons_self ..) _ (List.mem_cons_self ..))
 rw [List.length_map] at hxl
 let S : List (List C) → Nat → Nat → St := fun rows i m => ⟨some (.one (.ref 0 0 (.cell 0))) :: some (av (.int .i64 m)) :: none :: none :: none :: some (av (.int .i64 i)) :: List.replicate 13 none, ⟨0, 1, some [.us 110 rows]⟩ :: List.replicate 19 absent⟩
 refine ALoop.mk (fun n s => ∃ i : Nat, i ≤ xs.length ∧ n = xs.length - i ∧ s = S ((mkLs k (xs.take i) ++ xs.drop i).map encLO) i (posL k (xs.take i)))
  ⟨xs.length, _, Weak.nrm [true, true, false, false, false, true] [(0, 0)] rfl rfl rfl, 0, Nat.zero_le _, rfl, rfl⟩ ?_
 rintro n s ⟨i, hi, rfl, rfl⟩
 have hlen : (mkLs k (xs.take i) ++ xs.drop i).length = xs.length := by rw [List.length_append, mkLs_len, List.length_take, List.length_drop]; omega
 refine Split.mk fun t ht => ?_
 rw [List.length_map, hlen] at ht
 cases t
 ·have hia : i = xs.length := by simp at ht; omega
  subst hia
  refine Need.mk ⟨[], _, .same, ?_, ?_⟩ trivial
  ·rw [List.take_length]; rfl
  ·rw [List.take_length, List.drop_length, List.append_nil]; rfl
 ·have hia : i < xs.length := by simpa using ht
  have hget : (mkLs k (xs.take i) ++ xs.drop i)[i]? = some xs[i] := by
   rw [List.getElem?_append_right (by rw [mkLs_len, List.length_take]; omega), mkLs_len, List.length_take, Nat.min_eq_left (by omega), Nat.sub_self, List.getElem?_drop, Nat.add_zero, List.getElem?_eq_getElem hia]
  have hpos : posL k (xs.take (i + 1)) = posR (posL k (xs.take i)) xs[i] := by rw [List.take_succ_eq_append_getElem hia, posL_app]; rfl
  have hle : posL k (xs.take (i + 1)) ≤ 4611686018427387904 := by
   have : posL k xs = posL (posL k (xs.take (i + 1))) (xs.drop (i + 1)) := by rw [← posL_app, List.take_append_drop]
   have h2 := posL_le (xs.drop (i + 1)) (posL k (xs.take (i + 1)))
   omega
  have hrow : ((mkLs k (xs.take i) ++ xs.drop i).map encLO)[i]? = some (encLO xs[i]) := by rw [List.getElem?_map, hget]; rfl
  have hlt : i < ((mkLs k (xs.take i) ++ xs.drop i).map encLO).length := by rw [List.length_map, hlen]; exact hia
  refine Need.mk ⟨by omega, by omega⟩ ?_
  refine Row.mk _ hrow ?_
  refine Row.mk _ hrow ?_
  refine ACall.mk _ _ (laws_markRunS xs[i] (posL k (xs.take i)) (by omega)) ?_
  refine Row.mk _ hrow ?_
  refine Num.mk _ (wrapS (by omega)) ?_
  refine ⟨xs.length - (i + 1), _, by omega, Weak.nrm [true, true, false, false, false, true] [(0, 0)] rfl rfl rfl, i + 1, by omega, rfl, ?_⟩
  refine Eq.trans (b := S (((mkLs k (xs.take i) ++ xs.drop i).map encLO).set i (encLO (mkRs (posL k (xs.take i)) xs[i]))) (i + 1) (posR (posL k (xs.take i)) xs[i])) rfl ?_
  rw [hpos, ← List.map_set, mkLs_step hia]
theorem laws_markIntS (xs : List Int) (k : Nat) (hk : k + xs.length ≤ 4611686018427387904) : AFn Tryz.prog 82 [.one (.ref 0 0 (.cell 0)), av (.int .i64 k)] [[.us 3 (xs.map encI)]] (.one (vi ((k + xs.length : Nat) : Int))) [[.us 3 ((markI k xs.length).map encI)]] := by
 refine AFn.introX (E := En 1 md0) (en_ok 1 md0) Tryz.func82 rfl rfl rfl fun _ _ => ?_
 let S : List (List C) → Nat → Nat → St := fun rows i m => ⟨some (.one (.ref 0 0 (.cell 0))) :: some (av (.int .i64 m)) :: none :: none :: none :: some (av (.int .i64 i)) :: List.replicate 13 none, ⟨0, 1, some [.us 3 rows]⟩ :: List.replicate 19 absent⟩
 refine ALoop.mk (fun n s => ∃ (i : Nat) (ys : List Int), i ≤ xs.length ∧ n = xs.length - i ∧ ys.length = xs.length ∧ (∀ j : Nat, j < i → ys[j]? = some ((k + j : Nat) : Int)) ∧ s = S (ys.map encI) i (k + i))
  ⟨xs.length, _, Weak.nrm [true, true, false, false, false, true] [(0, 0)] rfl rfl rfl, 0, xs, Nat.zero_le _, rfl, rfl, by intro j hj; omega, rfl⟩ ?_
 rintro n s ⟨i, ys, hi, rfl, hl, hm, rfl⟩
 refine Split.mk fun t ht => ?_
 rw [List.length_map] at ht
 cases t
 ·have hia : i = xs.length := by simp at ht; omega
  subst hia
  refine Need.mk ⟨[], _, .same, rfl, ?_⟩ trivial
  rw [← markI_of hl hm]; rfl
 ·have hia : i < ys.length := by simpa using ht
  refine Need.mk ⟨by omega, by simpa using hia⟩ ?_
  refine Row.mk _ (map_get _ ys i hia) ?_
  refine Num.mk _ (wrapS (by omega)) ?_
  refine Num.mk _ (wrapS (by omega)) ?_
  refine ⟨xs.length - (i + 1), _, by omega, Weak.nrm [true, true, false, false, false, true] [(0, 0)] rfl rfl rfl, i + 1, ys.set i ((k + i : Nat) : Int), by omega, rfl, by simpa using hl, fun j hj => ?_, ?_⟩
  ·by_cases hji : j = i
   ·subst hji; exact List.getElem?_set_self hia
   ·rw [List.getElem?_set_ne (Ne.symm hji)]; exact hm j (by omega)
  ·refine Eq.trans (b := S ((ys.map encI).set i (encI ((k + i : Nat) : Int))) (i + 1) (k + i + 1)) rfl ?_
   simp only [List.map_set]
   rfl
def posT (k : Nat) (t : Tre) : Nat := posL (k + 5 * t.mem.length) t.levels + t.snaps.length
def mkT (k : Nat) (t : Tre) : Tre := ⟨t.seq, markL k t.mem.length, mkLs (k + 5 * t.mem.length) t.levels, markI (posL (k + 5 * t.mem.length) t.levels) t.snaps.length⟩
def argT (t : Tre) : AV := .agg [.c (vi t.seq), .ref 0 0 (.cell 0), .ref 1 0 (.cell 0), .ref 2 0 (.cell 0)]
def obsT (t : Tre) : List (List C) := [[.us 83 (t.mem.map Ent.enc)], [.us 110 (t.levels.map encLO)], [.us 3 (t.snaps.map encI)]]
theorem laws_markTree (t : Tre) (k : Nat) (hk : posT k t ≤ 4611686018427387904) : AFn Tryz.prog 40 [argT t, av (.int .i64 k)] (obsT t) (.one (vi (posT k t : Nat))) (obsT (mkT k t)) := by
 refine AFn.introX (E := En 3 (md1 [80, 81, 82]) [2]) (en_ok 3 _ _) Tryz.func40 rfl rfl rfl fun _ hs => ?_
 have h1 := posL_le t.levels (k + 5 * t.mem.length)
 unfold posT at hk
 refine ACall.mk _ _ (laws_markEntryS t.mem k (by omega)) ?_
 refine ACall.mk _ _ (laws_markRunSS t.levels (k + 5 * t.mem.length) (by omega)) ?_
 refine ACall.mk _ _ (laws_markIntS t.snaps (posL (k + 5 * t.mem.length) t.levels) (by omega)) ?_
 exact Need.mk ⟨[], _, .same, rfl, rfl⟩ trivial
theorem laws_heldEntryS (k n : Nat) (hk : k + 5 * n ≤ 4611686018427387904) : AFn Tryz.prog 83 [sl ((markL k n).map Ent.enc), av (.int .i64 k)] [] (.one (vi ((k + 5 * n : Nat) : Int))) [] := by
 refine AFn.introX (E := En 0 md0) (en_ok 0 md0) Tryz.func83 rfl rfl rfl fun _ _ => ?_
 have hn : ((markL k n).map Ent.enc).length = n := by rw [List.length_map, markL_len]
 refine ALoop.mk (fun m s => ∃ i : Nat, i ≤ n ∧ m = n - i ∧
   s = ⟨some (sl ((markL k n).map Ent.enc)) :: some (av (.int .i64 ((k + 5 * i : Nat) : Int))) :: none :: none :: none :: some (av (.int .i64 i)) :: List.replicate 54 none, List.replicate 60 absent⟩)
  ⟨n, _, Weak.nrm [true, true, false, false, false, true] [] rfl rfl rfl, 0, Nat.zero_le _, rfl, rfl⟩ ?_
 rintro m s ⟨i, hi, rfl, rfl⟩
 refine Split.mk fun t ht => ?_
 rw [hn] at ht
 cases t
 ·have hin : i = n := by simp at ht; omega
  subst hin
  exact Need.mk ⟨[], _, .same, rfl, rfl⟩ trivial
 ·have hin : i < n := by simpa using ht
  have hget : ((markL k n).map Ent.enc)[i]? = some (markE (k + 5 * i)).enc := by rw [List.getElem?_map, markL_get hin]; rfl
  refine nd ?_
  refine Row.mk _ hget ?_
  refine ACall.mk _ _ (laws_markText (k + 5 * i) (by omega)) ?_
  refine Split.mk fun t ht => ?_
  rw [bytes_beq] at ht
  cases t
  ·refine Need.mk rfl ?_
   refine Num.mk _ (wrapS (by omega)) ?_
   refine nd ?_
   refine Row.mk _ hget ?_
   refine Split.mk fun t ht => ?_
   cases t
   ·refine Num.mk _ (wrapS (by omega)) ?_
    refine nd ?_
    refine Row.mk _ hget ?_
    refine Split.mk fun t ht => ?_
    cases t
    ·refine Num.mk _ (wrapS (by omega)) ?_
     refine nd ?_
     refine Row.mk _ hget ?_
     refine ACall.mk _ _ (laws_markText (k + 5 * i + 1 + 1 + 1) (by omega)) ?_
     refine Split.mk fun t ht => ?_
     rw [bytes_beq] at ht
     cases t
     ·refine Need.mk rfl ?_
      refine Num.mk _ (wrapS (by omega)) ?_
      refine nd ?_
      refine Row.mk _ hget ?_
      refine Split.mk fun t ht => ?_
      cases t
      ·refine Num.mk _ (wrapS (by omega)) ?_
       refine Num.mk _ (wrapS (by omega)) ?_
       exact ⟨n - (i + 1), _, by omega, Weak.nrm [true, true, false, false, false, true] [] rfl rfl rfl, i + 1, by omega, rfl, rfl⟩
      ·simp [markE] at ht <;> omega
     ·simp [markE] at ht <;> omega
    ·simp [markE] at ht <;> omega
   ·simp [markE] at ht <;> omega
  ·simp [markE] at ht <;> omega
theorem laws_heldRunS (xs : List Rn) (k : Nat) (hk : posR k xs ≤ 4611686018427387904) : AFn Tryz.prog 131 [sl ((mkRs k xs).map Rn.enc), av (.int .i64 k)] [] (.one (vi (posR k xs : Nat))) [] := by
 refine AFn.introX (E := En 0 md0) (en_ok 0 md0) Tryz.func131 rfl rfl rfl fun _ _ => ?_
 have hn : ((mkRs k xs).map Rn.enc).length = xs.length := by rw [List.length_map, mkRs_len]
 have hxl := posR_len xs k
 refine ALoop.mk (fun m s => ∃ i : Nat, i ≤ xs.length ∧ m = xs.length - i ∧
   s = ⟨some (sl ((mkRs k xs).map Rn.enc)) :: some (av (.int .i64 ((posR k (xs.take i) : Nat) : Int))) :: none :: none :: none :: some (av (.int .i64 i)) :: List.replicate 25 none, List.replicate 31 absent⟩)
  ⟨xs.length, _, Weak.nrm [true, true, false, false, false, true] [] rfl rfl rfl, 0, Nat.zero_le _, rfl, rfl⟩ ?_
 rintro m s ⟨i, hi, rfl, rfl⟩
 refine Split.mk fun t ht => ?_
 rw [hn] at ht
 cases t
 ·have hin : i = xs.length := by simp at ht; omega
  subst hin
  refine Need.mk ⟨[], _, .same, ?_, rfl⟩ trivial
  rw [List.take_length]; rfl
 ·have hia : i < xs.length := by simpa using ht
  have hpos : posR k (xs.take (i + 1)) = posR k (xs.take i) + 5 * xs[i].ents.length + 1 := by rw [List.take_succ_eq_append_getElem hia, posR_app]; rfl
  have hle : posR k (xs.take (i + 1)) ≤ 4611686018427387904 := by
   have : posR k xs = posR (posR k (xs.take (i + 1))) (xs.drop (i + 1)) := by rw [← posR_app, List.take_append_drop]
   have h2 := posR_le (xs.drop (i + 1)) (posR k (xs.take (i + 1)))
   omega
  have hget : ((mkRs k xs).map Rn.enc)[i]? = some (mkR (posR k (xs.take i)) xs[i]).enc := by
   have h1 : mkRs k xs = mkRs k (xs.take i) ++ mkRs (posR k (xs.take i)) (xs.drop i) := by rw [← mkRs_app, List.take_append_drop]
   rw [List.getElem?_map, h1, List.getElem?_append_right (by rw [mkRs_len, List.length_take]; omega), mkRs_len, List.length_take, Nat.min_eq_left (by omega), Nat.sub_self, List.drop_eq_getElem_cons hia]
   rfl
  refine nd ?_
  refine Row.mk _ hget ?_
  refine ACall.mk _ _ (laws_heldEntryS (posR k (xs.take i)) xs[i].ents.length (by omega)) ?_
  refine Split.mk fun t ht => ?_
  cases t
  ·refine nd ?_
   refine Row.mk _ hget ?_
   refine Split.mk fun t ht => ?_
   cases t
   ·refine Num.mk _ (wrapS (by omega)) ?_
    refine Num.mk _ (wrapS (by omega)) ?_
    refine ⟨xs.length - (i + 1), _, by omega, Weak.nrm [true, true, false, false, false, true] [] rfl rfl rfl, i + 1, by omega, rfl, ?_⟩
    rw [hpos]; rfl
   ·simp [mkR] at ht
  ·simp at ht <;> omega
theorem laws_heldRunSS (xs : List (List Rn)) (k : Nat) (hk : posL k xs ≤ 4611686018427387904) : AFn Tryz.prog 84 [sl ((mkLs k xs).map encL), av (.int .i64 k)] [] (.one (vi (posL k xs : Nat))) [] := by
 refine AFn.introX (E := En 0 md0) (en_ok 0 md0) Tryz.func84 rfl rfl rfl fun hs _ => ?_
 have hn : ((mkLs k xs).map encL).length = xs.length := by rw [List.length_map, mkLs_len]
 have hxl := Small.len (hs _ (List.mem_cons_self ..))
 rw [hn] at hxl
 refine ALoop.mk (fun m s => ∃ i : Nat, i ≤ xs.length ∧ m = xs.length - i ∧
   s = ⟨some (sl ((mkLs k xs).map encL)) :: some (av (.int .i64 ((posL k (xs.take i) : Nat) : Int))) :: none :: none :: none :: some (av (.int .i64 i)) :: List.replicate 15 none, List.replicate 21 absent⟩)
  ⟨xs.length, _, Weak.nrm [true, true, false, false, false, true] [] rfl rfl rfl, 0, Nat.zero_le _, rfl, rfl⟩ ?_
 rintro m s ⟨i, hi, rfl, rfl⟩
 refine Split.mk fun t ht => ?_
 rw [hn] at ht
 cases t
 ·have hin : i = xs.length := by simp at ht; omega
  subst hin
  refine Need.mk ⟨[], _, .same, ?_, rfl⟩ trivial
  rw [List.take_length]; rfl
 ·have hia : i < xs.length := by simpa using ht
  have hpos : posL k (xs.take (i + 1)) = posR (posL k (xs.take i)) xs[i] := by rw [List.take_succ_eq_append_getElem hia, posL_app]; rfl
  have hle : posL k (xs.take (i + 1)) ≤ 4611686018427387904 := by
   have : posL k xs = posL (posL k (xs.take (i + 1))) (xs.drop (i + 1)) := by rw [← posL_app, List.take_append_drop]
   have h2 := posL_le (xs.drop (i + 1)) (posL k (xs.take (i + 1)))
   omega
  have hget : ((mkLs k xs).map encL)[i]? = some (encL (mkRs (posL k (xs.take i)) xs[i])) := by
   have h1 : mkLs k xs = mkLs k (xs.take i) ++ mkLs (posL k (xs.take i)) (xs.drop i) := by rw [← mkLs_app, List.take_append_drop]
   rw [List.getElem?_map, h1, List.getElem?_append_right (by rw [mkLs_len, List.length_take]; omega), mkLs_len, List.length_take, Nat.min_eq_left (by omega), Nat.sub_self, List.drop_eq_getElem_cons hia]
   rfl
  refine nd ?_
  refine Row.mk _ hget ?_
  refine ACall.mk _ _ (laws_heldRunS xs[i] (posL k (xs.take i)) (by omega)) ?_
  refine Split.mk fun t ht => ?_
  cases t
  ·refine Num.mk _ (wrapS (by omega)) ?_
   refine ⟨xs.length - (i + 1), _, by omega, Weak.nrm [true, true, false, false, false, true] [] rfl rfl rfl, i + 1, by omega, rfl, ?_⟩
   rw [hpos]; rfl
  ·simp at ht <;> omega
theorem laws_heldIntS (k n : Nat) (hk : k + n ≤ 4611686018427387904) : AFn Tryz.prog 85 [sl ((markI k n).map encI), av (.int .i64 k)] [] (.one (vi ((k + n : Nat) : Int))) [] := by
 refine AFn.introX (E := En 0 md0) (en_ok 0 md0) Tryz.func85 rfl rfl rfl fun _ _ => ?_
 have hn : ((markI k n).map encI).length = n := by rw [List.length_map, markI_len]
 refine ALoop.mk (fun m s => ∃ i : Nat, i ≤ n ∧ m = n - i ∧
   s = ⟨some (sl ((markI k n).map encI)) :: some (av (.int .i64 ((k + i : Nat) : Int))) :: none :: none :: none :: some (av (.int .i64 i)) :: List.replicate 15 none, List.replicate 21 absent⟩)
  ⟨n, _, Weak.nrm [true, true, false, false, false, true] [] rfl rfl rfl, 0, Nat.zero_le _, rfl, rfl⟩ ?_
 rintro m s ⟨i, hi, rfl, rfl⟩
 refine Split.mk fun t ht => ?_
 rw [hn] at ht
 cases t
 ·have hin : i = n := by simp at ht; omega
  subst hin
  exact Need.mk ⟨[], _, .same, rfl, rfl⟩ trivial
 ·have hin : i < n := by simpa using ht
  have hget : ((markI k n).map encI)[i]? = some (encI ((k + i : Nat) : Int)) := by rw [List.getElem?_map, markI_get hin]; rfl
  refine nd ?_
  refine Row.mk _ hget ?_
  refine Split.mk fun t ht => ?_
  cases t
  ·refine Num.mk _ (wrapS (by omega)) ?_
   refine Num.mk _ (wrapS (by omega)) ?_
   exact ⟨n - (i + 1), _, by omega, Weak.nrm [true, true, false, false, false, true] [] rfl rfl rfl, i + 1, by omega, rfl, rfl⟩
  ·simp at ht
theorem laws_heldTree (t : Tre) (k : Nat) (hk : posT k t ≤ 4611686018427387904) : AFn Tryz.prog 42 [.agg ((mkT k t).enc.map .c), av (.int .i64 k)] [] (.one (vi (posT k t : Nat))) [] := by
 refine AFn.introX (E := En 0 md0) (en_ok 0 md0) Tryz.func42 rfl rfl rfl fun _ hs => ?_
 have h1 := posL_le t.levels (k + 5 * t.mem.length)
 unfold posT at hk
 refine ACall.mk _ _ (laws_heldEntryS k t.mem.length (by omega)) ?_
 refine Split.mk fun b hb => ?_
 cases b
 ·refine ACall.mk _ _ (laws_heldRunSS t.levels (k + 5 * t.mem.length) (by omega)) ?_
  refine Split.mk fun b hb => ?_
  cases b
  ·refine ACall.mk _ _ (laws_heldIntS (posL (k + 5 * t.mem.length) t.levels) t.snaps.length (by omega)) ?_
   refine Split.mk fun b hb => ?_
   cases b
   ·exact Need.mk ⟨[], _, .same, rfl, rfl⟩ trivial
   ·simp at hb <;> omega
  ·simp at hb <;> omega
 ·simp at hb <;> omega
def posS (k : Nat) (s : Sto) : Nat := posL (posT k s.tree) s.disk.levels
def mkS (k : Nat) (s : Sto) : Sto := ⟨s.up, mkT k s.tree, ⟨s.disk.log, s.disk.safe, mkLs (posT k s.tree) s.disk.levels, s.disk.seq⟩⟩
theorem laws_markDisk (d : Dsk) (k : Nat) (hk : posL k d.levels ≤ 4611686018427387904) : AFn Tryz.prog 41 [.agg [.c (vs d.log), .c (vi d.safe), .ref 0 0 (.cell 0), .c (vi d.seq)], av (.int .i64 k)] [[.us 110 (d.levels.map encLO)]] (.one (vi (posL k d.levels : Nat))) [[.us 110 ((mkLs k d.levels).map encLO)]] := by
 refine AFn.introX (E := En 1 (md1 [81]) [2]) (en_ok 1 _ _) Tryz.func41 rfl rfl rfl fun _ hs => ?_
 refine ACall.mk _ _ (laws_markRunSS d.levels k hk) ?_
 exact Need.mk ⟨[], _, .same, rfl, rfl⟩ trivial
theorem laws_heldDisk (d : Dsk) (k : Nat) (hk : posL k d.levels ≤ 4611686018427387904) : AFn Tryz.prog 43 [.agg ((⟨d.log, d.safe, mkLs k d.levels, d.seq⟩ : Dsk).enc.map .c), av (.int .i64 k)] [] (.one (vi (posL k d.levels : Nat))) [] := by
 refine AFn.introX (E := En 0 md0) (en_ok 0 md0) Tryz.func43 rfl rfl rfl fun _ hs => ?_
 refine ACall.mk _ _ (laws_heldRunSS d.levels k hk) ?_
 refine Split.mk fun b hb => ?_
 cases b
 ·exact Need.mk ⟨[], _, .same, rfl, rfl⟩ trivial
 ·simp at hb <;> omega
def argS (s : Sto) : AV := .agg [.c (vb s.up), .c (vi s.tree.seq), .ref 0 0 (.cell 0), .ref 1 0 (.cell 0), .ref 2 0 (.cell 0), .c (vs s.disk.log), .c (vi s.disk.safe), .ref 3 0 (.cell 0), .c (vi s.disk.seq)]
def obsS (s : Sto) : List (List C) := obsT s.tree ++ [[.us 110 (s.disk.levels.map encLO)]]
theorem laws_markStore (s : Sto) (k : Nat) (hk : posS k s ≤ 4611686018427387904) : AFn Tryz.prog 14 [argS s, av (.int .i64 k)] (obsS s) (.one (vi (posS k s : Nat))) (obsS (mkS k s)) := by
 refine AFn.introX (E := En 4 (md1 [40, 41]) [2]) (en_ok 4 _ _) Tryz.func14 rfl rfl rfl fun _ hs => ?_
 have h1 := posL_le s.disk.levels (posT k s.tree)
 unfold posS at hk
 refine ACall.mk _ _ (laws_markTree s.tree k (by omega)) ?_
 refine ACall.mk _ _ (laws_markDisk s.disk (posT k s.tree) hk) ?_
 exact Need.mk ⟨[], _, .same, rfl, rfl⟩ trivial
theorem laws_heldStore (s : Sto) (k : Nat) (hk : posS k s ≤ 4611686018427387904) : AFn Tryz.prog 15 [.agg ((mkS k s).enc.map .c), av (.int .i64 k)] [] (.one (vi (posS k s : Nat))) [] := by
 refine AFn.introX (E := En 0 md0) (en_ok 0 md0) Tryz.func15 rfl rfl rfl fun _ hs => ?_
 have h1 := posL_le s.disk.levels (posT k s.tree)
 unfold posS at hk
 refine ACall.mk _ _ (laws_heldTree s.tree k (by omega)) ?_
 refine Split.mk fun b hb => ?_
 cases b
 ·refine ACall.mk _ _ (laws_heldDisk s.disk (posT k s.tree) hk) ?_
  refine Split.mk fun b hb => ?_
  cases b
  ·exact Need.mk ⟨[], _, .same, rfl, rfl⟩ trivial
  ·simp at hb <;> omega
 ·simp at hb <;> omega
theorem posS_sz {x : Sto} (h1 : x.tree.mem.length ≤ 1048576) (h2 : sizeRR x.tree.levels ≤ 1048576) (h3 : x.tree.snaps.length ≤ 1048576) (h4 : sizeRR x.disk.levels ≤ 1048576) : posS 1 x ≤ 20000000 := by
 have e1 := posL_sz x.tree.levels (1 + 5 * x.tree.mem.length)
 have e2 := posL_sz x.disk.levels (posT 1 x.tree)
 have e3 : posS 1 x = posL (posT 1 x.tree) x.disk.levels := rfl
 have e4 : posT 1 x.tree = posL (1 + 5 * x.tree.mem.length) x.tree.levels + x.tree.snaps.length := rfl
 omega
theorem sto_sz {a : Sto} (h : a.size ≤ 1048576) : a.tree.mem.length ≤ 1048576 ∧ sizeRR a.tree.levels ≤ 1048576 ∧ a.tree.snaps.length ≤ 1048576 ∧ sizeRR a.disk.levels ≤ 1048576 ∧ a.disk.log.size ≤ 1048576 := by
 have hz : a.size = (sizeE a.tree.mem + sizeRR a.tree.levels + a.tree.snaps.length) + (a.disk.log.size + sizeRR a.disk.levels) := rfl
 have h2 : a.tree.mem.length ≤ sizeE a.tree.mem := by unfold sizeE; omega
 omega
theorem posS_do {a : Sto} {d : Sto → Sto} (hd : storeOk a = true → posS 1 (d a) ≤ 20000000) : posS 1 (storeDo a d) ≤ 20000000 := by
 have hx : storeDo a d = if storeOk a then d a else sto00 := rfl
 rw [hx]
 split
 ·exact hd (by assumption)
 ·exact posS_sz (Nat.zero_le _) (Nat.zero_le _) (Nat.zero_le _) (Nat.zero_le _)
theorem pos_StoreFall {a : Sto} (h : a.size ≤ 1048576) (keep : Int) : posS 1 (storeDo a (fallD keep)) ≤ 20000000 := posS_do fun _ => by
 obtain ⟨h1, h2, h3, h4, h5⟩ := sto_sz h
 unfold fallD
 split
 ·exact posS_sz (Nat.zero_le _) (Nat.zero_le _) (Nat.zero_le _) h4
 ·exact posS_sz h1 h2 h3 h4
theorem laws_szEntry (e : Ent) (left : Nat) (he : e.Ok) (hl : left ≤ 1048576) : AFn Tryz.prog 121 [.agg (e.enc.map .c), av (.int .i64 left)] [] (.one (vi (cut e.size left))) [] := by
 refine AFn.introX (E := En 0 md0) (en_ok 0 md0) Tryz.func121 rfl rfl rfl fun _ _ => ?_
 obtain ⟨h1, h2⟩ := he
 have he : e.size = e.key.size + e.text.size := rfl
 unfold maxLen at h1 h2
 have fin : ∀ {z : Int}, z = cut e.size left → RV.one (vi z) = RV.one (vi (cut e.size left)) := fun h => by rw [h]
 refine Num.mk ((left : Int) - e.key.size) (by rw [IntKind.wrap_i64]; omega) ?_
 refine Split.mk fun t ht => ?_
 cases t
 ·have h3 : e.key.size ≤ left := by simp at ht; omega
  refine Num.mk ((left : Int) - e.key.size - e.text.size) (by rw [IntKind.wrap_i64]; omega) ?_
  refine Split.mk fun t ht => ?_
  cases t
  ·have h4 : e.size ≤ left := by simp at ht; omega
   exact Need.mk ⟨[], _, .same, fin (by rw [cut_pos h4]; omega), rfl⟩ trivial
  ·have h4 : ¬ e.size ≤ left := by simp at ht; omega
   exact Need.mk ⟨[], _, .same, fin (by rw [cut_neg h4]), rfl⟩ trivial
 ·have h4 : ¬ e.size ≤ left := by simp at ht; omega
  exact Need.mk ⟨[], _, .same, fin (by rw [cut_neg h4]), rfl⟩ trivial
theorem laws_szEntryS (xs : List Ent) (left : Nat) (he : OkE xs) (hl : left ≤ 1048576) : AFn Tryz.prog 66 [sl (xs.map Ent.enc), av (.int .i64 left)] [] (.one (vi (cut (sizeE xs) left))) [] := by
 refine AFn.introX (E := En 0 md0) (en_ok 0 md0) Tryz.func66 rfl rfl rfl fun hs _ => ?_
 have hn : (xs.map Ent.enc).length = xs.length := List.length_map ..
 have hx := Small.len (hs _ (List.mem_cons_self ..))
 rw [hn] at hx
 have hz : sizeE xs = xs.length + (xs.map Ent.size).sum := rfl
 have fin : ∀ {z : Int}, z = cut (sizeE xs) left → RV.one (vi z) = RV.one (vi (cut (sizeE xs) left)) := fun h => by rw [h]
 refine Num.mk ((left : Int) - xs.length) (by rw [hn, IntKind.wrap_i64]; omega) ?_
 refine Split.mk fun t ht => ?_
 cases t
 ·have h3 : xs.length ≤ left := by simp at ht; omega
  refine ALoop.mk (fun m s => ∃ (i r : Nat), i ≤ xs.length ∧ m = xs.length - i ∧ xs.length + ((xs.take i).map Ent.size).sum + r = left ∧
    s = ⟨some (sl (xs.map Ent.enc)) :: some (av (.int .i64 r)) :: none :: none :: none :: some (av (.int .i64 i)) :: List.replicate 21 none, List.replicate 27 absent⟩)
   ⟨xs.length, _, Weak.nrm [true, true, false, false, false, true] [] rfl rfl rfl, 0, left - xs.length, Nat.zero_le _, rfl, by simp; omega, ?_⟩ ?_
  ·rw [show ((left - xs.length : Nat) : Int) = (left : Int) - xs.length by omega]; rfl
  rintro m s ⟨i, r, hi, rfl, hr, rfl⟩
  refine Split.mk fun t ht => ?_
  rw [hn] at ht
  cases t
  ·have hin : i = xs.length := by simp at ht; omega
   subst hin
   rw [List.take_length] at hr
   exact Need.mk ⟨[], _, .same, fin (by rw [cut_pos (by omega)]; omega), rfl⟩ trivial
  ·have hia : i < xs.length := by simpa using ht
   have hsum := sum_take Ent.size xs hia
   have hle := sum_take_le Ent.size xs (i + 1)
   refine nd ?_
   refine Row.mk _ (map_get _ xs i hia) ?_
   refine ACall.mk _ _ (laws_szEntry xs[i] r (he _ (List.getElem_mem _)) (by omega)) ?_
   refine Split.mk fun t ht => ?_
   rw [cut_lt] at ht
   cases t
   ·have h4 : xs[i].size ≤ r := by simpa using ht
    refine Num.mk _ (wrapS (by omega)) ?_
    refine ⟨xs.length - (i + 1), _, by omega, Weak.nrm [true, true, false, false, false, true] [] rfl rfl rfl, i + 1, r - xs[i].size, by omega, rfl, by omega, ?_⟩
    rw [← cut_pos h4]; rfl
   ·have h4 : ¬ xs[i].size ≤ r := by simpa using ht
    exact Need.mk ⟨[], _, .same, fin (by rw [cut_neg (by omega)]), rfl⟩ trivial
 ·have h4 : ¬ sizeE xs ≤ left := by simp at ht; omega
  exact Need.mk ⟨[], _, .same, fin (by rw [cut_neg h4]), rfl⟩ trivial
theorem laws_szRun (r : Rn) (left : Nat) (he : OkE r.ents) (hl : left ≤ 1048576) : AFn Tryz.prog 168 [.agg (r.enc.map .c), av (.int .i64 left)] [] (.one (vi (cut (sizeE r.ents) left))) [] := by
 refine AFn.introX (E := En 0 md0) (en_ok 0 md0) Tryz.func168 rfl rfl rfl fun _ _ => ?_
 refine ACall.mk _ _ (laws_szEntryS r.ents left he hl) ?_
 refine Split.mk fun t ht => ?_
 rw [cut_lt] at ht
 cases t
 ·exact Need.mk ⟨[], _, .same, rfl, rfl⟩ trivial
 ·exact Need.mk ⟨[], _, .same, by rw [cut_neg (by simpa using ht)]; rfl, rfl⟩ trivial
theorem laws_szRunS (xs : List Rn) (left : Nat) (he : OkR xs) (hl : left ≤ 1048576) : AFn Tryz.prog 122 [sl (xs.map Rn.enc), av (.int .i64 left)] [] (.one (vi (cut (sizeR xs) left))) [] := by
 refine AFn.introX (E := En 0 md0) (en_ok 0 md0) Tryz.func122 rfl rfl rfl fun hs _ => ?_
 have hn : (xs.map Rn.enc).length = xs.length := List.length_map ..
 have hx := Small.len (hs _ (List.mem_cons_self ..))
 rw [hn] at hx
 have hz : sizeR xs = xs.length + (xs.map (fun r : Rn => sizeE r.ents)).sum := rfl
 have fin : ∀ {z : Int}, z = cut (sizeR xs) left → RV.one (vi z) = RV.one (vi (cut (sizeR xs) left)) := fun h => by rw [h]
 refine Num.mk ((left : Int) - xs.length) (by rw [hn, IntKind.wrap_i64]; omega) ?_
 refine Split.mk fun t ht => ?_
 cases t
 ·have h3 : xs.length ≤ left := by simp at ht; omega
  refine ALoop.mk (fun m s => ∃ (i r : Nat), i ≤ xs.length ∧ m = xs.length - i ∧ xs.length + ((xs.take i).map (fun r : Rn => sizeE r.ents)).sum + r = left ∧
    s = ⟨some (sl (xs.map Rn.enc)) :: some (av (.int .i64 r)) :: none :: none :: none :: some (av (.int .i64 i)) :: List.replicate 21 none, List.replicate 27 absent⟩)
   ⟨xs.length, _, Weak.nrm [true, true, false, false, false, true] [] rfl rfl rfl, 0, left - xs.length, Nat.zero_le _, rfl, by simp; omega, ?_⟩ ?_
  ·rw [show ((left - xs.length : Nat) : Int) = (left : Int) - xs.length by omega]; rfl
  rintro m s ⟨i, r, hi, rfl, hr, rfl⟩
  refine Split.mk fun t ht => ?_
  rw [hn] at ht
  cases t
  ·have hin : i = xs.length := by simp at ht; omega
   subst hin
   rw [List.take_length] at hr
   exact Need.mk ⟨[], _, .same, fin (by rw [cut_pos (by omega)]; omega), rfl⟩ trivial
  ·have hia : i < xs.length := by simpa using ht
   have hsum := sum_take (fun r : Rn => sizeE r.ents) xs hia
   have hle := sum_take_le (fun r : Rn => sizeE r.ents) xs (i + 1)
   refine nd ?_
   refine Row.mk _ (map_get _ xs i hia) ?_
   refine ACall.mk _ _ (laws_szRun xs[i] r (he _ (List.getElem_mem _)) (by omega)) ?_
   refine Split.mk fun t ht => ?_
   rw [cut_lt] at ht
   cases t
   ·have h4 : (sizeE xs[i].ents) ≤ r := by simpa using ht
    refine Num.mk _ (wrapS (by omega)) ?_
    refine ⟨xs.length - (i + 1), _, by omega, Weak.nrm [true, true, false, false, false, true] [] rfl rfl rfl, i + 1, r - (sizeE xs[i].ents), by omega, rfl, by omega, ?_⟩
    rw [← cut_pos h4]; rfl
   ·have h4 : ¬ (sizeE xs[i].ents) ≤ r := by simpa using ht
    exact Need.mk ⟨[], _, .same, fin (by rw [cut_neg (by omega)]), rfl⟩ trivial
 ·have h4 : ¬ sizeR xs ≤ left := by simp at ht; omega
  exact Need.mk ⟨[], _, .same, fin (by rw [cut_neg h4]), rfl⟩ trivial
theorem laws_szRunSS (xs : List (List Rn)) (left : Nat) (he : OkRR xs) (hl : left ≤ 1048576) : AFn Tryz.prog 67 [sl (xs.map encL), av (.int .i64 left)] [] (.one (vi (cut (sizeRR xs) left))) [] := by
 refine AFn.introX (E := En 0 md0) (en_ok 0 md0) Tryz.func67 rfl rfl rfl fun hs _ => ?_
 have hn : (xs.map encL).length = xs.length := List.length_map ..
 have hx := Small.len (hs _ (List.mem_cons_self ..))
 rw [hn] at hx
 have hz : sizeRR xs = xs.length + (xs.map sizeR).sum := rfl
 have fin : ∀ {z : Int}, z = cut (sizeRR xs) left → RV.one (vi z) = RV.one (vi (cut (sizeRR xs) left)) := fun h => by rw [h]
 refine Num.mk ((left : Int) - xs.length) (by rw [hn, IntKind.wrap_i64]; omega) ?_
 refine Split.mk fun t ht => ?_
 cases t
 ·have h3 : xs.length ≤ left := by simp at ht; omega
  refine ALoop.mk (fun m s => ∃ (i r : Nat), i ≤ xs.length ∧ m = xs.length - i ∧ xs.length + ((xs.take i).map sizeR).sum + r = left ∧
    s = ⟨some (sl (xs.map encL)) :: some (av (.int .i64 r)) :: none :: none :: none :: some (av (.int .i64 i)) :: List.replicate 21 none, List.replicate 27 absent⟩)
   ⟨xs.length, _, Weak.nrm [true, true, false, false, false, true] [] rfl rfl rfl, 0, left - xs.length, Nat.zero_le _, rfl, by simp; omega, ?_⟩ ?_
  ·rw [show ((left - xs.length : Nat) : Int) = (left : Int) - xs.length by omega]; rfl
  rintro m s ⟨i, r, hi, rfl, hr, rfl⟩
  refine Split.mk fun t ht => ?_
  rw [hn] at ht
  cases t
  ·have hin : i = xs.length := by simp at ht; omega
   subst hin
   rw [List.take_length] at hr
   exact Need.mk ⟨[], _, .same, fin (by rw [cut_pos (by omega)]; omega), rfl⟩ trivial
  ·have hia : i < xs.length := by simpa using ht
   have hsum := sum_take sizeR xs hia
   have hle := sum_take_le sizeR xs (i + 1)
   refine nd ?_
   refine Row.mk _ (map_get _ xs i hia) ?_
   refine ACall.mk _ _ (laws_szRunS xs[i] r (he _ (List.getElem_mem _)) (by omega)) ?_
   refine Split.mk fun t ht => ?_
   rw [cut_lt] at ht
   cases t
   ·have h4 : (sizeR xs[i]) ≤ r := by simpa using ht
    refine Num.mk _ (wrapS (by omega)) ?_
    refine ⟨xs.length - (i + 1), _, by omega, Weak.nrm [true, true, false, false, false, true] [] rfl rfl rfl, i + 1, r - (sizeR xs[i]), by omega, rfl, by omega, ?_⟩
    rw [← cut_pos h4]; rfl
   ·have h4 : ¬ (sizeR xs[i]) ≤ r := by simpa using ht
    exact Need.mk ⟨[], _, .same, fin (by rw [cut_neg (by omega)]), rfl⟩ trivial
 ·have h4 : ¬ sizeRR xs ≤ left := by simp at ht; omega
  exact Need.mk ⟨[], _, .same, fin (by rw [cut_neg h4]), rfl⟩ trivial
theorem laws_szIntS (xs : List Int) (left : Nat) (hl : left ≤ 1048576) : AFn Tryz.prog 68 [sl (xs.map encI), av (.int .i64 left)] [] (.one (vi (cut xs.length left))) [] := by
 refine AFn.introX (E := En 0 md0) (en_ok 0 md0) Tryz.func68 rfl rfl rfl fun hs _ => ?_
 have hn : (xs.map encI).length = xs.length := List.length_map ..
 have hx := Small.len (hs _ (List.mem_cons_self ..))
 rw [hn] at hx
 have fin : ∀ {z : Int}, z = cut xs.length left → RV.one (vi z) = RV.one (vi (cut xs.length left)) := fun h => by rw [h]
 refine Num.mk ((left : Int) - xs.length) (by rw [hn, IntKind.wrap_i64]; omega) ?_
 refine Split.mk fun t ht => ?_
 cases t
 ·have h3 : xs.length ≤ left := by simp at ht; omega
  exact Need.mk ⟨[], _, .same, fin (by rw [cut_pos h3]; omega), rfl⟩ trivial
 ·have h3 : ¬ xs.length ≤ left := by simp at ht; omega
  exact Need.mk ⟨[], _, .same, fin (by rw [cut_neg h3]), rfl⟩ trivial
theorem laws_szTree (t : Tre) (left : Nat) (he : t.Ok) (hl : left ≤ 1048576) : AFn Tryz.prog 29 [.agg (t.enc.map .c), av (.int .i64 left)] [] (.one (vi (cut t.size left))) [] := by
 refine AFn.introX (E := En 0 md0) (en_ok 0 md0) Tryz.func29 rfl rfl rfl fun _ _ => ?_
 have hz : t.size = sizeE t.mem + sizeRR t.levels + t.snaps.length := rfl
 have fin : ∀ {z : Int}, z = cut t.size left → RV.one (vi z) = RV.one (vi (cut t.size left)) := fun h => by rw [h]
 by_cases h1 : sizeE t.mem ≤ left
 ·refine ACall.mk (.one (vi ((left - sizeE t.mem : Nat) : Int))) [] (by rw [← cut_pos h1]; exact laws_szEntryS t.mem left he.1 hl) ?_
  refine Split.mk fun b hb => ?_
  cases b
  ·by_cases h2 : sizeRR t.levels ≤ left - sizeE t.mem
   ·refine ACall.mk (.one (vi ((left - sizeE t.mem - sizeRR t.levels : Nat) : Int))) [] (by rw [← cut_pos h2]; exact laws_szRunSS t.levels (left - sizeE t.mem) he.2 (by omega)) ?_
    refine Split.mk fun b hb => ?_
    cases b
    ·by_cases h3 : t.snaps.length ≤ left - sizeE t.mem - sizeRR t.levels
     ·refine ACall.mk (.one (vi ((left - sizeE t.mem - sizeRR t.levels - t.snaps.length : Nat) : Int))) [] (by rw [← cut_pos h3]; exact laws_szIntS t.snaps _ (by omega)) ?_
      refine Split.mk fun b hb => ?_
      cases b
      ·exact Need.mk ⟨[], _, .same, fin (by rw [cut_pos (by omega)]; omega), rfl⟩ trivial
      ·simp at hb <;> omega
     ·refine ACall.mk (.one (vi (-1))) [] (by rw [← cut_neg h3]; exact laws_szIntS t.snaps _ (by omega)) ?_
      refine Split.mk fun b hb => ?_
      cases b
      ·simp at hb
      ·exact Need.mk ⟨[], _, .same, fin (by rw [cut_neg (by omega)]), rfl⟩ trivial
    ·simp at hb <;> omega
   ·refine ACall.mk (.one (vi (-1))) [] (by rw [← cut_neg h2]; exact laws_szRunSS t.levels (left - sizeE t.mem) he.2 (by omega)) ?_
    refine Split.mk fun b hb => ?_
    cases b
    ·simp at hb
    ·exact Need.mk ⟨[], _, .same, fin (by rw [cut_neg (by omega)]), rfl⟩ trivial
  ·simp at hb <;> omega
 ·refine ACall.mk (.one (vi (-1))) [] (by rw [← cut_neg h1]; exact laws_szEntryS t.mem left he.1 hl) ?_
  refine Split.mk fun b hb => ?_
  cases b
  ·simp at hb
  ·exact Need.mk ⟨[], _, .same, fin (by rw [cut_neg (by omega)]), rfl⟩ trivial
theorem laws_szDisk (d : Dsk) (left : Nat) (he : d.Ok) (hl : left ≤ 1048576) : AFn Tryz.prog 30 [.agg (d.enc.map .c), av (.int .i64 left)] [] (.one (vi (cut d.size left))) [] := by
 refine AFn.introX (E := En 0 md0) (en_ok 0 md0) Tryz.func30 rfl rfl rfl fun _ _ => ?_
 obtain ⟨h0, h1⟩ := he
 unfold maxLen at h0
 have hz : d.size = d.log.size + sizeRR d.levels := rfl
 have fin : ∀ {z : Int}, z = cut d.size left → RV.one (vi z) = RV.one (vi (cut d.size left)) := fun h => by rw [h]
 by_cases h2 : d.log.size ≤ left
 ·refine Num.mk ((left - d.log.size : Nat) : Int) (by rw [IntKind.wrap_i64]; omega) ?_
  refine Split.mk fun b hb => ?_
  cases b
  ·by_cases h3 : sizeRR d.levels ≤ left - d.log.size
   ·refine ACall.mk (.one (vi ((left - d.log.size - sizeRR d.levels : Nat) : Int))) [] (by rw [← cut_pos h3]; exact laws_szRunSS d.levels _ h1 (by omega)) ?_
    refine Split.mk fun b hb => ?_
    cases b
    ·exact Need.mk ⟨[], _, .same, fin (by rw [cut_pos (by omega)]; omega), rfl⟩ trivial
    ·simp at hb <;> omega
   ·refine ACall.mk (.one (vi (-1))) [] (by rw [← cut_neg h3]; exact laws_szRunSS d.levels _ h1 (by omega)) ?_
    refine Split.mk fun b hb => ?_
    cases b
    ·simp at hb
    ·exact Need.mk ⟨[], _, .same, fin (by rw [cut_neg (by omega)]), rfl⟩ trivial
  ·simp at hb <;> omega
 ·refine Num.mk ((left : Int) - d.log.size) (by rw [IntKind.wrap_i64]; omega) ?_
  refine Split.mk fun b hb => ?_
  cases b
  ·simp at hb <;> omega
  ·exact Need.mk ⟨[], _, .same, fin (by rw [cut_neg (by omega)]), rfl⟩ trivial
theorem laws_szStore (s : Sto) (left : Nat) (he : s.Ok) (hl : left ≤ 1048576) : AFn Tryz.prog 9 [.agg (s.enc.map .c), av (.int .i64 left)] [] (.one (vi (cut s.size left))) [] := by
 refine AFn.introX (E := En 0 md0) (en_ok 0 md0) Tryz.func9 rfl rfl rfl fun _ _ => ?_
 have hz : s.size = s.tree.size + s.disk.size := rfl
 have fin : ∀ {z : Int}, z = cut s.size left → RV.one (vi z) = RV.one (vi (cut s.size left)) := fun h => by rw [h]
 by_cases h1 : s.tree.size ≤ left
 ·refine ACall.mk (.one (vi ((left - s.tree.size : Nat) : Int))) [] (by rw [← cut_pos h1]; exact laws_szTree s.tree left he.1 hl) ?_
  refine Split.mk fun b hb => ?_
  cases b
  ·by_cases h2 : s.disk.size ≤ left - s.tree.size
   ·refine ACall.mk (.one (vi ((left - s.tree.size - s.disk.size : Nat) : Int))) [] (by rw [← cut_pos h2]; exact laws_szDisk s.disk _ he.2 (by omega)) ?_
    refine Split.mk fun b hb => ?_
    cases b
    ·exact Need.mk ⟨[], _, .same, fin (by rw [cut_pos (by omega)]; omega), rfl⟩ trivial
    ·simp at hb <;> omega
   ·refine ACall.mk (.one (vi (-1))) [] (by rw [← cut_neg h2]; exact laws_szDisk s.disk _ he.2 (by omega)) ?_
    refine Split.mk fun b hb => ?_
    cases b
    ·simp at hb
    ·exact Need.mk ⟨[], _, .same, fin (by rw [cut_neg (by omega)]), rfl⟩ trivial
  ·simp at hb <;> omega
 ·refine ACall.mk (.one (vi (-1))) [] (by rw [← cut_neg h1]; exact laws_szTree s.tree left he.1 hl) ?_
  refine Split.mk fun b hb => ?_
  cases b
  ·simp at hb
  ·exact Need.mk ⟨[], _, .same, fin (by rw [cut_neg (by omega)]), rfl⟩ trivial
theorem laws_eqEntry (a b : Ent) : AFn Tryz.prog 127 [.agg (a.enc.map .c), .agg (b.enc.map .c)] [] (rb (decide (a = b))) [] := by
 refine AFn.introX (E := En 0 md0) (en_ok 0 md0) Tryz.func127 rfl rfl rfl fun _ _ => ?_
 have fin : ∀ {c : Bool}, c = decide (a = b) → rb c = rb (decide (a = b)) := fun h => by rw [h]
 refine Split.mk fun t ht => ?_
 rw [bytes_beq] at ht
 cases t
 ·refine Split.mk fun t ht1 => ?_
  cases t
  ·refine Split.mk fun t ht2 => ?_
   cases t
   ·refine Split.mk fun t ht3 => ?_
    rw [bytes_beq] at ht3
    cases t
    ·refine Split.mk fun t ht4 => ?_
     cases t
     ·exact Need.mk ⟨[], _, .same, fin (by cases a; cases b; simp_all), rfl⟩ trivial
     ·exact Need.mk ⟨[], _, .same, fin (by cases a; cases b; simp_all), rfl⟩ trivial
    ·exact Need.mk ⟨[], _, .same, fin (by cases a; cases b; simp_all), rfl⟩ trivial
   ·exact Need.mk ⟨[], _, .same, fin (by cases a; cases b; simp_all), rfl⟩ trivial
  ·exact Need.mk ⟨[], _, .same, fin (by cases a; cases b; simp_all), rfl⟩ trivial
 ·exact Need.mk ⟨[], _, .same, fin (by cases a; cases b; simp_all), rfl⟩ trivial
theorem laws_eqEntryS (a b : List Ent) : AFn Tryz.prog 77 [sl (a.map Ent.enc), sl (b.map Ent.enc)] [] (rb (decide (a = b))) [] := by
 refine AFn.introX (E := En 0 md0) (en_ok 0 md0) Tryz.func77 rfl rfl rfl fun hs _ => ?_
 have ha := Small.len (hs _ (List.mem_cons_self ..))
 rw [List.length_map] at ha
 have fin : ∀ {c : Bool}, c = decide (a = b) → rb c = rb (decide (a = b)) := fun h => by rw [h]
 refine Split.mk fun t ht => ?_
 cases t
 ·have hl : a.length = b.length := Int.ofNat_inj.1 (by simpa using ht)
  refine ALoop.mk (fun n s => ∃ i : Nat, i ≤ a.length ∧ n = a.length - i ∧ a.take i = b.take i ∧
   s = ⟨some (sl (a.map Ent.enc)) :: some (sl (b.map Ent.enc)) :: none :: none :: some (av (.bool false)) :: some (av (.int .i64 i)) :: List.replicate 21 none, List.replicate 27 absent⟩)
   ⟨a.length, _, Weak.nrm [true, true, false, false, true, true] [] rfl rfl rfl, 0, Nat.zero_le _, rfl, rfl, rfl⟩ ?_
  rintro n s ⟨i, hi, rfl, hp, rfl⟩
  refine Split.mk fun t ht => ?_
  cases t
  ·have hia : i = a.length := by simp at ht; omega
   refine Need.mk ⟨[], _, .same, fin ?_, rfl⟩ trivial
   subst hia
   rw [List.take_length, hl, List.take_length] at hp
   simp [hp]
  ·have hia : i < a.length := by simpa using ht
   refine nd ?_
   refine Row.mk _ (map_get _ a i hia) ?_
   refine nd ?_
   refine Row.mk _ (map_get _ b i (by omega)) ?_
   refine ACall.mk _ _ (laws_eqEntry a[i] (b[i]'(by omega))) ?_
   refine Split.mk fun t ht2 => ?_
   cases t
   ·refine Need.mk rfl ?_
    refine Need.mk ⟨[], _, .same, fin ?_, rfl⟩ trivial
    have : a[i] ≠ b[i]'(by omega) := by simpa using ht2
    refine (decide_eq_false fun e => this ?_).symm
    subst e; rfl
   ·refine Need.mk rfl ?_
    refine Num.mk _ (wrapS (by omega)) ?_
    refine ⟨a.length - (i + 1), _, by omega, Weak.nrm [true, true, false, false, true, true] [] rfl rfl rfl, i + 1, by omega, rfl, ?_, rfl⟩
    have : a[i] = b[i]'(by omega) := by simpa using ht2
    rw [List.take_succ_eq_append_getElem hia, List.take_succ_eq_append_getElem (by omega), hp, this]
 ·refine Need.mk ⟨[], _, .same, fin ?_, rfl⟩ trivial
  have : a.length ≠ b.length := by
   intro e; simp [e] at ht
  exact (decide_eq_false fun e => this (by rw [e])).symm
theorem laws_eqRun (a b : Rn) : AFn Tryz.prog 171 [.agg (a.enc.map .c), .agg (b.enc.map .c)] [] (rb (decide (a = b))) [] := by
 refine AFn.introX (E := En 0 md0) (en_ok 0 md0) Tryz.func171 rfl rfl rfl fun _ _ => ?_
 have fin : ∀ {c : Bool}, c = decide (a = b) → rb c = rb (decide (a = b)) := fun h => by rw [h]
 refine ACall.mk _ _ (laws_eqEntryS a.ents b.ents) ?_
 refine Split.mk fun t ht => ?_
 cases t
 ·exact Need.mk ⟨[], _, .same, fin (by cases a; cases b; simp_all), rfl⟩ trivial
 ·refine Split.mk fun t ht1 => ?_
  cases t
  ·exact Need.mk ⟨[], _, .same, fin (by cases a; cases b; simp_all), rfl⟩ trivial
  ·exact Need.mk ⟨[], _, .same, fin (by cases a; cases b; simp_all), rfl⟩ trivial
theorem laws_eqRunS (a b : List Rn) : AFn Tryz.prog 128 [sl (a.map Rn.enc), sl (b.map Rn.enc)] [] (rb (decide (a = b))) [] := by
 refine AFn.introX (E := En 0 md0) (en_ok 0 md0) Tryz.func128 rfl rfl rfl fun hs _ => ?_
 have ha := Small.len (hs _ (List.mem_cons_self ..))
 rw [List.length_map] at ha
 have fin : ∀ {c : Bool}, c = decide (a = b) → rb c = rb (decide (a = b)) := fun h => by rw [h]
 refine Split.mk fun t ht => ?_
 cases t
 ·have hl : a.length = b.length := Int.ofNat_inj.1 (by simpa using ht)
  refine ALoop.mk (fun n s => ∃ i : Nat, i ≤ a.length ∧ n = a.length - i ∧ a.take i = b.take i ∧
   s = ⟨some (sl (a.map Rn.enc)) :: some (sl (b.map Rn.enc)) :: none :: none :: some (av (.bool false)) :: some (av (.int .i64 i)) :: List.replicate 21 none, List.replicate 27 absent⟩)
   ⟨a.length, _, Weak.nrm [true, true, false, false, true, true] [] rfl rfl rfl, 0, Nat.zero_le _, rfl, rfl, rfl⟩ ?_
  rintro n s ⟨i, hi, rfl, hp, rfl⟩
  refine Split.mk fun t ht => ?_
  cases t
  ·have hia : i = a.length := by simp at ht; omega
   refine Need.mk ⟨[], _, .same, fin ?_, rfl⟩ trivial
   subst hia
   rw [List.take_length, hl, List.take_length] at hp
   simp [hp]
  ·have hia : i < a.length := by simpa using ht
   refine nd ?_
   refine Row.mk _ (map_get _ a i hia) ?_
   refine nd ?_
   refine Row.mk _ (map_get _ b i (by omega)) ?_
   refine ACall.mk _ _ (laws_eqRun a[i] (b[i]'(by omega))) ?_
   refine Split.mk fun t ht2 => ?_
   cases t
   ·refine Need.mk rfl ?_
    refine Need.mk ⟨[], _, .same, fin ?_, rfl⟩ trivial
    have : a[i] ≠ b[i]'(by omega) := by simpa using ht2
    refine (decide_eq_false fun e => this ?_).symm
    subst e; rfl
   ·refine Need.mk rfl ?_
    refine Num.mk _ (wrapS (by omega)) ?_
    refine ⟨a.length - (i + 1), _, by omega, Weak.nrm [true, true, false, false, true, true] [] rfl rfl rfl, i + 1, by omega, rfl, ?_, rfl⟩
    have : a[i] = b[i]'(by omega) := by simpa using ht2
    rw [List.take_succ_eq_append_getElem hia, List.take_succ_eq_append_getElem (by omega), hp, this]
 ·refine Need.mk ⟨[], _, .same, fin ?_, rfl⟩ trivial
  have : a.length ≠ b.length := by
   intro e; simp [e] at ht
  exact (decide_eq_false fun e => this (by rw [e])).symm
theorem laws_eqRunSS (a b : List (List Rn)) : AFn Tryz.prog 78 [sl (a.map encL), sl (b.map encL)] [] (rb (decide (a = b))) [] := by
 refine AFn.introX (E := En 0 md0) (en_ok 0 md0) Tryz.func78 rfl rfl rfl fun hs _ => ?_
 have ha := Small.len (hs _ (List.mem_cons_self ..))
 rw [List.length_map] at ha
 have fin : ∀ {c : Bool}, c = decide (a = b) → rb c = rb (decide (a = b)) := fun h => by rw [h]
 refine Split.mk fun t ht => ?_
 cases t
 ·have hl : a.length = b.length := Int.ofNat_inj.1 (by simpa using ht)
  refine ALoop.mk (fun n s => ∃ i : Nat, i ≤ a.length ∧ n = a.length - i ∧ a.take i = b.take i ∧
   s = ⟨some (sl (a.map encL)) :: some (sl (b.map encL)) :: none :: none :: some (av (.bool false)) :: some (av (.int .i64 i)) :: List.replicate 21 none, List.replicate 27 absent⟩)
   ⟨a.length, _, Weak.nrm [true, true, false, false, true, true] [] rfl rfl rfl, 0, Nat.zero_le _, rfl, rfl, rfl⟩ ?_
  rintro n s ⟨i, hi, rfl, hp, rfl⟩
  refine Split.mk fun t ht => ?_
  cases t
  ·have hia : i = a.length := by simp at ht; omega
   refine Need.mk ⟨[], _, .same, fin ?_, rfl⟩ trivial
   subst hia
   rw [List.take_length, hl, List.take_length] at hp
   simp [hp]
  ·have hia : i < a.length := by simpa using ht
   refine nd ?_
   refine Row.mk _ (map_get _ a i hia) ?_
   refine nd ?_
   refine Row.mk _ (map_get _ b i (by omega)) ?_
   refine ACall.mk _ _ (laws_eqRunS a[i] (b[i]'(by omega))) ?_
   refine Split.mk fun t ht2 => ?_
   cases t
   ·refine Need.mk rfl ?_
    refine Need.mk ⟨[], _, .same, fin ?_, rfl⟩ trivial
    have : a[i] ≠ b[i]'(by omega) := by simpa using ht2
    refine (decide_eq_false fun e => this ?_).symm
    subst e; rfl
   ·refine Need.mk rfl ?_
    refine Num.mk _ (wrapS (by omega)) ?_
    refine ⟨a.length - (i + 1), _, by omega, Weak.nrm [true, true, false, false, true, true] [] rfl rfl rfl, i + 1, by omega, rfl, ?_, rfl⟩
    have : a[i] = b[i]'(by omega) := by simpa using ht2
    rw [List.take_succ_eq_append_getElem hia, List.take_succ_eq_append_getElem (by omega), hp, this]
 ·refine Need.mk ⟨[], _, .same, fin ?_, rfl⟩ trivial
  have : a.length ≠ b.length := by
   intro e; simp [e] at ht
  exact (decide_eq_false fun e => this (by rw [e])).symm
theorem laws_eqIntS (a b : List Int) : AFn Tryz.prog 79 [sl (a.map encI), sl (b.map encI)] [] (rb (decide (a = b))) [] := by
 refine AFn.introX (E := En 0 md0) (en_ok 0 md0) Tryz.func79 rfl rfl rfl fun hs _ => ?_
 have ha := Small.len (hs _ (List.mem_cons_self ..))
 rw [List.length_map] at ha
 have fin : ∀ {c : Bool}, c = decide (a = b) → rb c = rb (decide (a = b)) := fun h => by rw [h]
 refine Split.mk fun t ht => ?_
 cases t
 ·have hl : a.length = b.length := Int.ofNat_inj.1 (by simpa using ht)
  refine ALoop.mk (fun n s => ∃ i : Nat, i ≤ a.length ∧ n = a.length - i ∧ a.take i = b.take i ∧
   s = ⟨some (sl (a.map encI)) :: some (sl (b.map encI)) :: none :: none :: some (av (.bool false)) :: some (av (.int .i64 i)) :: List.replicate 20 none, List.replicate 26 absent⟩)
   ⟨a.length, _, Weak.nrm [true, true, false, false, true, true] [] rfl rfl rfl, 0, Nat.zero_le _, rfl, rfl, rfl⟩ ?_
  rintro n s ⟨i, hi, rfl, hp, rfl⟩
  refine Split.mk fun t ht => ?_
  cases t
  ·have hia : i = a.length := by simp at ht; omega
   refine Need.mk ⟨[], _, .same, fin ?_, rfl⟩ trivial
   subst hia
   rw [List.take_length, hl, List.take_length] at hp
   simp [hp]
  ·have hia : i < a.length := by simpa using ht
   refine nd ?_
   refine Row.mk _ (map_get _ a i hia) ?_
   refine nd ?_
   refine Row.mk _ (map_get _ b i (by omega)) ?_
   refine Split.mk fun t ht2 => ?_
   cases t
   ·refine Need.mk rfl ?_
    refine Num.mk _ (wrapS (by omega)) ?_
    refine ⟨a.length - (i + 1), _, by omega, Weak.nrm [true, true, false, false, true, true] [] rfl rfl rfl, i + 1, by omega, rfl, ?_, rfl⟩
    have : a[i] = b[i]'(by omega) := by simpa using ht2
    rw [List.take_succ_eq_append_getElem hia, List.take_succ_eq_append_getElem (by omega), hp, this]
   ·refine Need.mk rfl ?_
    refine Need.mk ⟨[], _, .same, fin ?_, rfl⟩ trivial
    have : a[i] ≠ b[i]'(by omega) := by simpa using ht2
    refine (decide_eq_false fun e => this ?_).symm
    subst e; rfl
 ·refine Need.mk ⟨[], _, .same, fin ?_, rfl⟩ trivial
  have : a.length ≠ b.length := by
   intro e; simp [e] at ht
  exact (decide_eq_false fun e => this (by rw [e])).symm
theorem laws_eqTree (a b : Tre) : AFn Tryz.prog 38 [.agg (a.enc.map .c), .agg (b.enc.map .c)] [] (rb (decide (a = b))) [] := by
 refine AFn.introX (E := En 0 md0) (en_ok 0 md0) Tryz.func38 rfl rfl rfl fun _ _ => ?_
 have fin : ∀ {c : Bool}, c = decide (a = b) → rb c = rb (decide (a = b)) := fun h => by rw [h]
 refine Split.mk fun t ht => ?_
 cases t
 ·refine ACall.mk _ _ (laws_eqEntryS a.mem b.mem) ?_
  refine Split.mk fun t ht1 => ?_
  cases t
  ·exact Need.mk ⟨[], _, .same, fin (by cases a; cases b; simp_all), rfl⟩ trivial
  ·refine ACall.mk _ _ (laws_eqRunSS a.levels b.levels) ?_
   refine Split.mk fun t ht2 => ?_
   cases t
   ·exact Need.mk ⟨[], _, .same, fin (by cases a; cases b; simp_all), rfl⟩ trivial
   ·refine ACall.mk _ _ (laws_eqIntS a.snaps b.snaps) ?_
    refine Split.mk fun t ht3 => ?_
    cases t
    ·exact Need.mk ⟨[], _, .same, fin (by cases a; cases b; simp_all), rfl⟩ trivial
    ·exact Need.mk ⟨[], _, .same, fin (by cases a; cases b; simp_all), rfl⟩ trivial
 ·exact Need.mk ⟨[], _, .same, fin (by cases a; cases b; simp_all), rfl⟩ trivial
theorem laws_eqDisk (a b : Dsk) : AFn Tryz.prog 39 [.agg (a.enc.map .c), .agg (b.enc.map .c)] [] (rb (decide (a = b))) [] := by
 refine AFn.introX (E := En 0 md0) (en_ok 0 md0) Tryz.func39 rfl rfl rfl fun _ _ => ?_
 have fin : ∀ {c : Bool}, c = decide (a = b) → rb c = rb (decide (a = b)) := fun h => by rw [h]
 refine Split.mk fun t ht => ?_
 rw [bytes_beq] at ht
 cases t
 ·refine Split.mk fun t ht1 => ?_
  cases t
  ·refine ACall.mk _ _ (laws_eqRunSS a.levels b.levels) ?_
   refine Split.mk fun t ht2 => ?_
   cases t
   ·exact Need.mk ⟨[], _, .same, fin (by cases a; cases b; simp_all), rfl⟩ trivial
   ·refine Split.mk fun t ht3 => ?_
    cases t
    ·exact Need.mk ⟨[], _, .same, fin (by cases a; cases b; simp_all), rfl⟩ trivial
    ·exact Need.mk ⟨[], _, .same, fin (by cases a; cases b; simp_all), rfl⟩ trivial
  ·exact Need.mk ⟨[], _, .same, fin (by cases a; cases b; simp_all), rfl⟩ trivial
 ·exact Need.mk ⟨[], _, .same, fin (by cases a; cases b; simp_all), rfl⟩ trivial
theorem laws_eqStore (a b : Sto) : AFn Tryz.prog 13 [.agg (a.enc.map .c), .agg (b.enc.map .c)] [] (rb (decide (a = b))) [] := by
 refine AFn.introX (E := En 0 md0) (en_ok 0 md0) Tryz.func13 rfl rfl rfl fun _ _ => ?_
 have fin : ∀ {c : Bool}, c = decide (a = b) → rb c = rb (decide (a = b)) := fun h => by rw [h]
 refine Split.mk fun t ht => ?_
 cases t
 ·refine ACall.mk _ _ (laws_eqTree a.tree b.tree) ?_
  refine Split.mk fun t ht1 => ?_
  cases t
  ·exact Need.mk ⟨[], _, .same, fin (by cases a; cases b; simp_all), rfl⟩ trivial
  ·refine ACall.mk _ _ (laws_eqDisk a.disk b.disk) ?_
   refine Split.mk fun t ht2 => ?_
   cases t
   ·exact Need.mk ⟨[], _, .same, fin (by cases a; cases b; simp_all), rfl⟩ trivial
   ·exact Need.mk ⟨[], _, .same, fin (by cases a; cases b; simp_all), rfl⟩ trivial
 ·exact Need.mk ⟨[], _, .same, fin (by cases a; cases b; simp_all), rfl⟩ trivial
theorem laws_FnExactStoreFall (a : Sto) (keep : Int) (ha : a.Ok) : AFn Tryz.prog 3 [.agg (a.enc.map .c), av (.int .i64 keep)] [] (rb true) [] := by
 have hSz := laws_szStore a 1048576 ha (Nat.le_refl _)
 by_cases hsz1 : a.size ≤ 1048576
 ·rw [cut_pos hsz1] at hSz
  have hz : a.size = a.tree.size + a.disk.size := rfl
  have sa : a.tree.Small := Tre.small (by omega)
  have sd : a.disk.Small := Dsk.small (by omega)
  have hlg := (sto_sz hsz1).2.2.2.2
  have hT := laws_toStore a sa sd
  have hS := spec_StoreFall a keep ha sa sd
  have hI := impl_StoreFall a keep ha hlg sa sd
  have hE := laws_eqStore a a
  rw [decide_eq_true rfl] at hE
  have hpx : posS 1 (storeDo a (fallD keep)) ≤ 20000000 := pos_StoreFall hsz1 keep
  have hpa : posS 1 a ≤ 20000000 := by obtain ⟨q1, q2, q3, q4, q5⟩ := sto_sz hsz1; exact posS_sz q1 q2 q3 q4
  have hex := exq (storeDo a (fallD keep))
  obtain ⟨x, hx⟩ := hex
  rw [hx] at hS hI hpx
  have hE2 := laws_eqStore x x
  rw [decide_eq_true rfl] at hE2
  have hM := laws_markStore a 1 (Nat.le_trans hpa (by decide))
  have hM2 := laws_markStore x 1 (Nat.le_trans hpx (by decide))
  have hH := laws_heldStore x 1 (Nat.le_trans hpx (by decide))
  have hex := exq (posS 1 a)
  obtain ⟨p, hp⟩ := hex
  rw [hp] at hM hpa
  have hex := exq (posS 1 x)
  obtain ⟨p2, hp2⟩ := hex
  rw [hp2] at hM2 hpx hH
  have hM : AFn Tryz.prog 14 [argS a, av (.int .i64 (1 : Nat))] (obsS a) (.one (vi (p : Nat))) (obsS (mkS 1 a)) := hM
  have hM2 : AFn Tryz.prog 14 [argS x, av (.int .i64 (1 : Nat))] (obsS x) (.one (vi (p2 : Nat))) (obsS (mkS 1 x)) := hM2
  have hH2 : AFn Tryz.prog 15 [.agg [.c (vb x.up), .c (vi x.tree.seq), .c (.sl ((mkS 1 x).tree.mem.map Ent.enc)), .c (.sl ((mkS 1 x).tree.levels.map encL)), .c (.sl ((mkS 1 x).tree.snaps.map encI)), .c (vs x.disk.log), .c (vi x.disk.safe), .c (.sl ((mkS 1 x).disk.levels.map encL)), .c (vi x.disk.seq)], av (.int .i64 (1 : Nat))] [] (.one (vi (p2 : Nat))) [] := hH
  have hex := exq (mkS 1 a)
  obtain ⟨a2, ha2⟩ := hex
  rw [ha2] at hM
  have hex := exq (mkS 1 x)
  obtain ⟨x2, hx2⟩ := hex
  rw [hx2] at hM2 hH2
  clear hH
  refine AFn.introX (E := En 0 (mdv [14] [10])) (en_ok 0 _) Tryz.func3 rfl rfl rfl fun _ _ => ?_
  refine ACall.mk _ _ hSz ?_
  refine sp0 ?_
  refine ACall.mk _ _ hT ?_
  refine Fz.mk _ (frzE _) ?_
  refine Fz.mk _ (frzRR _) ?_
  refine Fz.mk _ (frzI _) ?_
  refine Fz.mk _ (frzRR _) ?_
  refine ACall.mk _ _ hS ?_
  refine ACall.mk _ _ hT ?_
  refine Fz.mk _ (frzE _) ?_
  refine Fz.mk _ (frzRR _) ?_
  refine Fz.mk _ (frzI _) ?_
  refine Fz.mk _ (frzRR _) ?_
  refine ACall.mk _ _ hI ?_
  refine Need.mk (⟨ClL.mem (.v (.v (.us (clE _) (.us (clLO _) (.us (clI _) (.v (.v (.us (clLO _) (.v .nil))))))))), no_objs⟩) ?_
  refine Fz.mk _ (frzE _) ?_
  refine Fz.mk _ (frzRR _) ?_
  refine Fz.mk _ (frzI _) ?_
  refine Fz.mk _ (frzRR _) ?_
  refine ACall.mk _ _ hE2 ?_
  refine Need.mk (⟨ClL.mem (.v .nil), no_objs⟩) ?_
  refine sp1 ?_
  refine ACall.mk _ _ hT ?_
  refine Fz.mk _ (frzE _) ?_
  refine Fz.mk _ (frzRR _) ?_
  refine Fz.mk _ (frzI _) ?_
  refine Fz.mk _ (frzRR _) ?_
  refine Fz.mk _ (frzE _) ?_
  refine Fz.mk _ (frzRR _) ?_
  refine Fz.mk _ (frzI _) ?_
  refine Fz.mk _ (frzRR _) ?_
  refine ACall.mk _ _ hE ?_
  refine Need.mk (⟨ClL.mem (.v .nil), no_objs⟩) ?_
  refine sp1 ?_
  refine Need.mk (rfl) ?_
  refine ACall.mk _ _ hM ?_
  refine sp0 ?_
  refine Fz.mk _ (frzE _) ?_
  refine Fz.mk _ (frzRR _) ?_
  refine Fz.mk _ (frzI _) ?_
  refine Fz.mk _ (frzRR _) ?_
  refine ACall.mk _ _ hE2 ?_
  refine Need.mk (⟨ClL.mem (.v .nil), no_objs⟩) ?_
  refine sp1 ?_
  refine ACall.mk _ _ hM2 ?_
  refine Fz.mk _ (frzE _) ?_
  refine Fz.mk _ (frzRR _) ?_
  refine Fz.mk _ (frzI _) ?_
  refine Fz.mk _ (frzRR _) ?_
  refine ACall.mk _ _ hH2 ?_
  refine Need.mk (⟨ClL.mem (.v .nil), no_objs⟩) ?_
  refine sp0 ?_
  refine Split.mk fun t h7 => ?_
  cases t
  case true => (exfalso; rw [bne_iff_ne] at h7; omega)
  rw [bne_eq_false_iff_eq] at h7
  refine ACall.mk _ _ hT ?_
  refine Fz.mk _ (frzE _) ?_
  refine Fz.mk _ (frzRR _) ?_
  refine Fz.mk _ (frzI _) ?_
  refine Fz.mk _ (frzRR _) ?_
  refine ACall.mk _ _ hI ?_
  refine Need.mk (⟨ClL.mem (.v (.v (.us (clE _) (.us (clLO _) (.us (clI _) (.v (.v (.us (clLO _) (.v .nil))))))))), no_objs⟩) ?_
  refine Fz.mk _ (frzE _) ?_
  refine Fz.mk _ (frzRR _) ?_
  refine Fz.mk _ (frzI _) ?_
  refine Fz.mk _ (frzRR _) ?_
  refine ACall.mk _ _ hE2 ?_
  refine Need.mk (⟨ClL.mem (.v .nil), no_objs⟩) ?_
  refine sp1 ?_
  refine Fz.mk _ (frzE _) ?_
  refine Fz.mk _ (frzRR _) ?_
  refine Fz.mk _ (frzI _) ?_
  refine Fz.mk _ (frzRR _) ?_
  refine ACall.mk _ _ hH2 ?_
  refine Need.mk (⟨ClL.mem (.v .nil), no_objs⟩) ?_
  refine sp0 ?_
  refine Split.mk fun t h10 => ?_
  cases t
  case true => (exfalso; rw [bne_iff_ne] at h10; omega)
  rw [bne_eq_false_iff_eq] at h10
  exact Need.mk ⟨[], _, .same, rfl, rfl⟩ trivial
 ·rw [cut_neg hsz1] at hSz
  refine AFn.introX (E := En 0 (mdv [14] [10])) (en_ok 0 _) Tryz.func3 rfl rfl rfl fun _ _ => ?_
  refine ACall.mk _ _ hSz ?_
  refine sp1 ?_
  exact Need.mk ⟨[], _, .same, rfl, rfl⟩ trivial
theorem laws_FnExactStoreFall_any (r0 : List C) (h0 : ShL tySto r0) (c1 : C) (h1 : Sh (.int .i64) c1) : AFn Tryz.prog 3 [.agg (r0.map .c), .one (.c c1)] [] (rb true) [] := by
 obtain ⟨a, rfl, wa⟩ := dec_sto h0
 obtain ⟨n1, rfl, _⟩ := h1.int'
 exact laws_FnExactStoreFall a n1 wa.ok
end Go.Proofs.YtpcimdalgpfkaaaGreatDoor
