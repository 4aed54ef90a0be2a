/-
  Contracts of functions, part 7.
-/
import Derived.Test.YtcnongahanmclaaGreatTFnExactTreeCompactF
namespace Go.Proofs.YtcnongahanmclaaGreat
open Go Go.Proofs Ev
set_option maxRecDepth 100000
set_option maxHeartbeats 40000000
set_option linter.unusedSimpArgs false
set_option linter.unusedVariables false
theorem laws_eqEntryS (a b : List Ent) : AFn Tryz.prog 22 [sl (a.map Ent.enc), sl (b.map Ent.enc)] [] (rb (decide (a = b))) [] := by
 refine AFn.introX (E := En 0 md0) (en_ok 0 md0) Tryz.func22 rfl rfl rfl fun hs _ => ?_
 have ha := Small.len (hs _ (List.mem_cons_self ..))
 rw [List.length_map] at ha
 have fin : ∀ {c : Bool}, c = decide (a = b) → rb c = rb (decide (a = b)) := fun h => by rw [h]
 refine Split.mk fun t ht => ?_
 cases t
 ·have hl : a.length = b.length := Int.ofNat_inj.1 (by simpa using ht)
  refine ALoop.mk (fun n s => ∃ i : Nat, i ≤ a.length ∧ n = a.length - i ∧ a.take i = b.take i ∧
   s = ⟨some (sl (a.map Ent.enc)) :: some (sl (b.map Ent.enc)) :: none :: none :: some (av (.bool false)) :: some (av (.int .i64 i)) :: List.replicate 21 none, List.replicate 27 absent⟩)
   ⟨a.length, _, Weak.nrm [true, true, false, false, true, true] [] rfl rfl rfl, 0, Nat.zero_le _, rfl, rfl, rfl⟩ ?_
  rintro n s ⟨i, hi, rfl, hp, rfl⟩
  refine Split.mk fun t ht => ?_
  cases t
  ·have hia : i = a.length := by simp at ht; omega
   refine Need.mk ⟨[], _, .same, fin ?_, rfl⟩ trivial
   subst hia
   rw [List.take_length, hl, List.take_length] at hp
   simp [hp]
  ·have hia : i < a.length := by simpa using ht
   refine nd ?_
   refine Row.mk _ (map_get _ a i hia) ?_
   refine nd ?_
   refine Row.mk _ (map_get _ b i (by omega)) ?_
   refine ACall.mk _ _ (laws_eqEntry a[i] (b[i]'(by omega))) ?_
   refine Split.mk fun t ht2 => ?_
   cases t
   ·refine Need.mk rfl ?_
    refine Need.mk ⟨[], _, .same, fin ?_, rfl⟩ trivial
    have : a[i] ≠ b[i]'(by omega) := by simpa using ht2
    refine (decide_eq_false fun e => this ?_).symm
    subst e; rfl
   ·refine Need.mk rfl ?_
    refine Num.mk _ (wrapS (by omega)) ?_
    refine ⟨a.length - (i + 1), _, by omega, Weak.nrm [true, true, false, false, true, true] [] rfl rfl rfl, i + 1, by omega, rfl, ?_, rfl⟩
    have : a[i] = b[i]'(by omega) := by simpa using ht2
    rw [List.take_succ_eq_append_getElem hia, List.take_succ_eq_append_getElem (by omega), hp, this]
 ·refine Need.mk ⟨[], _, .same, fin ?_, rfl⟩ trivial
  have : a.length ≠ b.length := by
   intro e; simp [e] at ht
  exact (decide_eq_false fun e => this (by rw [e])).symm
theorem laws_eqRun (a b : Rn) : AFn Tryz.prog 177 [.agg (a.enc.map .c), .agg (b.enc.map .c)] [] (rb (decide (a = b))) [] := by
 refine AFn.introX (E := En 0 md0) (en_ok 0 md0) Tryz.func177 rfl rfl rfl fun _ _ => ?_
 have fin : ∀ {c : Bool}, c = decide (a = b) → rb c = rb (decide (a = b)) := fun h => by rw [h]
 refine ACall.mk _ _ (laws_eqEntryS a.ents b.ents) ?_
 refine Split.mk fun t ht => ?_
 cases t
 ·exact Need.mk ⟨[], _, .same, fin (by cases a; cases b; simp_all), rfl⟩ trivial
 ·refine Split.mk fun t ht1 => ?_
  cases t
  ·exact Need.mk ⟨[], _, .same, fin (by cases a; cases b; simp_all), rfl⟩ trivial
  ·exact Need.mk ⟨[], _, .same, fin (by cases a; cases b; simp_all), rfl⟩ trivial
theorem laws_eqRunS (a b : List Rn) : AFn Tryz.prog 127 [sl (a.map Rn.enc), sl (b.map Rn.enc)] [] (rb (decide (a = b))) [] := by
 refine AFn.introX (E := En 0 md0) (en_ok 0 md0) Tryz.func127 rfl rfl rfl fun hs _ => ?_
 have ha := Small.len (hs _ (List.mem_cons_self ..))
 rw [List.length_map] at ha
 have fin : ∀ {c : Bool}, c = decide (a = b) → rb c = rb (decide (a = b)) := fun h => by rw [h]
 refine Split.mk fun t ht => ?_
 cases t
 ·have hl : a.length = b.length := Int.ofNat_inj.1 (by simpa using ht)
  refine ALoop.mk (fun n s => ∃ i : Nat, i ≤ a.length ∧ n = a.length - i ∧ a.take i = b.take i ∧
   s = ⟨some (sl (a.map Rn.enc)) :: some (sl (b.map Rn.enc)) :: none :: none :: some (av (.bool false)) :: some (av (.int .i64 i)) :: List.replicate 21 none, List.replicate 27 absent⟩)
   ⟨a.length, _, Weak.nrm [true, true, false, false, true, true] [] rfl rfl rfl, 0, Nat.zero_le _, rfl, rfl, rfl⟩ ?_
  rintro n s ⟨i, hi, rfl, hp, rfl⟩
  refine Split.mk fun t ht => ?_
  cases t
  ·have hia : i = a.length := by simp at ht; omega
   refine Need.mk ⟨[], _, .same, fin ?_, rfl⟩ trivial
   subst hia
   rw [List.take_length, hl, List.take_length] at hp
   simp [hp]
  ·have hia : i < a.length := by simpa using ht
   refine nd ?_
   refine Row.mk _ (map_get _ a i hia) ?_
   refine nd ?_
   refine Row.mk _ (map_get _ b i (by omega)) ?_
   refine ACall.mk _ _ (laws_eqRun a[i] (b[i]'(by omega))) ?_
   refine Split.mk fun t ht2 => ?_
   cases t
   ·refine Need.mk rfl ?_
    refine Need.mk ⟨[], _, .same, fin ?_, rfl⟩ trivial
    have : a[i] ≠ b[i]'(by omega) := by simpa using ht2
    refine (decide_eq_false fun e => this ?_).symm
    subst e; rfl
   ·refine Need.mk rfl ?_
    refine Num.mk _ (wrapS (by omega)) ?_
    refine ⟨a.length - (i + 1), _, by omega, Weak.nrm [true, true, false, false, true, true] [] rfl rfl rfl, i + 1, by omega, rfl, ?_, rfl⟩
    have : a[i] = b[i]'(by omega) := by simpa using ht2
    rw [List.take_succ_eq_append_getElem hia, List.take_succ_eq_append_getElem (by omega), hp, this]
 ·refine Need.mk ⟨[], _, .same, fin ?_, rfl⟩ trivial
  have : a.length ≠ b.length := by
   intro e; simp [e] at ht
  exact (decide_eq_false fun e => this (by rw [e])).symm
theorem laws_eqRunSS (a b : List (List Rn)) : AFn Tryz.prog 67 [sl (a.map encL), sl (b.map encL)] [] (rb (decide (a = b))) [] := by
 refine AFn.introX (E := En 0 md0) (en_ok 0 md0) Tryz.func67 rfl rfl rfl fun hs _ => ?_
 have ha := Small.len (hs _ (List.mem_cons_self ..))
 rw [List.length_map] at ha
 have fin : ∀ {c : Bool}, c = decide (a = b) → rb c = rb (decide (a = b)) := fun h => by rw [h]
 refine Split.mk fun t ht => ?_
 cases t
 ·have hl : a.length = b.length := Int.ofNat_inj.1 (by simpa using ht)
  refine ALoop.mk (fun n s => ∃ i : Nat, i ≤ a.length ∧ n = a.length - i ∧ a.take i = b.take i ∧
   s = ⟨some (sl (a.map encL)) :: some (sl (b.map encL)) :: none :: none :: some (av (.bool false)) :: some (av (.int .i64 i)) :: List.replicate 21 none, List.replicate 27 absent⟩)
   ⟨a.length, _, Weak.nrm [true, true, false, false, true, true] [] rfl rfl rfl, 0, Nat.zero_le _, rfl, rfl, rfl⟩ ?_
  rintro n s ⟨i, hi, rfl, hp, rfl⟩
  refine Split.mk fun t ht => ?_
  cases t
  ·have hia : i = a.length := by simp at ht; omega
   refine Need.mk ⟨[], _, .same, fin ?_, rfl⟩ trivial
   subst hia
   rw [List.take_length, hl, List.take_length] at hp
   simp [hp]
  ·have hia : i < a.length := by simpa using ht
   refine nd ?_
   refine Row.mk _ (map_get _ a i hia) ?_
   refine nd ?_
   refine Row.mk _ (map_get _ b i (by omega)) ?_
   refine ACall.mk _ _ (laws_eqRunS a[i] (b[i]'(by omega))) ?_
   refine Split.mk fun t ht2 => ?_
   cases t
   ·refine Need.mk rfl ?_
    refine Need.mk ⟨[], _, .same, fin ?_, rfl⟩ trivial
    have : a[i] ≠ b[i]'(by omega) := by simpa using ht2
    refine (decide_eq_false fun e => this ?_).symm
    subst e; rfl
   ·refine Need.mk rfl ?_
    refine Num.mk _ (wrapS (by omega)) ?_
    refine ⟨a.length - (i + 1), _, by omega, Weak.nrm [true, true, false, false, true, true] [] rfl rfl rfl, i + 1, by omega, rfl, ?_, rfl⟩
    have : a[i] = b[i]'(by omega) := by simpa using ht2
    rw [List.take_succ_eq_append_getElem hia, List.take_succ_eq_append_getElem (by omega), hp, this]
 ·refine Need.mk ⟨[], _, .same, fin ?_, rfl⟩ trivial
  have : a.length ≠ b.length := by
   intro e; simp [e] at ht
  exact (decide_eq_false fun e => this (by rw [e])).symm
theorem laws_eqIntS (a b : List Int) : AFn Tryz.prog 68 [sl (a.map encI), sl (b.map encI)] [] (rb (decide (a = b))) [] := by
 refine AFn.introX (E := En 0 md0) (en_ok 0 md0) Tryz.func68 rfl rfl rfl fun hs _ => ?_
 have ha := Small.len (hs _ (List.mem_cons_self ..))
 rw [List.length_map] at ha
 have fin : ∀ {c : Bool}, c = decide (a = b) → rb c = rb (decide (a = b)) := fun h => by rw [h]
 refine Split.mk fun t ht => ?_
 cases t
 ·have hl : a.length = b.length := Int.ofNat_inj.1 (by simpa using ht)
  refine ALoop.mk (fun n s => ∃ i : Nat, i ≤ a.length ∧ n = a.length - i ∧ a.take i = b.take i ∧
   s = ⟨some (sl (a.map encI)) :: some (sl (b.map encI)) :: none :: none :: some (av (.bool false)) :: some (av (.int .i64 i)) :: List.replicate 20 none, List.replicate 26 absent⟩)
   ⟨a.length, _, Weak.nrm [true, true, false, false, true, true] [] rfl rfl rfl, 0, Nat.zero_le _, rfl, rfl, rfl⟩ ?_
  rintro n s ⟨i, hi, rfl, hp, rfl⟩
  refine Split.mk fun t ht => ?_
  cases t
  ·have hia : i = a.length := by simp at ht; omega
   refine Need.mk ⟨[], _, .same, fin ?_, rfl⟩ trivial
   subst hia
   rw [List.take_length, hl, List.take_length] at hp
   simp [hp]
  ·have hia : i < a.length := by simpa using ht
   refine nd ?_
   refine Row.mk _ (map_get _ a i hia) ?_
   refine nd ?_
   refine Row.mk _ (map_get _ b i (by omega)) ?_
   refine Split.mk fun t ht2 => ?_
   cases t
   ·refine Need.mk rfl ?_
    refine Num.mk _ (wrapS (by omega)) ?_
    refine ⟨a.length - (i + 1), _, by omega, Weak.nrm [true, true, false, false, true, true] [] rfl rfl rfl, i + 1, by omega, rfl, ?_, rfl⟩
    have : a[i] = b[i]'(by omega) := by simpa using ht2
    rw [List.take_succ_eq_append_getElem hia, List.take_succ_eq_append_getElem (by omega), hp, this]
   ·refine Need.mk rfl ?_
    refine Need.mk ⟨[], _, .same, fin ?_, rfl⟩ trivial
    have : a[i] ≠ b[i]'(by omega) := by simpa using ht2
    refine (decide_eq_false fun e => this ?_).symm
    subst e; rfl
 ·refine Need.mk ⟨[], _, .same, fin ?_, rfl⟩ trivial
  have : a.length ≠ b.length := by
   intro e; simp [e] at ht
  exact (decide_eq_false fun e => this (by rw [e])).symm
theorem laws_eqTree (a b : Tre) : AFn Tryz.prog 21 [.agg (a.enc.map .c), .agg (b.enc.map .c)] [] (rb (decide (a = b))) [] := by
 refine AFn.introX (E := En 0 md0) (en_ok 0 md0) Tryz.func21 rfl rfl rfl fun _ _ => ?_
 have fin : ∀ {c : Bool}, c = decide (a = b) → rb c = rb (decide (a = b)) := fun h => by rw [h]
 refine Split.mk fun t ht => ?_
 cases t
 ·refine ACall.mk _ _ (laws_eqEntryS a.mem b.mem) ?_
  refine Split.mk fun t ht1 => ?_
  cases t
  ·exact Need.mk ⟨[], _, .same, fin (by cases a; cases b; simp_all), rfl⟩ trivial
  ·refine ACall.mk _ _ (laws_eqRunSS a.levels b.levels) ?_
   refine Split.mk fun t ht2 => ?_
   cases t
   ·exact Need.mk ⟨[], _, .same, fin (by cases a; cases b; simp_all), rfl⟩ trivial
   ·refine ACall.mk _ _ (laws_eqIntS a.snaps b.snaps) ?_
    refine Split.mk fun t ht3 => ?_
    cases t
    ·exact Need.mk ⟨[], _, .same, fin (by cases a; cases b; simp_all), rfl⟩ trivial
    ·exact Need.mk ⟨[], _, .same, fin (by cases a; cases b; simp_all), rfl⟩ trivial
 ·exact Need.mk ⟨[], _, .same, fin (by cases a; cases b; simp_all), rfl⟩ trivial
theorem laws_heldEntryS (k n : Nat) (hk : k + 5 * n ≤ 4611686018427387904) : AFn Tryz.prog 73 [sl ((markL k n).map Ent.enc), av (.int .i64 k)] [] (.one (vi ((k + 5 * n : Nat) : Int))) [] := by
 refine AFn.introX (E := En 0 md0) (en_ok 0 md0) Tryz.func73 rfl rfl rfl fun _ _ => ?_
 have hn : ((markL k n).map Ent.enc).length = n := by rw [List.length_map, markL_len]
 refine ALoop.mk (fun m s => ∃ i : Nat, i ≤ n ∧ m = n - i ∧
   s = ⟨some (sl ((markL k n).map Ent.enc)) :: some (av (.int .i64 ((k + 5 * i : Nat) : Int))) :: none :: none :: none :: some (av (.int .i64 i)) :: List.replicate 54 none, List.replicate 60 absent⟩)
  ⟨n, _, Weak.nrm [true, true, false, false, false, true] [] rfl rfl rfl, 0, Nat.zero_le _, rfl, rfl⟩ ?_
 rintro m s ⟨i, hi, rfl, rfl⟩
 refine Split.mk fun t ht => ?_
 rw [hn] at ht
 cases t
 ·have hin : i = n := by simp at ht; omega
  subst hin
  exact ndE trivial
 ·have hin : i < n := by simpa using ht
  have hget : ((markL k n).map Ent.enc)[i]? = some (markE (k + 5 * i)).enc := by rw [List.getElem?_map, markL_get hin]; rfl
  refine nd ?_
  refine Row.mk _ hget ?_
  refine ACall.mk _ _ (laws_markText (k + 5 * i) (by omega)) ?_
  refine Split.mk fun t ht => ?_
  rw [bytes_beq] at ht
  cases t
  ·refine Need.mk rfl ?_
   refine Num.mk _ (wrapS (by omega)) ?_
   refine nd ?_
   refine Row.mk _ hget ?_
   refine Split.mk fun t ht => ?_
   cases t
   ·refine Num.mk _ (wrapS (by omega)) ?_
    refine nd ?_
    refine Row.mk _ hget ?_
    refine Split.mk fun t ht => ?_
    cases t
    ·refine Num.mk _ (wrapS (by omega)) ?_
     refine nd ?_
     refine Row.mk _ hget ?_
     refine ACall.mk _ _ (laws_markText (k + 5 * i + 1 + 1 + 1) (by omega)) ?_
     refine Split.mk fun t ht => ?_
     rw [bytes_beq] at ht
     cases t
     ·refine Need.mk rfl ?_
      refine Num.mk _ (wrapS (by omega)) ?_
      refine nd ?_
      refine Row.mk _ hget ?_
      refine Split.mk fun t ht => ?_
      cases t
      ·refine Num.mk _ (wrapS (by omega)) ?_
       refine Num.mk _ (wrapS (by omega)) ?_
       exact ⟨n - (i + 1), _, by omega, Weak.nrm [true, true, false, false, false, true] [] rfl rfl rfl, i + 1, by omega, rfl, rfl⟩
      ·simp [markE] at ht <;> omega
     ·simp [markE] at ht <;> omega
    ·simp [markE] at ht <;> omega
   ·simp [markE] at ht <;> omega
  ·simp [markE] at ht <;> omega
theorem laws_heldRunS (xs : List Rn) (k : Nat) (hk : posR k xs ≤ 4611686018427387904) : AFn Tryz.prog 129 [sl ((mkRs k xs).map Rn.enc), av (.int .i64 k)] [] (.one (vi (posR k xs : Nat))) [] := by
 refine AFn.introX (E := En 0 md0) (en_ok 0 md0) Tryz.func129 rfl rfl rfl fun _ _ => ?_
 have hn : ((mkRs k xs).map Rn.enc).length = xs.length := by rw [List.length_map, mkRs_len]
 have hxl := posR_len xs k
 refine ALoop.mk (fun m s => ∃ i : Nat, i ≤ xs.length ∧ m = xs.length - i ∧
   s = ⟨some (sl ((mkRs k xs).map Rn.enc)) :: some (av (.int .i64 ((posR k (xs.take i) : Nat) : Int))) :: none :: none :: none :: some (av (.int .i64 i)) :: List.replicate 25 none, List.replicate 31 absent⟩)
  ⟨xs.length, _, Weak.nrm [true, true, false, false, false, true] [] rfl rfl rfl, 0, Nat.zero_le _, rfl, rfl⟩ ?_
 rintro m s ⟨i, hi, rfl, rfl⟩
 refine Split.mk fun t ht => ?_
 rw [hn] at ht
 cases t
 ·have hin : i = xs.length := by simp at ht; omega
  subst hin
  refine Need.mk ⟨[], _, .same, ?_, rfl⟩ trivial
  rw [List.take_length]; rfl
 ·have hia : i < xs.length := by simpa using ht
  have hpos : posR k (xs.take (i + 1)) = posR k (xs.take i) + 5 * xs[i].ents.length + 1 := by rw [List.take_succ_eq_append_getElem hia, posR_app]; rfl
  have hle : posR k (xs.take (i + 1)) ≤ 4611686018427387904 := by
   have : posR k xs = posR (posR k (xs.take (i + 1))) (xs.drop (i + 1)) := by rw [← posR_app, List.take_append_drop]
   have h2 := posR_le (xs.drop (i + 1)) (posR k (xs.take (i + 1)))
   omega
  have hget : ((mkRs k xs).map Rn.enc)[i]? = some (mkR (posR k (xs.take i)) xs[i]).enc := by
   have h1 : mkRs k xs = mkRs k (xs.take i) ++ mkRs (posR k (xs.take i)) (xs.drop i) := by rw [← mkRs_app, List.take_append_drop]
   rw [List.getElem?_map, h1, List.getElem?_append_right (by rw [mkRs_len, List.length_take]; omega), mkRs_len, List.length_take, Nat.min_eq_left (by omega), Nat.sub_self, List.drop_eq_getElem_cons hia]
   rfl
  refine nd ?_
  refine Row.mk _ hget ?_
  refine ACall.mk _ _ (laws_heldEntryS (posR k (xs.take i)) xs[i].ents.length (by omega)) ?_
  refine Split.mk fun t ht => ?_
  cases t
  ·refine nd ?_
   refine Row.mk _ hget ?_
   refine Split.mk fun t ht => ?_
   cases t
   ·refine Num.mk _ (wrapS (by omega)) ?_
    refine Num.mk _ (wrapS (by omega)) ?_
    refine ⟨xs.length - (i + 1), _, by omega, Weak.nrm [true, true, false, false, false, true] [] rfl rfl rfl, i + 1, by omega, rfl, ?_⟩
    rw [hpos]; rfl
   ·simp [mkR] at ht
  ·simp at ht <;> omega
theorem laws_heldRunSS (xs : List (List Rn)) (k : Nat) (hk : posL k xs ≤ 4611686018427387904) : AFn Tryz.prog 74 [sl ((mkLs k xs).map encL), av (.int .i64 k)] [] (.one (vi (posL k xs : Nat))) [] := by
 refine AFn.introX (E := En 0 md0) (en_ok 0 md0) Tryz.func74 rfl rfl rfl fun hs _ => ?_
 have hn : ((mkLs k xs).map encL).length = xs.length := by rw [List.length_map, mkLs_len]
 have hxl := Small.len (hs _ (List.mem_cons_self ..))
 rw [hn] at hxl
 refine ALoop.mk (fun m s => ∃ i : Nat, i ≤ xs.length ∧ m = xs.length - i ∧
   s = ⟨some (sl ((mkLs k xs).map encL)) :: some (av (.int .i64 ((posL k (xs.take i) : Nat) : Int))) :: none :: none :: none :: some (av (.int .i64 i)) :: List.replicate 15 none, List.replicate 21 absent⟩)
  ⟨xs.length, _, Weak.nrm [true, true, false, false, false, true] [] rfl rfl rfl, 0, Nat.zero_le _, rfl, rfl⟩ ?_
 rintro m s ⟨i, hi, rfl, rfl⟩
 refine Split.mk fun t ht => ?_
 rw [hn] at ht
 cases t
 ·have hin : i = xs.length := by simp at ht; omega
  subst hin
  refine Need.mk ⟨[], _, .same, ?_, rfl⟩ trivial
  rw [List.take_length]; rfl
 ·have hia : i < xs.length := by simpa using ht
  have hpos : posL k (xs.take (i + 1)) = posR (posL k (xs.take i)) xs[i] := by rw [List.take_succ_eq_append_getElem hia, posL_app]; rfl
  have hle : posL k (xs.take (i + 1)) ≤ 4611686018427387904 := by
   have : posL k xs = posL (posL k (xs.take (i + 1))) (xs.drop (i + 1)) := by rw [← posL_app, List.take_append_drop]
   have h2 := posL_le (xs.drop (i + 1)) (posL k (xs.take (i + 1)))
   omega
  have hget : ((mkLs k xs).map encL)[i]? = some (encL (mkRs (posL k (xs.take i)) xs[i])) := by
   have h1 : mkLs k xs = mkLs k (xs.take i) ++ mkLs (posL k (xs.take i)) (xs.drop i) := by rw [← mkLs_app, List.take_append_drop]
   rw [List.getElem?_map, h1, List.getElem?_append_right (by rw [mkLs_len, List.length_take]; omega), mkLs_len, List.length_take, Nat.min_eq_left (by omega), Nat.sub_self, List.drop_eq_getElem_cons hia]
   rfl
  refine nd ?_
  refine Row.mk _ hget ?_
  refine ACall.mk _ _ (laws_heldRunS xs[i] (posL k (xs.take i)) (by omega)) ?_
  refine Split.mk fun t ht => ?_
  cases t
  ·refine Num.mk _ (wrapS (by omega)) ?_
   refine ⟨xs.length - (i + 1), _, by omega, Weak.nrm [true, true, false, false, false, true] [] rfl rfl rfl, i + 1, by omega, rfl, ?_⟩
   rw [hpos]; rfl
  ·simp at ht <;> omega
theorem laws_heldIntS (k n : Nat) (hk : k + n ≤ 4611686018427387904) : AFn Tryz.prog 75 [sl ((markI k n).map encI), av (.int .i64 k)] [] (.one (vi ((k + n : Nat) : Int))) [] := by
 refine AFn.introX (E := En 0 md0) (en_ok 0 md0) Tryz.func75 rfl rfl rfl fun _ _ => ?_
 have hn : ((markI k n).map encI).length = n := by rw [List.length_map, markI_len]
 refine ALoop.mk (fun m s => ∃ i : Nat, i ≤ n ∧ m = n - i ∧
   s = ⟨some (sl ((markI k n).map encI)) :: some (av (.int .i64 ((k + i : Nat) : Int))) :: none :: none :: none :: some (av (.int .i64 i)) :: List.replicate 15 none, List.replicate 21 absent⟩)
  ⟨n, _, Weak.nrm [true, true, false, false, false, true] [] rfl rfl rfl, 0, Nat.zero_le _, rfl, rfl⟩ ?_
 rintro m s ⟨i, hi, rfl, rfl⟩
 refine Split.mk fun t ht => ?_
 rw [hn] at ht
 cases t
 ·have hin : i = n := by simp at ht; omega
  subst hin
  exact ndE trivial
 ·have hin : i < n := by simpa using ht
  have hget : ((markI k n).map encI)[i]? = some (encI ((k + i : Nat) : Int)) := by rw [List.getElem?_map, markI_get hin]; rfl
  refine nd ?_
  refine Row.mk _ hget ?_
  refine Split.mk fun t ht => ?_
  cases t
  ·refine Num.mk _ (wrapS (by omega)) ?_
   refine Num.mk _ (wrapS (by omega)) ?_
   exact ⟨n - (i + 1), _, by omega, Weak.nrm [true, true, false, false, false, true] [] rfl rfl rfl, i + 1, by omega, rfl, rfl⟩
  ·simp at ht
theorem laws_heldTree (t : Tre) (k : Nat) (hk : posT k t ≤ 4611686018427387904) : AFn Tryz.prog 25 [.agg ((mkT k t).enc.map .c), av (.int .i64 k)] [] (.one (vi (posT k t : Nat))) [] := by
 refine AFn.introX (E := En 0 md0) (en_ok 0 md0) Tryz.func25 rfl rfl rfl fun _ hs => ?_
 have h1 := posL_le t.levels (k + 5 * t.mem.length)
 unfold posT at hk
 refine ACall.mk _ _ (laws_heldEntryS k t.mem.length (by omega)) ?_
 refine Split.mk fun b hb => ?_
 cases b
 ·refine ACall.mk _ _ (laws_heldRunSS t.levels (k + 5 * t.mem.length) (by omega)) ?_
  refine Split.mk fun b hb => ?_
  cases b
  ·refine ACall.mk _ _ (laws_heldIntS (posL (k + 5 * t.mem.length) t.levels) t.snaps.length (by omega)) ?_
   refine Split.mk fun b hb => ?_
   cases b
   ·exact ndE trivial
   ·simp at hb <;> omega
  ·simp at hb <;> omega
 ·simp at hb <;> omega
theorem laws_FnExactTreeCompact (a : Tre) (lv : Int) (pick : Int) (ha : a.Ok) : AFn Tryz.prog 5 [.agg (a.enc.map .c), av (.int .i64 lv), av (.int .i64 pick)] [] (rb true) [] := by
 have hSz := laws_szTree a 1048576 ha (Nat.le_refl _)
 by_cases hsz1 : a.size ≤ 1048576
 ·rw [cut_pos hsz1] at hSz
  have sa : a.Small := Tre.small hsz1
  have hT := laws_toTree a sa
  have hS := spec_TreeCompact a lv pick ha sa
  have hI := impl_TreeCompact a lv pick ha sa
  have hE := laws_eqTree a a
  rw [decide_eq_true rfl] at hE
  have hpx : posT 1 (treeDo a (compactD lv pick)).1 ≤ 6000000 := pos_TreeCompact a lv pick hsz1
  have hpa : posT 1 a ≤ 6000000 := posT_sz hsz1
  have hex : ∃ x, treeDo a (compactD lv pick) = x := ⟨_, rfl⟩
  obtain ⟨⟨x, ok⟩, hx⟩ := hex
  rw [hx] at hS hI hpx
  have hE2 := laws_eqTree x x
  rw [decide_eq_true rfl] at hE2
  have hM := laws_markTree a 1 (Nat.le_trans hpa (by decide))
  have hM2 := laws_markTree x 1 (Nat.le_trans hpx (by decide))
  have hH := laws_heldTree x 1 (Nat.le_trans hpx (by decide))
  obtain ⟨p, hp⟩ := exq (posT 1 a)
  rw [hp] at hM hpa
  obtain ⟨p2, hp2⟩ := exq (posT 1 x)
  rw [hp2] at hM2 hpx hH
  obtain ⟨a2, ha2⟩ := exq (mkT 1 a)
  rw [ha2] at hM
  obtain ⟨x2, hx2⟩ := exq (mkT 1 x)
  rw [hx2] at hM2 hH
  have hsq : x2.seq = x.seq := by rw [← hx2]; rfl
  have hH2 : AFn Tryz.prog 25 [.agg [.c (vi x.seq), .c (.sl (x2.mem.map Ent.enc)), .c (.sl (x2.levels.map encL)), .c (.sl (x2.snaps.map encI))], av (.int .i64 (1 : Nat))] [] (.one (vi (p2 : Nat))) [] := by rw [← hsq]; exact hH
  cases ok with
  | false =>
   refine AFn.introX (E := En 0 (mdv [23] [])) (en_ok 0 _) Tryz.func5 rfl rfl rfl fun _ _ => ?_
   refine ACall.mk _ _ hSz ?_
   refine sp0 ?_
   refine ACall.mk _ _ hT ?_
   refine Fz.mk _ (frzE _) ?_
   refine Fz.mk _ (frzRR _) ?_
   refine Fz.mk _ (frzI _) ?_
   refine ACall.mk _ _ hS ?_
   refine Need.mk (⟨ClL.mem (.v (.us (clE _) (.us (clLO _) (.us (clI _) (.v .nil))))), no_objs⟩) ?_
   refine sp0 ?_
   refine ACall.mk _ _ hT ?_
   refine Fz.mk _ (frzE _) ?_
   refine Fz.mk _ (frzRR _) ?_
   refine Fz.mk _ (frzI _) ?_
   refine ACall.mk _ _ hI ?_
   refine Need.mk (⟨ClL.mem (.v (.us (clE _) (.us (clLO _) (.us (clI _) (.v .nil))))), no_objs⟩) ?_
   refine sp0 ?_
   refine Fz.mk _ (frzE _) ?_
   refine Fz.mk _ (frzRR _) ?_
   refine Fz.mk _ (frzI _) ?_
   refine Fz.mk _ (frzE _) ?_
   refine Fz.mk _ (frzRR _) ?_
   refine Fz.mk _ (frzI _) ?_
   refine ACall.mk _ _ hE2 ?_
   refine Need.mk (⟨ClL.mem (.v .nil), no_objs⟩) ?_
   refine sp1 ?_
   refine sp0 ?_
   refine ACall.mk _ _ hT ?_
   refine Fz.mk _ (frzE _) ?_
   refine Fz.mk _ (frzRR _) ?_
   refine Fz.mk _ (frzI _) ?_
   refine Fz.mk _ (frzE _) ?_
   refine Fz.mk _ (frzRR _) ?_
   refine Fz.mk _ (frzI _) ?_
   refine ACall.mk _ _ hE ?_
   refine Need.mk (⟨ClL.mem (.v .nil), no_objs⟩) ?_
   refine sp1 ?_
   refine Need.mk (rfl) ?_
   refine ACall.mk _ _ hM ?_
   refine sp0 ?_
   refine Fz.mk _ (frzE _) ?_
   refine Fz.mk _ (frzRR _) ?_
   refine Fz.mk _ (frzI _) ?_
   refine Fz.mk _ (frzE _) ?_
   refine Fz.mk _ (frzRR _) ?_
   refine Fz.mk _ (frzI _) ?_
   refine ACall.mk _ _ hE2 ?_
   refine Need.mk (⟨ClL.mem (.v .nil), no_objs⟩) ?_
   refine sp1 ?_
   refine sp0 ?_
   refine ACall.mk _ _ hM2 ?_
   refine Fz.mk _ (frzE _) ?_
   refine Fz.mk _ (frzRR _) ?_
   refine Fz.mk _ (frzI _) ?_
   refine ACall.mk _ _ hH2 ?_
   refine Need.mk (⟨ClL.mem (.v .nil), no_objs⟩) ?_
   refine sp0 ?_
   refine Split.mk fun t h11 => ?_
   cases t
   case true => (exfalso; rw [bne_iff_ne] at h11; omega)
   rw [bne_eq_false_iff_eq] at h11
   refine ACall.mk _ _ hT ?_
   refine Fz.mk _ (frzE _) ?_
   refine Fz.mk _ (frzRR _) ?_
   refine Fz.mk _ (frzI _) ?_
   refine ACall.mk _ _ hI ?_
   refine Need.mk (⟨ClL.mem (.v (.us (clE _) (.us (clLO _) (.us (clI _) (.v .nil))))), no_objs⟩) ?_
   refine sp0 ?_
   refine Fz.mk _ (frzE _) ?_
   refine Fz.mk _ (frzRR _) ?_
   refine Fz.mk _ (frzI _) ?_
   refine Fz.mk _ (frzE _) ?_
   refine Fz.mk _ (frzRR _) ?_
   refine Fz.mk _ (frzI _) ?_
   refine ACall.mk _ _ hE2 ?_
   refine Need.mk (⟨ClL.mem (.v .nil), no_objs⟩) ?_
   refine sp1 ?_
   refine sp0 ?_
   refine Fz.mk _ (frzE _) ?_
   refine Fz.mk _ (frzRR _) ?_
   refine Fz.mk _ (frzI _) ?_
   refine ACall.mk _ _ hH2 ?_
   refine Need.mk (⟨ClL.mem (.v .nil), no_objs⟩) ?_
   refine sp0 ?_
   refine Split.mk fun t h16 => ?_
   cases t
   case true => (exfalso; rw [bne_iff_ne] at h16; omega)
   rw [bne_eq_false_iff_eq] at h16
   exact ndE trivial
  | true =>
   refine AFn.introX (E := En 0 (mdv [23] [])) (en_ok 0 _) Tryz.func5 rfl rfl rfl fun _ _ => ?_
   refine ACall.mk _ _ hSz ?_
   refine sp0 ?_
   refine ACall.mk _ _ hT ?_
   refine Fz.mk _ (frzE _) ?_
   refine Fz.mk _ (frzRR _) ?_
   refine Fz.mk _ (frzI _) ?_
   refine ACall.mk _ _ hS ?_
   refine Need.mk (⟨ClL.mem (.v (.us (clE _) (.us (clLO _) (.us (clI _) (.v .nil))))), no_objs⟩) ?_
   refine sp1 ?_
   refine ACall.mk _ _ hT ?_
   refine Fz.mk _ (frzE _) ?_
   refine Fz.mk _ (frzRR _) ?_
   refine Fz.mk _ (frzI _) ?_
   refine ACall.mk _ _ hI ?_
   refine Need.mk (⟨ClL.mem (.v (.us (clE _) (.us (clLO _) (.us (clI _) (.v .nil))))), no_objs⟩) ?_
   refine sp1 ?_
   refine Fz.mk _ (frzE _) ?_
   refine Fz.mk _ (frzRR _) ?_
   refine Fz.mk _ (frzI _) ?_
   refine Fz.mk _ (frzE _) ?_
   refine Fz.mk _ (frzRR _) ?_
   refine Fz.mk _ (frzI _) ?_
   refine ACall.mk _ _ hE2 ?_
   refine Need.mk (⟨ClL.mem (.v .nil), no_objs⟩) ?_
   refine sp1 ?_
   refine sp0 ?_
   refine ACall.mk _ _ hT ?_
   refine Fz.mk _ (frzE _) ?_
   refine Fz.mk _ (frzRR _) ?_
   refine Fz.mk _ (frzI _) ?_
   refine Fz.mk _ (frzE _) ?_
   refine Fz.mk _ (frzRR _) ?_
   refine Fz.mk _ (frzI _) ?_
   refine ACall.mk _ _ hE ?_
   refine Need.mk (⟨ClL.mem (.v .nil), no_objs⟩) ?_
   refine sp1 ?_
   refine Need.mk (rfl) ?_
   refine ACall.mk _ _ hM ?_
   refine sp0 ?_
   refine Fz.mk _ (frzE _) ?_
   refine Fz.mk _ (frzRR _) ?_
   refine Fz.mk _ (frzI _) ?_
   refine Fz.mk _ (frzE _) ?_
   refine Fz.mk _ (frzRR _) ?_
   refine Fz.mk _ (frzI _) ?_
   refine ACall.mk _ _ hE2 ?_
   refine Need.mk (⟨ClL.mem (.v .nil), no_objs⟩) ?_
   refine sp1 ?_
   refine sp0 ?_
   refine ACall.mk _ _ hM2 ?_
   refine Fz.mk _ (frzE _) ?_
   refine Fz.mk _ (frzRR _) ?_
   refine Fz.mk _ (frzI _) ?_
   refine ACall.mk _ _ hH2 ?_
   refine Need.mk (⟨ClL.mem (.v .nil), no_objs⟩) ?_
   refine sp0 ?_
   refine Split.mk fun t h11 => ?_
   cases t
   case true => (exfalso; rw [bne_iff_ne] at h11; omega)
   rw [bne_eq_false_iff_eq] at h11
   refine ACall.mk _ _ hT ?_
   refine Fz.mk _ (frzE _) ?_
   refine Fz.mk _ (frzRR _) ?_
   refine Fz.mk _ (frzI _) ?_
   refine ACall.mk _ _ hI ?_
   refine Need.mk (⟨ClL.mem (.v (.us (clE _) (.us (clLO _) (.us (clI _) (.v .nil))))), no_objs⟩) ?_
   refine sp1 ?_
   refine Fz.mk _ (frzE _) ?_
   refine Fz.mk _ (frzRR _) ?_
   refine Fz.mk _ (frzI _) ?_
   refine Fz.mk _ (frzE _) ?_
   refine Fz.mk _ (frzRR _) ?_
   refine Fz.mk _ (frzI _) ?_
   refine ACall.mk _ _ hE2 ?_
   refine Need.mk (⟨ClL.mem (.v .nil), no_objs⟩) ?_
   refine sp1 ?_
   refine sp0 ?_
   refine Fz.mk _ (frzE _) ?_
   refine Fz.mk _ (frzRR _) ?_
   refine Fz.mk _ (frzI _) ?_
   refine ACall.mk _ _ hH2 ?_
   refine Need.mk (⟨ClL.mem (.v .nil), no_objs⟩) ?_
   refine sp0 ?_
   refine Split.mk fun t h16 => ?_
   cases t
   case true => (exfalso; rw [bne_iff_ne] at h16; omega)
   rw [bne_eq_false_iff_eq] at h16
   exact ndE trivial
 ·rw [cut_neg hsz1] at hSz
  refine AFn.introX (E := En 0 (mdv [23] [])) (en_ok 0 _) Tryz.func5 rfl rfl rfl fun _ _ => ?_
  refine ACall.mk _ _ hSz ?_
  refine sp1 ?_
  exact ndE trivial
theorem laws_FnExactTreeCompact_any (r0 : List C) (h0 : ShL tyTre r0) (c1 : C) (h1 : Sh (.int .i64) c1) (c2 : C) (h2 : Sh (.int .i64) c2) : AFn Tryz.prog 5 [.agg (r0.map .c), .one (.c c1), .one (.c c2)] [] (rb true) [] := by
 obtain ⟨a, rfl, wa⟩ := dec_tre h0
 obtain ⟨n1, rfl, _⟩ := h1.int'
 obtain ⟨n2, rfl, _⟩ := h2.int'
 exact laws_FnExactTreeCompact a n1 n2 wa.ok
end Go.Proofs.YtcnongahanmclaaGreat
