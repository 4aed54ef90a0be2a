/-
  Contracts of functions, part 4.
-/
import Derived.Test.YtlmdheeammfihaaTFnExactTreeOkC
namespace Go.Proofs.Ytlmdheeammfihaa
open Go Go.Proofs Ev
set_option maxRecDepth 100000
theorem laws_szRun (r : Rn) (left : Nat) (he : OkE r.ents) (hl : left ≤ 1048576) : AFn Try.prog 166 [.agg (r.enc.map .c), av (.int .i64 left)] [] (.one (vi (cut (sizeE r.ents) left))) [] := by
  refine AFn.introX (E := En 0 md0) (en_ok 0 md0) Try.func166 rfl rfl rfl fun _ _ => ?_
  refine ACall.mk _ _ (laws_szEntryS r.ents left he hl) ?_
  refine Split.mk fun t ht => ?_
  rw [cut_lt] at ht
  cases t
  · exact Need.mk ⟨[], _, .same, rfl, rfl⟩ trivial
  · exact Need.mk ⟨[], _, .same, by rw [cut_neg (by simpa using ht)]; rfl, rfl⟩ trivial
theorem laws_szRunS (xs : List Rn) (left : Nat) (he : OkR xs) (hl : left ≤ 1048576) : AFn Try.prog 138 [sl (xs.map Rn.enc), av (.int .i64 left)] [] (.one (vi (cut (sizeR xs) left))) [] := by
  refine AFn.introX (E := En 0 md0) (en_ok 0 md0) Try.func138 rfl rfl rfl fun hs _ => ?_
  have hn : (xs.map Rn.enc).length = xs.length := List.length_map ..
  have hx := Small.len (hs _ (List.mem_cons_self ..))
  rw [hn] at hx
  have hz : sizeR xs = xs.length + (xs.map (fun r : Rn => sizeE r.ents)).sum := rfl
  have fin : ∀ {z : Int}, z = cut (sizeR xs) left → RV.one (vi z) = RV.one (vi (cut (sizeR xs) left)) := fun h => by rw [h]
  refine Num.mk ((left : Int) - xs.length) (by rw [hn, IntKind.wrap_i64]; omega) ?_
  refine Split.mk fun t ht => ?_
  cases t
  · have h3 : xs.length ≤ left := by simp at ht; omega
    refine ALoop.mk (fun m s => ∃ (i r : Nat), i ≤ xs.length ∧ m = xs.length - i ∧ xs.length + ((xs.take i).map (fun r : Rn => sizeE r.ents)).sum + r = left ∧
        s = ⟨some (sl (xs.map Rn.enc)) :: some (av (.int .i64 r)) :: none :: none :: none :: some (av (.int .i64 i)) :: List.replicate 21 none, List.replicate 27 absent⟩)
      ⟨xs.length, _, Weak.nrm [true, true, false, false, false, true] [] rfl rfl rfl, 0, left - xs.length, Nat.zero_le _, rfl, by simp; omega, ?_⟩ ?_
    · rw [show ((left - xs.length : Nat) : Int) = (left : Int) - xs.length by omega]; rfl
    rintro m s ⟨i, r, hi, rfl, hr, rfl⟩
    refine Split.mk fun t ht => ?_
    rw [hn] at ht
    cases t
    · have hin : i = xs.length := by simp at ht; omega
      subst hin
      rw [List.take_length] at hr
      exact Need.mk ⟨[], _, .same, fin (by rw [cut_pos (by omega)]; omega), rfl⟩ trivial
    · have hia : i < xs.length := by simpa using ht
      have hsum := sum_take (fun r : Rn => sizeE r.ents) xs hia
      have hle := sum_take_le (fun r : Rn => sizeE r.ents) xs (i + 1)
      refine Need.mk (by omega) ?_
      refine Row.mk _ (map_get _ xs i hia) ?_
      refine ACall.mk _ _ (laws_szRun xs[i] r (he _ (List.getElem_mem _)) (by omega)) ?_
      refine Split.mk fun t ht => ?_
      rw [cut_lt] at ht
      cases t
      · have h4 : (sizeE xs[i].ents) ≤ r := by simpa using ht
        refine Num.mk _ (wrapS (by omega)) ?_
        refine ⟨xs.length - (i + 1), _, by omega, Weak.nrm [true, true, false, false, false, true] [] rfl rfl rfl, i + 1, r - (sizeE xs[i].ents), by omega, rfl, by omega, ?_⟩
        rw [← cut_pos h4]; rfl
      · have h4 : ¬ (sizeE xs[i].ents) ≤ r := by simpa using ht
        exact Need.mk ⟨[], _, .same, fin (by rw [cut_neg (by omega)]), rfl⟩ trivial
  · have h4 : ¬ sizeR xs ≤ left := by simp at ht; omega
    exact Need.mk ⟨[], _, .same, fin (by rw [cut_neg h4]), rfl⟩ trivial
theorem laws_szRunSS (xs : List (List Rn)) (left : Nat) (he : OkRR xs) (hl : left ≤ 1048576) : AFn Try.prog 86 [sl (xs.map encL), av (.int .i64 left)] [] (.one (vi (cut (sizeRR xs) left))) [] := by
  refine AFn.introX (E := En 0 md0) (en_ok 0 md0) Try.func86 rfl rfl rfl fun hs _ => ?_
  have hn : (xs.map encL).length = xs.length := List.length_map ..
  have hx := Small.len (hs _ (List.mem_cons_self ..))
  rw [hn] at hx
  have hz : sizeRR xs = xs.length + (xs.map sizeR).sum := rfl
  have fin : ∀ {z : Int}, z = cut (sizeRR xs) left → RV.one (vi z) = RV.one (vi (cut (sizeRR xs) left)) := fun h => by rw [h]
  refine Num.mk ((left : Int) - xs.length) (by rw [hn, IntKind.wrap_i64]; omega) ?_
  refine Split.mk fun t ht => ?_
  cases t
  · have h3 : xs.length ≤ left := by simp at ht; omega
    refine ALoop.mk (fun m s => ∃ (i r : Nat), i ≤ xs.length ∧ m = xs.length - i ∧ xs.length + ((xs.take i).map sizeR).sum + r = left ∧
        s = ⟨some (sl (xs.map encL)) :: some (av (.int .i64 r)) :: none :: none :: none :: some (av (.int .i64 i)) :: List.replicate 21 none, List.replicate 27 absent⟩)
      ⟨xs.length, _, Weak.nrm [true, true, false, false, false, true] [] rfl rfl rfl, 0, left - xs.length, Nat.zero_le _, rfl, by simp; omega, ?_⟩ ?_
    · rw [show ((left - xs.length : Nat) : Int) = (left : Int) - xs.length by omega]; rfl
    rintro m s ⟨i, r, hi, rfl, hr, rfl⟩
    refine Split.mk fun t ht => ?_
    rw [hn] at ht
    cases t
    · have hin : i = xs.length := by simp at ht; omega
      subst hin
      rw [List.take_length] at hr
      exact Need.mk ⟨[], _, .same, fin (by rw [cut_pos (by omega)]; omega), rfl⟩ trivial
    · have hia : i < xs.length := by simpa using ht
      have hsum := sum_take sizeR xs hia
      have hle := sum_take_le sizeR xs (i + 1)
      refine Need.mk (by omega) ?_
      refine Row.mk _ (map_get _ xs i hia) ?_
      refine ACall.mk _ _ (laws_szRunS xs[i] r (he _ (List.getElem_mem _)) (by omega)) ?_
      refine Split.mk fun t ht => ?_
      rw [cut_lt] at ht
      cases t
      · have h4 : (sizeR xs[i]) ≤ r := by simpa using ht
        refine Num.mk _ (wrapS (by omega)) ?_
        refine ⟨xs.length - (i + 1), _, by omega, Weak.nrm [true, true, false, false, false, true] [] rfl rfl rfl, i + 1, r - (sizeR xs[i]), by omega, rfl, by omega, ?_⟩
        rw [← cut_pos h4]; rfl
      · have h4 : ¬ (sizeR xs[i]) ≤ r := by simpa using ht
        exact Need.mk ⟨[], _, .same, fin (by rw [cut_neg (by omega)]), rfl⟩ trivial
  · have h4 : ¬ sizeRR xs ≤ left := by simp at ht; omega
    exact Need.mk ⟨[], _, .same, fin (by rw [cut_neg h4]), rfl⟩ trivial
end Go.Proofs.Ytlmdheeammfihaa

namespace Go.Proofs.Ytlmdheeammfihaa
open Go Go.Proofs Ev
set_option maxRecDepth 100000
theorem laws_szIntS (xs : List Int) (left : Nat) (hl : left ≤ 1048576) : AFn Try.prog 87 [sl (xs.map encI), av (.int .i64 left)] [] (.one (vi (cut xs.length left))) [] := by
  refine AFn.introX (E := En 0 md0) (en_ok 0 md0) Try.func87 rfl rfl rfl fun hs _ => ?_
  have hn : (xs.map encI).length = xs.length := List.length_map ..
  have hx := Small.len (hs _ (List.mem_cons_self ..))
  rw [hn] at hx
  have fin : ∀ {z : Int}, z = cut xs.length left → RV.one (vi z) = RV.one (vi (cut xs.length left)) := fun h => by rw [h]
  refine Num.mk ((left : Int) - xs.length) (by rw [hn, IntKind.wrap_i64]; omega) ?_
  refine Split.mk fun t ht => ?_
  cases t
  · have h3 : xs.length ≤ left := by simp at ht; omega
    exact Need.mk ⟨[], _, .same, fin (by rw [cut_pos h3]; omega), rfl⟩ trivial
  · have h3 : ¬ xs.length ≤ left := by simp at ht; omega
    exact Need.mk ⟨[], _, .same, fin (by rw [cut_neg h3]), rfl⟩ trivial
theorem laws_szTree (t : Tre) (left : Nat) (he : t.Ok) (hl : left ≤ 1048576) : AFn Try.prog 33 [.agg (t.enc.map .c), av (.int .i64 left)] [] (.one (vi (cut t.size left))) [] := by
  refine AFn.introX (E := En 0 md0) (en_ok 0 md0) Try.func33 rfl rfl rfl fun _ _ => ?_
  have hz : t.size = sizeE t.mem + sizeRR t.levels + t.snaps.length := rfl
  have fin : ∀ {z : Int}, z = cut t.size left → RV.one (vi z) = RV.one (vi (cut t.size left)) := fun h => by rw [h]
  by_cases h1 : sizeE t.mem ≤ left
  · refine ACall.mk (.one (vi ((left - sizeE t.mem : Nat) : Int))) [] (by rw [← cut_pos h1]; exact laws_szEntryS t.mem left he.1 hl) ?_
    refine Split.mk fun b hb => ?_
    cases b
    · by_cases h2 : sizeRR t.levels ≤ left - sizeE t.mem
      · refine ACall.mk (.one (vi ((left - sizeE t.mem - sizeRR t.levels : Nat) : Int))) [] (by rw [← cut_pos h2]; exact laws_szRunSS t.levels (left - sizeE t.mem) he.2 (by omega)) ?_
        refine Split.mk fun b hb => ?_
        cases b
        · by_cases h3 : t.snaps.length ≤ left - sizeE t.mem - sizeRR t.levels
          · refine ACall.mk (.one (vi ((left - sizeE t.mem - sizeRR t.levels - t.snaps.length : Nat) : Int))) [] (by rw [← cut_pos h3]; exact laws_szIntS t.snaps _ (by omega)) ?_
            refine Split.mk fun b hb => ?_
            cases b
            · exact Need.mk ⟨[], _, .same, fin (by rw [cut_pos (by omega)]; omega), rfl⟩ trivial
            · simp at hb <;> omega
          · refine ACall.mk (.one (vi (-1))) [] (by rw [← cut_neg h3]; exact laws_szIntS t.snaps _ (by omega)) ?_
            refine Split.mk fun b hb => ?_
            cases b
            · simp at hb
            · exact Need.mk ⟨[], _, .same, fin (by rw [cut_neg (by omega)]), rfl⟩ trivial
        · simp at hb <;> omega
      · refine ACall.mk (.one (vi (-1))) [] (by rw [← cut_neg h2]; exact laws_szRunSS t.levels (left - sizeE t.mem) he.2 (by omega)) ?_
        refine Split.mk fun b hb => ?_
        cases b
        · simp at hb
        · exact Need.mk ⟨[], _, .same, fin (by rw [cut_neg (by omega)]), rfl⟩ trivial
    · simp at hb <;> omega
  · refine ACall.mk (.one (vi (-1))) [] (by rw [← cut_neg h1]; exact laws_szEntryS t.mem left he.1 hl) ?_
    refine Split.mk fun b hb => ?_
    cases b
    · simp at hb
    · exact Need.mk ⟨[], _, .same, fin (by rw [cut_neg (by omega)]), rfl⟩ trivial
end Go.Proofs.Ytlmdheeammfihaa

namespace Go.Proofs.Ytlmdheeammfihaa
open Go Go.Proofs Ev
set_option maxRecDepth 100000
theorem laws_toEntry (e : Ent) : AFn Try.prog 142 [.agg (e.enc.map .c)] [] (.agg e.enc) [] := by
  refine AFn.introX (E := En 0 md0) (en_ok 0 md0) Try.func142 rfl rfl rfl fun _ _ => ?_
  exact Need.mk ⟨[], _, .same, rfl, rfl⟩ trivial
theorem laws_toEntryS (xs : List Ent) (hx : xs.length ≤ 1048576) : AFn Try.prog 92 [sl (xs.map Ent.enc)] [] (.one (.us 32 (xs.map Ent.enc))) [] := by
  refine AFn.introX (E := En 0 md0) (en_ok 0 md0) Try.func92 rfl rfl rfl fun _ _ => ?_
  have hn : (xs.map Ent.enc).length = xs.length := List.length_map ..
  refine Need.mk ⟨by omega, by omega, by simp only [hn]; omega, by omega⟩ ?_
  let S : List (List C) → Nat → St := fun rows i => ⟨some (sl (xs.map Ent.enc)) :: none :: none :: some (.one (.ref 3 0 (.cell 0))) :: some (av (.int .i64 i)) :: List.replicate 18 none, absent :: absent :: absent :: ⟨0, 1, some [.us 32 rows]⟩ :: List.replicate 19 absent⟩
  refine ALoop.mk (fun m s => ∃ i : Nat, i ≤ xs.length ∧ m = xs.length - i ∧ s = S ((xs.take i ++ List.replicate (xs.length - i) ent0).map Ent.enc) i)
    ⟨xs.length, _, Weak.nrm [true, false, false, true, true] [(7, 3)] rfl rfl rfl, 0, Nat.zero_le _, rfl, ?_⟩ ?_
  · refine Eq.trans (b := S (List.replicate (xs.map Ent.enc).length (Ent.enc ent0)) 0) rfl ?_
    rw [hn, List.take_zero, List.nil_append, List.map_replicate, Nat.sub_zero]
  rintro m s ⟨i, hi, rfl, rfl⟩
  refine Split.mk fun t ht => ?_
  rw [hn] at ht
  cases t
  · have hin : i = xs.length := by simp at ht; omega
    subst hin
    refine Need.mk ⟨[], _, .same, ?_, rfl⟩ trivial
    rw [List.take_length, Nat.sub_self, List.replicate_zero, List.append_nil]; rfl
  · have hia : i < xs.length := by simpa using ht
    refine Need.mk (by omega) ?_
    refine Row.mk _ (map_get _ xs i hia) ?_
    refine ACall.mk _ _ (laws_toEntry xs[i]) ?_
    refine Need.mk ⟨by omega, by rw [List.length_map, to_len _ _ hi]; omega⟩ ?_
    refine Row.mk _ (to_get _ xs ent0 hia) ?_
    refine Num.mk _ (wrapS (by omega)) ?_
    refine ⟨xs.length - (i + 1), _, by omega, Weak.nrm [true, false, false, true, true] [(3, 3)] rfl rfl rfl, i + 1, by omega, rfl, ?_⟩
    refine Eq.trans (b := S (((xs.take i ++ List.replicate (xs.length - i) ent0).map Ent.enc).set i (Ent.enc xs[i])) (i + 1)) rfl ?_
    rw [← List.map_set, to_step xs ent0 hia]
end Go.Proofs.Ytlmdheeammfihaa

namespace Go.Proofs.Ytlmdheeammfihaa
open Go Go.Proofs Ev
set_option maxRecDepth 100000
def encO (r : Rn) : List C := [.us 32 (r.ents.map Ent.enc), vi r.mask]
def encLO (l : List Rn) : List C := [.us 25 (l.map encO)]
theorem clO (xs : List Rn) : ∀ r ∈ xs.map encO, ClL r := cl_map (f := encO) (fun l => .us (clE l.ents) (.v .nil)) xs
theorem clLO (xs : List (List Rn)) : ∀ r ∈ xs.map encLO, ClL r := cl_map (f := encLO) (fun l => .us (clO l) .nil) xs
end Go.Proofs.Ytlmdheeammfihaa

namespace Go.Proofs.Ytlmdheeammfihaa
open Go Go.Proofs Ev
set_option maxRecDepth 100000
theorem laws_toRun (r : Rn) (hr : r.ents.length ≤ 1048576) : AFn Try.prog 167 [.agg (r.enc.map .c)] [] (.agg (encO r)) [] := by
  refine AFn.introX (E := En 0 md0) (en_ok 0 md0) Try.func167 rfl rfl rfl fun _ _ => ?_
  refine ACall.mk _ _ (laws_toEntryS r.ents hr) ?_
  exact Need.mk ⟨[], _, .same, rfl, rfl⟩ trivial
theorem laws_toRunS (xs : List Rn) (hx : xs.length ≤ 1048576) (hr : ∀ r ∈ xs, r.ents.length ≤ 1048576) : AFn Try.prog 143 [sl (xs.map Rn.enc)] [] (.one (.us 25 (xs.map encO))) [] := by
  refine AFn.introX (E := En 0 md0) (en_ok 0 md0) Try.func143 rfl rfl rfl fun _ _ => ?_
  have hn : (xs.map Rn.enc).length = xs.length := List.length_map ..
  refine Need.mk ⟨by omega, by omega, by simp only [hn]; omega, by omega⟩ ?_
  let S : List (List C) → Nat → St := fun rows i => ⟨some (sl (xs.map Rn.enc)) :: none :: none :: some (.one (.ref 3 0 (.cell 0))) :: some (av (.int .i64 i)) :: List.replicate 18 none, absent :: absent :: absent :: ⟨0, 1, some [.us 25 rows]⟩ :: List.replicate 19 absent⟩
  refine ALoop.mk (fun m s => ∃ i : Nat, i ≤ xs.length ∧ m = xs.length - i ∧ s = S ((xs.take i ++ List.replicate (xs.length - i) (⟨[], 0⟩ : Rn)).map encO) i)
    ⟨xs.length, _, Weak.nrm [true, false, false, true, true] [(7, 3)] rfl rfl rfl, 0, Nat.zero_le _, rfl, ?_⟩ ?_
  · refine Eq.trans (b := S (List.replicate (xs.map Rn.enc).length (encO (⟨[], 0⟩ : Rn))) 0) rfl ?_
    rw [hn, List.take_zero, List.nil_append, List.map_replicate, Nat.sub_zero]
  rintro m s ⟨i, hi, rfl, rfl⟩
  refine Split.mk fun t ht => ?_
  rw [hn] at ht
  cases t
  · have hin : i = xs.length := by simp at ht; omega
    subst hin
    refine Need.mk ⟨[], _, .same, ?_, rfl⟩ trivial
    rw [List.take_length, Nat.sub_self, List.replicate_zero, List.append_nil]; rfl
  · have hia : i < xs.length := by simpa using ht
    refine Need.mk (by omega) ?_
    refine Row.mk _ (map_get _ xs i hia) ?_
    refine ACall.mk _ _ (laws_toRun xs[i] (hr _ (List.getElem_mem _))) ?_
    refine Need.mk ⟨by omega, by rw [List.length_map, to_len _ _ hi]; omega⟩ ?_
    refine Row.mk _ (to_get _ xs (⟨[], 0⟩ : Rn) hia) ?_
    refine Num.mk _ (wrapS (by omega)) ?_
    refine ⟨xs.length - (i + 1), _, by omega, Weak.nrm [true, false, false, true, true] [(3, 3)] rfl rfl rfl, i + 1, by omega, rfl, ?_⟩
    refine Eq.trans (b := S (((xs.take i ++ List.replicate (xs.length - i) (⟨[], 0⟩ : Rn)).map encO).set i (encO xs[i])) (i + 1)) rfl ?_
    rw [← List.map_set, to_step xs (⟨[], 0⟩ : Rn) hia]
end Go.Proofs.Ytlmdheeammfihaa

namespace Go.Proofs.Ytlmdheeammfihaa
open Go Go.Proofs Ev
set_option maxRecDepth 100000
theorem laws_toRunSS (xs : List (List Rn)) (hx : xs.length ≤ 1048576) (hr : ∀ l ∈ xs, l.length ≤ 1048576 ∧ ∀ r ∈ l, r.ents.length ≤ 1048576) : AFn Try.prog 93 [sl (xs.map encL)] [] (.one (.us 112 (xs.map encLO))) [] := by
  refine AFn.introX (E := En 0 md0) (en_ok 0 md0) Try.func93 rfl rfl rfl fun _ _ => ?_
  have hn : (xs.map encL).length = xs.length := List.length_map ..
  refine Need.mk ⟨by omega, by omega, by simp only [hn]; omega, by omega⟩ ?_
  let S : List (List C) → Nat → St := fun rows i => ⟨some (sl (xs.map encL)) :: none :: none :: some (.one (.ref 3 0 (.cell 0))) :: some (av (.int .i64 i)) :: List.replicate 18 none, absent :: absent :: absent :: ⟨0, 1, some [.us 112 rows]⟩ :: List.replicate 19 absent⟩
  refine ALoop.mk (fun m s => ∃ i : Nat, i ≤ xs.length ∧ m = xs.length - i ∧ s = S ((xs.take i ++ List.replicate (xs.length - i) ([] : List Rn)).map encLO) i)
    ⟨xs.length, _, Weak.nrm [true, false, false, true, true] [(7, 3)] rfl rfl rfl, 0, Nat.zero_le _, rfl, ?_⟩ ?_
  · refine Eq.trans (b := S (List.replicate (xs.map encL).length (encLO ([] : List Rn))) 0) rfl ?_
    rw [hn, List.take_zero, List.nil_append, List.map_replicate, Nat.sub_zero]
  rintro m s ⟨i, hi, rfl, rfl⟩
  refine Split.mk fun t ht => ?_
  rw [hn] at ht
  cases t
  · have hin : i = xs.length := by simp at ht; omega
    subst hin
    refine Need.mk ⟨[], _, .same, ?_, rfl⟩ trivial
    rw [List.take_length, Nat.sub_self, List.replicate_zero, List.append_nil]; rfl
  · have hia : i < xs.length := by simpa using ht
    refine Need.mk (by omega) ?_
    refine Row.mk _ (map_get _ xs i hia) ?_
    refine ACall.mk _ _ (laws_toRunS xs[i] (hr _ (List.getElem_mem _)).1 (hr _ (List.getElem_mem _)).2) ?_
    refine Need.mk ⟨by omega, by rw [List.length_map, to_len _ _ hi]; omega⟩ ?_
    refine Row.mk _ (to_get _ xs ([] : List Rn) hia) ?_
    refine Num.mk _ (wrapS (by omega)) ?_
    refine ⟨xs.length - (i + 1), _, by omega, Weak.nrm [true, false, false, true, true] [(3, 3)] rfl rfl rfl, i + 1, by omega, rfl, ?_⟩
    refine Eq.trans (b := S (((xs.take i ++ List.replicate (xs.length - i) ([] : List Rn)).map encLO).set i (encLO xs[i])) (i + 1)) rfl ?_
    rw [← List.map_set, to_step xs ([] : List Rn) hia]
end Go.Proofs.Ytlmdheeammfihaa

namespace Go.Proofs.Ytlmdheeammfihaa
open Go Go.Proofs Ev
set_option maxRecDepth 100000
theorem laws_toIntS (xs : List Int) (hx : xs.length ≤ 1048576) : AFn Try.prog 94 [sl (xs.map encI)] [] (.one (.us 3 (xs.map encI))) [] := by
  refine AFn.introX (E := En 0 md0) (en_ok 0 md0) Try.func94 rfl rfl rfl fun _ _ => ?_
  have hn : (xs.map encI).length = xs.length := List.length_map ..
  refine Need.mk ⟨by omega, by omega, by simp only [hn]; omega, by omega⟩ ?_
  let S : List (List C) → Nat → St := fun rows i => ⟨some (sl (xs.map encI)) :: none :: none :: some (.one (.ref 3 0 (.cell 0))) :: some (av (.int .i64 i)) :: List.replicate 17 none, absent :: absent :: absent :: ⟨0, 1, some [.us 3 rows]⟩ :: List.replicate 18 absent⟩
  refine ALoop.mk (fun m s => ∃ i : Nat, i ≤ xs.length ∧ m = xs.length - i ∧ s = S ((xs.take i ++ List.replicate (xs.length - i) (0 : Int)).map encI) i)
    ⟨xs.length, _, Weak.nrm [true, false, false, true, true] [(7, 3)] rfl rfl rfl, 0, Nat.zero_le _, rfl, ?_⟩ ?_
  · refine Eq.trans (b := S (List.replicate (xs.map encI).length (encI (0 : Int))) 0) rfl ?_
    rw [hn, List.take_zero, List.nil_append, List.map_replicate, Nat.sub_zero]
  rintro m s ⟨i, hi, rfl, rfl⟩
  refine Split.mk fun t ht => ?_
  rw [hn] at ht
  cases t
  · have hin : i = xs.length := by simp at ht; omega
    subst hin
    refine Need.mk ⟨[], _, .same, ?_, rfl⟩ trivial
    rw [List.take_length, Nat.sub_self, List.replicate_zero, List.append_nil]; rfl
  · have hia : i < xs.length := by simpa using ht
    refine Need.mk (by omega) ?_
    refine Row.mk _ (map_get _ xs i hia) ?_
    refine Need.mk ⟨by omega, by rw [List.length_map, to_len _ _ hi]; omega⟩ ?_
    refine Row.mk _ (to_get _ xs (0 : Int) hia) ?_
    refine Num.mk _ (wrapS (by omega)) ?_
    refine ⟨xs.length - (i + 1), _, by omega, Weak.nrm [true, false, false, true, true] [(3, 3)] rfl rfl rfl, i + 1, by omega, rfl, ?_⟩
    refine Eq.trans (b := S (((xs.take i ++ List.replicate (xs.length - i) (0 : Int)).map encI).set i (encI xs[i])) (i + 1)) rfl ?_
    rw [← List.map_set, to_step xs (0 : Int) hia]
end Go.Proofs.Ytlmdheeammfihaa

namespace Go.Proofs.Ytlmdheeammfihaa
open Go Go.Proofs Ev
set_option maxRecDepth 100000
def encTO (t : Tre) : List C := [vi t.seq, .us 32 (t.mem.map Ent.enc), .us 112 (t.levels.map encLO), .us 3 (t.snaps.map encI)]
theorem laws_toTree (t : Tre) (ht : Tre.Small t) : AFn Try.prog 35 [.agg (t.enc.map .c)] [] (.agg (encTO t)) [] := by
  refine AFn.introX (E := En 0 md0) (en_ok 0 md0) Try.func35 rfl rfl rfl fun _ _ => ?_
  refine ACall.mk _ _ (laws_toEntryS t.mem ht.1) ?_
  refine ACall.mk _ _ (laws_toRunSS t.levels ht.2.1 ht.2.2.1) ?_
  refine ACall.mk _ _ (laws_toIntS t.snaps ht.2.2.2) ?_
  exact Need.mk ⟨[], _, .same, rfl, rfl⟩ trivial
end Go.Proofs.Ytlmdheeammfihaa

namespace Go.Proofs.Ytlmdheeammfihaa
open Go Go.Proofs Ev
set_option maxRecDepth 100000
theorem laws_eqEntry (a b : Ent) : AFn Try.prog 102 [.agg (a.enc.map .c), .agg (b.enc.map .c)] [] (rb (decide (a = b))) [] := by
  refine AFn.introX (E := En 0 md0) (en_ok 0 md0) Try.func102 rfl rfl rfl fun _ _ => ?_
  have fin : ∀ {c : Bool}, c = decide (a = b) → rb c = rb (decide (a = b)) := fun h => by rw [h]
  refine Split.mk fun t ht => ?_
  rw [bytes_beq] at ht
  cases t
  · refine Split.mk fun t ht1 => ?_
    cases t
    · refine Split.mk fun t ht2 => ?_
      cases t
      · refine Split.mk fun t ht3 => ?_
        rw [bytes_beq] at ht3
        cases t
        · refine Split.mk fun t ht4 => ?_
          cases t
          · exact Need.mk ⟨[], _, .same, fin (by cases a; cases b; simp_all), rfl⟩ trivial
          · exact Need.mk ⟨[], _, .same, fin (by cases a; cases b; simp_all), rfl⟩ trivial
        · exact Need.mk ⟨[], _, .same, fin (by cases a; cases b; simp_all), rfl⟩ trivial
      · exact Need.mk ⟨[], _, .same, fin (by cases a; cases b; simp_all), rfl⟩ trivial
    · exact Need.mk ⟨[], _, .same, fin (by cases a; cases b; simp_all), rfl⟩ trivial
  · exact Need.mk ⟨[], _, .same, fin (by cases a; cases b; simp_all), rfl⟩ trivial
end Go.Proofs.Ytlmdheeammfihaa

namespace Go.Proofs.Ytlmdheeammfihaa
open Go Go.Proofs Ev
set_option maxRecDepth 100000
theorem laws_eqEntryS (a b : List Ent) : AFn Try.prog 40 [sl (a.map Ent.enc), sl (b.map Ent.enc)] [] (rb (decide (a = b))) [] := by
  refine AFn.introX (E := En 0 md0) (en_ok 0 md0) Try.func40 rfl rfl rfl fun hs _ => ?_
  have ha := Small.len (hs _ (List.mem_cons_self ..))
  rw [List.length_map] at ha
  have fin : ∀ {c : Bool}, c = decide (a = b) → rb c = rb (decide (a = b)) := fun h => by rw [h]
  refine Split.mk fun t ht => ?_
  cases t
  · have hl : a.length = b.length := Int.ofNat_inj.1 (by simpa using ht)
    refine ALoop.mk (fun n s => ∃ i : Nat, i ≤ a.length ∧ n = a.length - i ∧ a.take i = b.take i ∧
      s = ⟨some (sl (a.map Ent.enc)) :: some (sl (b.map Ent.enc)) :: none :: none :: some (av (.bool false)) :: some (av (.int .i64 i)) :: List.replicate 21 none, List.replicate 27 absent⟩)
      ⟨a.length, _, Weak.nrm [true, true, false, false, true, true] [] rfl rfl rfl, 0, Nat.zero_le _, rfl, rfl, rfl⟩ ?_
    rintro n s ⟨i, hi, rfl, hp, rfl⟩
    refine Split.mk fun t ht => ?_
    cases t
    · have hia : i = a.length := by simp at ht; omega
      refine Need.mk ⟨[], _, .same, fin ?_, rfl⟩ trivial
      subst hia
      rw [List.take_length, hl, List.take_length] at hp
      simp [hp]
    · have hia : i < a.length := by simpa using ht
      refine Need.mk (by omega) ?_
      refine Row.mk _ (map_get _ a i hia) ?_
      refine Need.mk (by omega) ?_
      refine Row.mk _ (map_get _ b i (by omega)) ?_
      refine ACall.mk _ _ (laws_eqEntry a[i] (b[i]'(by omega))) ?_
      refine Split.mk fun t ht2 => ?_
      cases t
      · refine Need.mk rfl ?_
        refine Need.mk ⟨[], _, .same, fin ?_, rfl⟩ trivial
        have : a[i] ≠ b[i]'(by omega) := by simpa using ht2
        refine (decide_eq_false fun e => this ?_).symm
        subst e; rfl
      · refine Need.mk rfl ?_
        refine Num.mk _ (wrapS (by omega)) ?_
        refine ⟨a.length - (i + 1), _, by omega, Weak.nrm [true, true, false, false, true, true] [] rfl rfl rfl, i + 1, by omega, rfl, ?_, rfl⟩
        have : a[i] = b[i]'(by omega) := by simpa using ht2
        rw [List.take_succ_eq_append_getElem hia, List.take_succ_eq_append_getElem (by omega), hp, this]
  · refine Need.mk ⟨[], _, .same, fin ?_, rfl⟩ trivial
    have : a.length ≠ b.length := by
      intro e; simp [e] at ht
    exact (decide_eq_false fun e => this (by rw [e])).symm
end Go.Proofs.Ytlmdheeammfihaa

namespace Go.Proofs.Ytlmdheeammfihaa
open Go Go.Proofs Ev
set_option maxRecDepth 100000
theorem laws_eqRun (a b : Rn) : AFn Try.prog 168 [.agg (a.enc.map .c), .agg (b.enc.map .c)] [] (rb (decide (a = b))) [] := by
  refine AFn.introX (E := En 0 md0) (en_ok 0 md0) Try.func168 rfl rfl rfl fun _ _ => ?_
  have fin : ∀ {c : Bool}, c = decide (a = b) → rb c = rb (decide (a = b)) := fun h => by rw [h]
  refine ACall.mk _ _ (laws_eqEntryS a.ents b.ents) ?_
  refine Split.mk fun t ht => ?_
  cases t
  · exact Need.mk ⟨[], _, .same, fin (by cases a; cases b; simp_all), rfl⟩ trivial
  · refine Split.mk fun t ht1 => ?_
    cases t
    · exact Need.mk ⟨[], _, .same, fin (by cases a; cases b; simp_all), rfl⟩ trivial
    · exact Need.mk ⟨[], _, .same, fin (by cases a; cases b; simp_all), rfl⟩ trivial
end Go.Proofs.Ytlmdheeammfihaa

namespace Go.Proofs.Ytlmdheeammfihaa
open Go Go.Proofs Ev
set_option maxRecDepth 100000
theorem laws_eqRunS (a b : List Rn) : AFn Try.prog 145 [sl (a.map Rn.enc), sl (b.map Rn.enc)] [] (rb (decide (a = b))) [] := by
  refine AFn.introX (E := En 0 md0) (en_ok 0 md0) Try.func145 rfl rfl rfl fun hs _ => ?_
  have ha := Small.len (hs _ (List.mem_cons_self ..))
  rw [List.length_map] at ha
  have fin : ∀ {c : Bool}, c = decide (a = b) → rb c = rb (decide (a = b)) := fun h => by rw [h]
  refine Split.mk fun t ht => ?_
  cases t
  · have hl : a.length = b.length := Int.ofNat_inj.1 (by simpa using ht)
    refine ALoop.mk (fun n s => ∃ i : Nat, i ≤ a.length ∧ n = a.length - i ∧ a.take i = b.take i ∧
      s = ⟨some (sl (a.map Rn.enc)) :: some (sl (b.map Rn.enc)) :: none :: none :: some (av (.bool false)) :: some (av (.int .i64 i)) :: List.replicate 21 none, List.replicate 27 absent⟩)
      ⟨a.length, _, Weak.nrm [true, true, false, false, true, true] [] rfl rfl rfl, 0, Nat.zero_le _, rfl, rfl, rfl⟩ ?_
    rintro n s ⟨i, hi, rfl, hp, rfl⟩
    refine Split.mk fun t ht => ?_
    cases t
    · have hia : i = a.length := by simp at ht; omega
      refine Need.mk ⟨[], _, .same, fin ?_, rfl⟩ trivial
      subst hia
      rw [List.take_length, hl, List.take_length] at hp
      simp [hp]
    · have hia : i < a.length := by simpa using ht
      refine Need.mk (by omega) ?_
      refine Row.mk _ (map_get _ a i hia) ?_
      refine Need.mk (by omega) ?_
      refine Row.mk _ (map_get _ b i (by omega)) ?_
      refine ACall.mk _ _ (laws_eqRun a[i] (b[i]'(by omega))) ?_
      refine Split.mk fun t ht2 => ?_
      cases t
      · refine Need.mk rfl ?_
        refine Need.mk ⟨[], _, .same, fin ?_, rfl⟩ trivial
        have : a[i] ≠ b[i]'(by omega) := by simpa using ht2
        refine (decide_eq_false fun e => this ?_).symm
        subst e; rfl
      · refine Need.mk rfl ?_
        refine Num.mk _ (wrapS (by omega)) ?_
        refine ⟨a.length - (i + 1), _, by omega, Weak.nrm [true, true, false, false, true, true] [] rfl rfl rfl, i + 1, by omega, rfl, ?_, rfl⟩
        have : a[i] = b[i]'(by omega) := by simpa using ht2
        rw [List.take_succ_eq_append_getElem hia, List.take_succ_eq_append_getElem (by omega), hp, this]
  · refine Need.mk ⟨[], _, .same, fin ?_, rfl⟩ trivial
    have : a.length ≠ b.length := by
      intro e; simp [e] at ht
    exact (decide_eq_false fun e => this (by rw [e])).symm
end Go.Proofs.Ytlmdheeammfihaa

namespace Go.Proofs.Ytlmdheeammfihaa
open Go Go.Proofs Ev
set_option maxRecDepth 100000
theorem laws_eqRunSS (a b : List (List Rn)) : AFn Try.prog 99 [sl (a.map encL), sl (b.map encL)] [] (rb (decide (a = b))) [] := by
  refine AFn.introX (E := En 0 md0) (en_ok 0 md0) Try.func99 rfl rfl rfl fun hs _ => ?_
  have ha := Small.len (hs _ (List.mem_cons_self ..))
  rw [List.length_map] at ha
  have fin : ∀ {c : Bool}, c = decide (a = b) → rb c = rb (decide (a = b)) := fun h => by rw [h]
  refine Split.mk fun t ht => ?_
  cases t
  · have hl : a.length = b.length := Int.ofNat_inj.1 (by simpa using ht)
    refine ALoop.mk (fun n s => ∃ i : Nat, i ≤ a.length ∧ n = a.length - i ∧ a.take i = b.take i ∧
      s = ⟨some (sl (a.map encL)) :: some (sl (b.map encL)) :: none :: none :: some (av (.bool false)) :: some (av (.int .i64 i)) :: List.replicate 21 none, List.replicate 27 absent⟩)
      ⟨a.length, _, Weak.nrm [true, true, false, false, true, true] [] rfl rfl rfl, 0, Nat.zero_le _, rfl, rfl, rfl⟩ ?_
    rintro n s ⟨i, hi, rfl, hp, rfl⟩
    refine Split.mk fun t ht => ?_
    cases t
    · have hia : i = a.length := by simp at ht; omega
      refine Need.mk ⟨[], _, .same, fin ?_, rfl⟩ trivial
      subst hia
      rw [List.take_length, hl, List.take_length] at hp
      simp [hp]
    · have hia : i < a.length := by simpa using ht
      refine Need.mk (by omega) ?_
      refine Row.mk _ (map_get _ a i hia) ?_
      refine Need.mk (by omega) ?_
      refine Row.mk _ (map_get _ b i (by omega)) ?_
      refine ACall.mk _ _ (laws_eqRunS a[i] (b[i]'(by omega))) ?_
      refine Split.mk fun t ht2 => ?_
      cases t
      · refine Need.mk rfl ?_
        refine Need.mk ⟨[], _, .same, fin ?_, rfl⟩ trivial
        have : a[i] ≠ b[i]'(by omega) := by simpa using ht2
        refine (decide_eq_false fun e => this ?_).symm
        subst e; rfl
      · refine Need.mk rfl ?_
        refine Num.mk _ (wrapS (by omega)) ?_
        refine ⟨a.length - (i + 1), _, by omega, Weak.nrm [true, true, false, false, true, true] [] rfl rfl rfl, i + 1, by omega, rfl, ?_, rfl⟩
        have : a[i] = b[i]'(by omega) := by simpa using ht2
        rw [List.take_succ_eq_append_getElem hia, List.take_succ_eq_append_getElem (by omega), hp, this]
  · refine Need.mk ⟨[], _, .same, fin ?_, rfl⟩ trivial
    have : a.length ≠ b.length := by
      intro e; simp [e] at ht
    exact (decide_eq_false fun e => this (by rw [e])).symm
end Go.Proofs.Ytlmdheeammfihaa

namespace Go.Proofs.Ytlmdheeammfihaa
open Go Go.Proofs Ev
set_option maxRecDepth 100000
theorem laws_eqIntS (a b : List Int) : AFn Try.prog 100 [sl (a.map encI), sl (b.map encI)] [] (rb (decide (a = b))) [] := by
  refine AFn.introX (E := En 0 md0) (en_ok 0 md0) Try.func100 rfl rfl rfl fun hs _ => ?_
  have ha := Small.len (hs _ (List.mem_cons_self ..))
  rw [List.length_map] at ha
  have fin : ∀ {c : Bool}, c = decide (a = b) → rb c = rb (decide (a = b)) := fun h => by rw [h]
  refine Split.mk fun t ht => ?_
  cases t
  · have hl : a.length = b.length := Int.ofNat_inj.1 (by simpa using ht)
    refine ALoop.mk (fun n s => ∃ i : Nat, i ≤ a.length ∧ n = a.length - i ∧ a.take i = b.take i ∧
      s = ⟨some (sl (a.map encI)) :: some (sl (b.map encI)) :: none :: none :: some (av (.bool false)) :: some (av (.int .i64 i)) :: List.replicate 20 none, List.replicate 26 absent⟩)
      ⟨a.length, _, Weak.nrm [true, true, false, false, true, true] [] rfl rfl rfl, 0, Nat.zero_le _, rfl, rfl, rfl⟩ ?_
    rintro n s ⟨i, hi, rfl, hp, rfl⟩
    refine Split.mk fun t ht => ?_
    cases t
    · have hia : i = a.length := by simp at ht; omega
      refine Need.mk ⟨[], _, .same, fin ?_, rfl⟩ trivial
      subst hia
      rw [List.take_length, hl, List.take_length] at hp
      simp [hp]
    · have hia : i < a.length := by simpa using ht
      refine Need.mk (by omega) ?_
      refine Row.mk _ (map_get _ a i hia) ?_
      refine Need.mk (by omega) ?_
      refine Row.mk _ (map_get _ b i (by omega)) ?_
      refine Split.mk fun t ht2 => ?_
      cases t
      · refine Need.mk rfl ?_
        refine Num.mk _ (wrapS (by omega)) ?_
        refine ⟨a.length - (i + 1), _, by omega, Weak.nrm [true, true, false, false, true, true] [] rfl rfl rfl, i + 1, by omega, rfl, ?_, rfl⟩
        have : a[i] = b[i]'(by omega) := by simpa using ht2
        rw [List.take_succ_eq_append_getElem hia, List.take_succ_eq_append_getElem (by omega), hp, this]
      · refine Need.mk rfl ?_
        refine Need.mk ⟨[], _, .same, fin ?_, rfl⟩ trivial
        have : a[i] ≠ b[i]'(by omega) := by simpa using ht2
        refine (decide_eq_false fun e => this ?_).symm
        subst e; rfl
  · refine Need.mk ⟨[], _, .same, fin ?_, rfl⟩ trivial
    have : a.length ≠ b.length := by
      intro e; simp [e] at ht
    exact (decide_eq_false fun e => this (by rw [e])).symm
end Go.Proofs.Ytlmdheeammfihaa

namespace Go.Proofs.Ytlmdheeammfihaa
open Go Go.Proofs Ev
set_option maxRecDepth 100000
theorem laws_eqTree (a b : Tre) : AFn Try.prog 37 [.agg (a.enc.map .c), .agg (b.enc.map .c)] [] (rb (decide (a = b))) [] := by
  refine AFn.introX (E := En 0 md0) (en_ok 0 md0) Try.func37 rfl rfl rfl fun _ _ => ?_
  have fin : ∀ {c : Bool}, c = decide (a = b) → rb c = rb (decide (a = b)) := fun h => by rw [h]
  refine Split.mk fun t ht => ?_
  cases t
  · refine ACall.mk _ _ (laws_eqEntryS a.mem b.mem) ?_
    refine Split.mk fun t ht1 => ?_
    cases t
    · exact Need.mk ⟨[], _, .same, fin (by cases a; cases b; simp_all), rfl⟩ trivial
    · refine ACall.mk _ _ (laws_eqRunSS a.levels b.levels) ?_
      refine Split.mk fun t ht2 => ?_
      cases t
      · exact Need.mk ⟨[], _, .same, fin (by cases a; cases b; simp_all), rfl⟩ trivial
      · refine ACall.mk _ _ (laws_eqIntS a.snaps b.snaps) ?_
        refine Split.mk fun t ht3 => ?_
        cases t
        · exact Need.mk ⟨[], _, .same, fin (by cases a; cases b; simp_all), rfl⟩ trivial
        · exact Need.mk ⟨[], _, .same, fin (by cases a; cases b; simp_all), rfl⟩ trivial
  · exact Need.mk ⟨[], _, .same, fin (by cases a; cases b; simp_all), rfl⟩ trivial
end Go.Proofs.Ytlmdheeammfihaa

namespace Go.Proofs.Ytlmdheeammfihaa
open Go Go.Proofs Ev
set_option maxRecDepth 100000
theorem frzR (xs : List Rn) : Frz (.us 25 (xs.map encO)) (.sl (xs.map Rn.enc)) := frz_map fun r _ => .cons (frzE r.ents) (.cons .v .nil)
theorem frzRR (xs : List (List Rn)) : Frz (.us 112 (xs.map encLO)) (.sl (xs.map encL)) := frz_map fun r _ => .cons (frzR r) .nil
end Go.Proofs.Ytlmdheeammfihaa

namespace Go.Proofs.Ytlmdheeammfihaa
open Go Go.Proofs Ev
set_option maxRecDepth 100000
set_option maxHeartbeats 4000000
theorem laws_FnExactTreeOk (a : Tre) (ha : a.Ok) : AFn Try.prog 10 [.agg (a.enc.map .c)] [] (rb true) [] := by
  have hSz := laws_szTree a 1048576 ha (Nat.le_refl _)
  by_cases h1 : a.size ≤ 1048576
  · rw [cut_pos h1] at hSz
    have sa : a.Small := Tre.small h1
    have hz : ∀ l ∈ a.levels, ∀ r ∈ l, r.ents.length ≤ 1099511627776 := fun l hl r hr => Nat.le_trans ((sa.2.2.1 l hl).2 r hr) (by decide)
    have hT := laws_toTree a sa
    have hS := spec_TreeOk a ha (Nat.le_trans sa.2.2.2 (by decide)) hz
    have hI := impl_TreeOk a ha hz
    have hE := laws_eqTree a a
    rw [decide_eq_true rfl] at hE
    have hF1 := frzE (e := 32) a.mem
    have hF2 := frzRR a.levels
    have hF3 := frzI (e := 3) a.snaps
    have hex : ∃ b, treeOk a = b := ⟨_, rfl⟩
    obtain ⟨b, hb⟩ := hex
    rw [hb] at hS hI
    cases b with
    | false =>
      refine AFn.introX (E := En 0 md0) (en_ok 0 md0) Try.func10 rfl rfl rfl fun _ _ => ?_
      refine ACall.mk _ _ hSz ?_
      refine Split.mk fun t h1 => ?_
      cases t
      case true => cases h1
      refine ACall.mk _ _ hT ?_
      refine Fz.mk _ hF1 ?_
      refine Fz.mk _ hF2 ?_
      refine Fz.mk _ hF3 ?_
      refine ACall.mk _ _ hS ?_
      refine Need.mk (⟨ClL.mem (.v .nil), no_objs⟩) ?_
      refine Split.mk fun t h2 => ?_
      cases t
      case true => cases h2
      refine ACall.mk _ _ hT ?_
      refine Fz.mk _ hF1 ?_
      refine Fz.mk _ hF2 ?_
      refine Fz.mk _ hF3 ?_
      refine ACall.mk _ _ hI ?_
      refine Need.mk (⟨ClL.mem (.v .nil), no_objs⟩) ?_
      refine Split.mk fun t h3 => ?_
      cases t
      case true => cases h3
      refine Split.mk fun t h4 => ?_
      cases t
      case true => cases h4
      refine ACall.mk _ _ hT ?_
      refine Fz.mk _ hF1 ?_
      refine Fz.mk _ hF2 ?_
      refine Fz.mk _ hF3 ?_
      refine Fz.mk _ hF1 ?_
      refine Fz.mk _ hF2 ?_
      refine Fz.mk _ hF3 ?_
      refine ACall.mk _ _ hE ?_
      refine Need.mk (⟨ClL.mem (.v .nil), no_objs⟩) ?_
      refine Split.mk fun t h5 => ?_
      cases t
      case false => cases h5
      refine Need.mk (rfl) ?_
      exact Need.mk ⟨[], _, .same, rfl, rfl⟩ trivial
    | true =>
      refine AFn.introX (E := En 0 md0) (en_ok 0 md0) Try.func10 rfl rfl rfl fun _ _ => ?_
      refine ACall.mk _ _ hSz ?_
      refine Split.mk fun t h1 => ?_
      cases t
      case true => cases h1
      refine ACall.mk _ _ hT ?_
      refine Fz.mk _ hF1 ?_
      refine Fz.mk _ hF2 ?_
      refine Fz.mk _ hF3 ?_
      refine ACall.mk _ _ hS ?_
      refine Need.mk (⟨ClL.mem (.v .nil), no_objs⟩) ?_
      refine Split.mk fun t h2 => ?_
      cases t
      case false => cases h2
      refine ACall.mk _ _ hT ?_
      refine Fz.mk _ hF1 ?_
      refine Fz.mk _ hF2 ?_
      refine Fz.mk _ hF3 ?_
      refine ACall.mk _ _ hI ?_
      refine Need.mk (⟨ClL.mem (.v .nil), no_objs⟩) ?_
      refine Split.mk fun t h3 => ?_
      cases t
      case false => cases h3
      refine Split.mk fun t h4 => ?_
      cases t
      case true => cases h4
      refine ACall.mk _ _ hT ?_
      refine Fz.mk _ hF1 ?_
      refine Fz.mk _ hF2 ?_
      refine Fz.mk _ hF3 ?_
      refine Fz.mk _ hF1 ?_
      refine Fz.mk _ hF2 ?_
      refine Fz.mk _ hF3 ?_
      refine ACall.mk _ _ hE ?_
      refine Need.mk (⟨ClL.mem (.v .nil), no_objs⟩) ?_
      refine Split.mk fun t h5 => ?_
      cases t
      case false => cases h5
      refine Need.mk (rfl) ?_
      exact Need.mk ⟨[], _, .same, rfl, rfl⟩ trivial
  · rw [cut_neg h1] at hSz
    refine AFn.introX (E := En 0 md0) (en_ok 0 md0) Try.func10 rfl rfl rfl fun _ _ => ?_
    refine ACall.mk _ _ hSz ?_
    refine Split.mk fun t h1 => ?_
    cases t
    case false => cases h1
    exact Need.mk ⟨[], _, .same, rfl, rfl⟩ trivial
theorem laws_FnExactTreeOk_any (r0 : List C) (h0 : ShL tyTre r0) : AFn Try.prog 10 [.agg (r0.map .c)] [] (rb true) [] := by
  obtain ⟨a, rfl, wa⟩ := dec_tre h0
  exact laws_FnExactTreeOk a wa.ok
end Go.Proofs.Ytlmdheeammfihaa
