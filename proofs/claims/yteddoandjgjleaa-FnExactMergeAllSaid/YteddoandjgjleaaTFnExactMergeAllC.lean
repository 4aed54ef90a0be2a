/-
  Contracts of functions, part 3.
-/
import Derived.Test.YteddoandjgjleaaTFnExactMergeAllB
namespace Go.Proofs.Yteddoandjgjleaa
open Go Go.Proofs Ev
set_option maxRecDepth 100000
set_option maxHeartbeats 1000000
theorem impl_RunOf_bad (xs : List Ent) (hx : OkE xs) (hg : good xs = false) : AFn Try.prog 49 [sl (xs.map Ent.enc)] [] (.tup [.agg [.us 82 [], vi 0], .one (vb false)]) [] := by
  refine AFn.introX (E := En 0 (md1 [90])) (en_ok 0 _) Try.func49 rfl rfl rfl fun _ _ => ?_
  have hn : (xs.map Ent.enc).length = xs.length := List.length_map ..
  have hO : OkE (isort eLess xs) := fun e he => hx e ((isort_mem _ _ _).1 he)
  refine Split.mk fun t h1 => ?_
  rw [hn] at h1
  cases t
  case true => exact Need.mk ⟨[], _, .same, rfl, rfl⟩ trivial
  refine Split.mk fun t h2 => ?_
  rw [hn] at h2
  cases t
  case true => exact Need.mk ⟨[], _, .same, rfl, rfl⟩ trivial
  have hl : 1 ≤ xs.length ∧ xs.length ≤ 150 := by simp at h1 h2; omega
  have ho : ordOk (isort eLess xs) = false := by simpa [good, hl] using hg
  refine Need.mk ⟨plainE xs, lenE xs⟩ ?_
  refine Need.mk ⟨by simp only [hn, List.length_nil]; omega, by simp only [hn, List.length_nil, maxLen]; omega⟩ ?_
  refine ACall.mk _ _ (slices_SortStable 91 eLess eLess_wk entryOrder_ok xs (by omega)) ?_
  refine Fz.mk _ (frzE (isort eLess xs)) ?_
  refine ACall.mk _ _ (impl_inOrder (isort eLess xs) hO (by rw [isort_len]; omega)) ?_
  refine Need.mk ⟨closed_v, no_objs⟩ ?_
  refine Split.mk fun t h3 => ?_
  cases t
  · exact Need.mk ⟨[], _, .same, rfl, rfl⟩ trivial
  · rw [ho] at h3; cases h3
theorem impl_RunOf_ok (xs : List Ent) (hx : OkE xs) (hg : good xs = true) : AFn Try.prog 49 [sl (xs.map Ent.enc)] [] (.tup [.agg [.us 82 ((isort eLess xs).map Ent.enc), vi (rmask (isort eLess xs) : Nat)], .one (vb true)]) [] := by
  refine AFn.introX (E := En 0 (md1 [90])) (en_ok 0 _) Try.func49 rfl rfl rfl fun _ _ => ?_
  have hn : (xs.map Ent.enc).length = xs.length := List.length_map ..
  have hO : OkE (isort eLess xs) := fun e he => hx e ((isort_mem _ _ _).1 he)
  have hl : 1 ≤ xs.length ∧ xs.length ≤ 150 ∧ ordOk (isort eLess xs) = true := by simpa [good] using hg
  refine Split.mk fun t h1 => ?_
  rw [hn] at h1
  cases t
  case true => simp at h1; omega
  refine Split.mk fun t h2 => ?_
  rw [hn] at h2
  cases t
  case true => simp at h2; omega
  refine Need.mk ⟨plainE xs, lenE xs⟩ ?_
  refine Need.mk ⟨by simp only [hn, List.length_nil]; omega, by simp only [hn, List.length_nil, maxLen]; omega⟩ ?_
  refine ACall.mk _ _ (slices_SortStable 91 eLess eLess_wk entryOrder_ok xs (by omega)) ?_
  refine Fz.mk _ (frzE (isort eLess xs)) ?_
  refine ACall.mk _ _ (impl_inOrder (isort eLess xs) hO (by rw [isort_len]; omega)) ?_
  refine Need.mk ⟨closed_v, no_objs⟩ ?_
  refine Split.mk fun t h3 => ?_
  cases t
  case false => rw [hl.2.2] at h3; cases h3
  have hex : ∃ ys, isort eLess xs = ys := ⟨_, rfl⟩
  obtain ⟨ys, hy⟩ := hex
  have hyl : ys.length ≤ 150 := by rw [← hy, isort_len]; omega
  have hyO : OkE ys := by rw [← hy]; exact hO
  let S : Nat → Int → St := fun i mm => ⟨none :: none :: some (.bx 2 0) :: some (av (.bool false)) :: some (.one (.ref 4 0 (.cell 0))) :: some (av (.int .i64 mm)) :: none :: none :: none :: none :: none :: none :: none :: none :: none :: none :: none :: none :: none :: none :: none :: none :: none :: none :: none :: some (.one (.ref 4 0 (.cell 0))) :: some (av (.int .i64 ((ys.map Ent.enc).length : Nat))) :: some (av (.int .i64 i)) :: List.replicate 12 none, absent :: absent :: ⟨0, 0, some [.us 82 [], vi 0]⟩ :: absent :: ⟨0, 1, some [.us 82 (ys.map Ent.enc)]⟩ :: List.replicate 35 absent⟩
  refine ALoop.mk (fun m s => ∃ i : Nat, i ≤ ys.length ∧ m = ys.length - i ∧ s = S i (rmask (ys.take i) : Nat))
    ⟨ys.length, _, Weak.nrm [false, false, true, true, true, true, false, false, false, false, false, false, false, false, false, false, false, false, false, false, false, false, false, false, false, true, true, true] [(2, 2), (18, 4)] rfl rfl rfl, 0, Nat.zero_le _, rfl, ?_⟩ ?_
  · subst hy
    rfl
  rintro m s ⟨i, hi, rfl, hs⟩
  by_cases hin : i = ys.length
  · subst hin
    rw [List.take_length] at hs
    subst hs
    refine Split.mk fun t ht => ?_
    cases t
    · exact Need.mk ⟨[], _, .same, by rw [hy]; rfl, rfl⟩ trivial
    · rw [List.length_map] at ht; simp at ht
  · have hia : i < ys.length := by omega
    have he := rmask_snoc (ys.take i) ys[i]
    rw [← List.take_succ_eq_append_getElem hia] at he
    have hor : IntKind.i64.wrap (((BitVec.ofInt IntKind.i64.bits ((rmask (ys.take i) : Nat) : Int) ||| BitVec.ofInt IntKind.i64.bits ((kmask ys[i].key : Nat) : Int)).toNat : Nat) : Int) = ((rmask (ys.take (i + 1)) : Nat) : Int) := by
      rw [he]; exact orN (rmask_lt _) (kmask_lt _)
    subst hs
    refine Split.mk fun t ht => ?_
    rw [List.length_map] at ht
    cases t
    · simp at ht; omega
    refine Need.mk ⟨by omega, by rw [List.length_map]; omega⟩ ?_
    refine Row.mk _ (map_get _ ys i hia) ?_
    refine ACall.mk _ _ (impl_KeyMask ys[i].key (hyO _ (List.getElem_mem _)).1) ?_
    refine Num.mk _ (wrapS (by omega)) ?_
    exact ⟨ys.length - (i + 1), _, by omega, Weak.nrm [false, false, true, true, true, true, false, false, false, false, false, false, false, false, false, false, false, false, false, false, false, false, false, false, false, true, true, true] [(2, 2), (4, 4)] rfl rfl rfl, i + 1, by omega, rfl, congrArg (S (i + 1)) hor⟩
end Go.Proofs.Yteddoandjgjleaa

namespace Go.Proofs.Yteddoandjgjleaa
open Go Go.Proofs Ev
set_option maxRecDepth 100000
theorem spec_l4Mask (xs : List Ent) (hx : OkE xs) (hxl : xs.length ≤ 1099511627776) : AFn Try.prog 112 [sl (xs.map Ent.enc)] [] (.one (vi (rmask xs : Nat))) [] := by
  refine AFn.introX (E := En 0 md0) (en_ok 0 md0) Try.func112 rfl rfl rfl fun _ _ => ?_
  have hn : (xs.map Ent.enc).length = xs.length := List.length_map ..
  refine ALoop.mk (fun m s => ∃ i : Nat, i ≤ xs.length ∧ m = xs.length - i ∧ s = ⟨some (sl (xs.map Ent.enc)) :: none :: some (av (.int .i64 0)) :: some (av (.int .i64 (rmask (xs.take i) : Nat))) :: some (av (.int .i64 i)) :: List.replicate 15 none, List.replicate 20 absent⟩)
    ⟨xs.length, _, Weak.nrm [true, false, true, true, true] [] rfl rfl rfl, 0, Nat.zero_le _, rfl, rfl⟩ ?_
  rintro m s ⟨i, hi, rfl, hs⟩
  by_cases hin : i = xs.length
  · subst hin
    rw [List.take_length] at hs
    subst hs
    refine Split.mk fun t ht => ?_
    rw [hn] at ht
    cases t
    · exact Need.mk ⟨[], _, .same, rfl, rfl⟩ trivial
    · simp at ht
  · have hia : i < xs.length := by omega
    have he := rmask_snoc (xs.take i) xs[i]
    rw [← List.take_succ_eq_append_getElem hia] at he
    subst hs
    refine Split.mk fun t ht => ?_
    rw [hn] at ht
    cases t
    · simp at ht; omega
    refine Need.mk (by omega) ?_
    refine Row.mk _ (map_get _ xs i hia) ?_
    refine ACall.mk _ _ (spec_KeyMask xs[i].key (hx _ (List.getElem_mem _)).1) ?_
    refine ACall.mk _ _ (spec_l4Or (rmask (xs.take i)) (kmask xs[i].key) (rmask_lt _) (kmask_lt _)) ?_
    refine Num.mk _ (wrapS (by omega)) ?_
    exact ⟨xs.length - (i + 1), _, by omega, Weak.nrm [true, false, true, true, true] [] rfl rfl rfl, i + 1, by omega, rfl, by rw [he]; rfl⟩
end Go.Proofs.Yteddoandjgjleaa

namespace Go.Proofs.Yteddoandjgjleaa
open Go Go.Proofs Ev
set_option maxRecDepth 100000
def encO (r : Rn) : List C := [.us 82 (r.ents.map Ent.enc), vi r.mask]
def encLO (l : List Rn) : List C := [.us 57 (l.map encO)]
end Go.Proofs.Yteddoandjgjleaa

namespace Go.Proofs.Yteddoandjgjleaa
open Go Go.Proofs Ev
set_option maxRecDepth 100000
theorem frzR (xs : List Rn) : Frz (.us 57 (xs.map encO)) (.sl (xs.map Rn.enc)) := frz_map fun r _ => .cons (frzE r.ents) (.cons .v .nil)
theorem frzRR (xs : List (List Rn)) : Frz (.us 91 (xs.map encLO)) (.sl (xs.map encL)) := frz_map fun r _ => .cons (frzR r) .nil
end Go.Proofs.Yteddoandjgjleaa

namespace Go.Proofs.Yteddoandjgjleaa
open Go Go.Proofs Ev
set_option maxRecDepth 100000
set_option maxHeartbeats 4000000
theorem closedE (e : TypeId) (xs : List Ent) : Closed (.us e (xs.map Ent.enc)) := by
  refine .us fun r hr c hc => ?_
  obtain ⟨x, _, rfl⟩ := List.mem_map.1 hr
  simp only [Ent.enc, List.mem_cons, List.not_mem_nil, or_false] at hc
  rcases hc with h | h | h | h | h <;> subst h <;> exact .v
theorem rowsOk (R : List (List C)) (ys : List Ent) (h : R = ys.map Ent.enc) : Plain R ∧ ∀ r ∈ R, r.length = 5 := by
  subst h; exact ⟨plainE ys, lenE ys⟩
theorem sizeOk (a b : List (List C)) (ys zs : List Ent) (ha : a = ys.map Ent.enc) (hb : b = zs.map Ent.enc) (h : ys.length + zs.length ≤ 2000000) : (a.length + b.length) * 56 ≤ 140737488355328 ∧ a.length + b.length ≤ maxLen := by
  subst ha; subst hb
  rw [List.length_map, List.length_map]
  exact ⟨by omega, Nat.le_trans h (by decide)⟩
theorem spec_l4Put (xs : List Ent) (e : Ent) (hx : xs.length ≤ 1048576) : AFn Try.prog 89 [sl (xs.map Ent.enc), .agg (e.enc.map .c)] [] (.one (.us 82 ((ins eLess xs e).map Ent.enc))) [] := by
  refine AFn.introX (E := En 0 md0) (en_ok 0 _) Try.func89 rfl rfl rfl fun _ _ => ?_
  have hn : (xs.map Ent.enc).length = xs.length := List.length_map ..
  let S : Int → St := fun k => ⟨some (sl (xs.map Ent.enc)) :: none :: none :: some (.bx 3 0) :: none :: some (av (.int .i64 k)) :: List.replicate 31 none, absent :: absent :: absent :: ⟨0, 0, some e.enc⟩ :: List.replicate 33 absent⟩
  refine ALoop.mk (fun m s => ∃ k : Nat, k ≤ xs.length ∧ m = k ∧ ins eLess xs e = ins eLess (xs.take k) e ++ xs.drop k ∧ s = S (k : Int))
    ⟨xs.length, _, Weak.nrm [true, false, false, true, false, true] [(3, 3)] rfl rfl rfl, xs.length, Nat.le_refl _, rfl, by simp, congrArg S (show (((xs.map Ent.enc).length : Nat) : Int) = ((xs.length : Nat) : Int) by rw [hn])⟩ ?_
  rintro m s ⟨k, hk, rfl, hins, hs⟩
  have plain : ∀ ys : List Ent, Plain (ys.map Ent.enc) := plainE
  by_cases hstop : m = 0 ∨ ∃ h : 0 < m, eLess e (xs[m - 1]'(by omega)) = false
  · have hfin : ins eLess xs e = xs.take m ++ [e] ++ xs.drop m := by
      rw [hins]
      congr 1
      rcases hstop with h | ⟨h, hl⟩
      · subst h; rfl
      · have e1 : xs.take m = xs.take (m - 1) ++ [xs[m - 1]'(by omega)] := by
          conv => lhs; rw [show m = m - 1 + 1 by omega]
          exact List.take_succ_eq_append_getElem (by omega)
        rw [e1]; exact ins_stop eLess e _ _ hl
    have d1 : ((xs.map Ent.enc).drop (m : Int).toNat).take (((xs.map Ent.enc).length : Int) - (m : Int)).toNat = (xs.drop m).map Ent.enc := by
      rw [Int.toNat_natCast, ← List.map_drop]
      exact List.take_of_length_le (by rw [List.length_map, List.length_drop, hn]; omega)
    have d2 : ((xs.map Ent.enc).drop (0 : Int).toNat).take ((m : Int) - 0).toNat = (xs.take m).map Ent.enc := by
      rw [show (0 : Int).toNat = 0 from rfl, List.drop_zero, Int.sub_zero, Int.toNat_natCast, ← List.map_take]
    have d3 : ((xs.map Ent.enc).drop (0 : Int).toNat).take ((m : Int) - 0).toNat ++ [e.enc] = (xs.take m ++ [e]).map Ent.enc := by
      rw [d2, List.map_append]; rfl
    have d4 : ((xs.map Ent.enc).drop (0 : Int).toNat).take ((m : Int) - 0).toNat ++ [e.enc] ++ ((xs.map Ent.enc).drop (m : Int).toNat).take (((xs.map Ent.enc).length : Int) - (m : Int)).toNat = (xs.take m ++ [e] ++ xs.drop m).map Ent.enc := by
      rw [d3, d1, ← List.map_append]
    have l1 : ((xs.drop m).map Ent.enc).length = xs.length - m := by rw [List.length_map, List.length_drop]
    have l2 : ((xs.take m).map Ent.enc).length = m := by rw [List.length_map, List.length_take]; omega
    have fin : ∀ rows : List (List C), rows = (xs.take m ++ [e] ++ xs.drop m).map Ent.enc → RV.one (.us 82 rows) = .one (.us 82 ((ins eLess xs e).map Ent.enc)) := fun rows h => by rw [h, hfin]
    rcases Nat.eq_zero_or_pos m with h0 | h0
    · subst hs
      refine Split.mk fun t ht => ?_
      cases t
      case true => simp at ht; omega
      refine Need.mk rfl ?_
      refine Need.mk ⟨by omega, by omega, by omega, lenE xs⟩ ?_
      refine Need.mk (rowsOk _ _ d1) ?_
      refine Need.mk (sizeOk _ _ [] (xs.drop m) rfl d1 (by rw [List.length_drop]; simp; omega)) ?_
      refine Need.mk ⟨by omega, by omega, by omega, lenE xs⟩ ?_
      refine Need.mk (rowsOk _ _ d2) ?_
      refine Need.mk (sizeOk _ _ [] (xs.take m) rfl d2 (by rw [List.length_take]; simp; omega)) ?_
      refine Need.mk (sizeOk _ _ (xs.take m) [e] d2 rfl (by rw [List.length_take]; simp; omega)) ?_
      refine Need.mk (rowsOk _ _ d1).1 ?_
      refine Need.mk (sizeOk _ _ (xs.take m ++ [e]) (xs.drop m) d3 d1 (by rw [List.length_append, List.length_take, List.length_drop]; simp; omega)) ?_
      refine Need.mk rfl ?_
      exact Need.mk ⟨[], _, .same, fin _ d4, rfl⟩ trivial
    · have hl : eLess e (xs[m - 1]'(by omega)) = false := by
        refine hstop.elim (fun h => absurd h (by omega)) fun h => ?_
        exact h.2
      subst hs
      refine Split.mk fun t ht => ?_
      cases t
      · simp at ht; omega
      refine Num.mk ((m - 1 : Nat) : Int) (wrapI' (by omega) (by omega)) ?_
      refine Need.mk (by omega) ?_
      refine Row.mk _ (map_get _ xs (m - 1) (by omega)) ?_
      refine ACall.mk _ _ (spec_EntryLess e (xs[m - 1]'(by omega))) ?_
      refine Split.mk fun t ht2 => ?_
      cases t
      case true => rw [hl] at ht2; cases ht2
      refine Need.mk rfl ?_
      refine Need.mk ⟨by omega, by omega, by omega, lenE xs⟩ ?_
      refine Need.mk (rowsOk _ _ d1) ?_
      refine Need.mk (sizeOk _ _ [] (xs.drop m) rfl d1 (by rw [List.length_drop]; simp; omega)) ?_
      refine Need.mk ⟨by omega, by omega, by omega, lenE xs⟩ ?_
      refine Need.mk (rowsOk _ _ d2) ?_
      refine Need.mk (sizeOk _ _ [] (xs.take m) rfl d2 (by rw [List.length_take]; simp; omega)) ?_
      refine Need.mk (sizeOk _ _ (xs.take m) [e] d2 rfl (by rw [List.length_take]; simp; omega)) ?_
      refine Need.mk (rowsOk _ _ d1).1 ?_
      refine Need.mk (sizeOk _ _ (xs.take m ++ [e]) (xs.drop m) d3 d1 (by rw [List.length_append, List.length_take, List.length_drop]; simp; omega)) ?_
      refine Need.mk rfl ?_
      exact Need.mk ⟨[], _, .same, fin _ d4, rfl⟩ trivial
  · have h0 : 0 < m := Nat.pos_of_ne_zero fun h => hstop (.inl h)
    have hl : eLess e (xs[m - 1]'(by omega)) = true := by
      cases hx : eLess e (xs[m - 1]'(by omega)) with
      | true => rfl
      | false => exact absurd (.inr ⟨h0, hx⟩) hstop
    have e1 : xs.take m = xs.take (m - 1) ++ [xs[m - 1]'(by omega)] := by
      conv => lhs; rw [show m = m - 1 + 1 by omega]
      exact List.take_succ_eq_append_getElem (by omega)
    have hins' : ins eLess xs e = ins eLess (xs.take (m - 1)) e ++ xs.drop (m - 1) := by
      rw [hins, e1, ins_step eLess e _ _ hl, List.append_assoc]
      congr 1
      conv => rhs; rw [List.drop_eq_getElem_cons (show m - 1 < xs.length by omega)]
      rw [show m - 1 + 1 = m by omega]; rfl
    subst hs
    refine Split.mk fun t ht => ?_
    cases t
    · simp at ht; omega
    refine Num.mk ((m - 1 : Nat) : Int) (wrapI' (by omega) (by omega)) ?_
    refine Need.mk (by omega) ?_
    refine Row.mk _ (map_get _ xs (m - 1) (by omega)) ?_
    refine ACall.mk _ _ (spec_EntryLess e (xs[m - 1]'(by omega))) ?_
    refine Split.mk fun t ht2 => ?_
    cases t
    · rw [hl] at ht2; cases ht2
    refine Need.mk rfl ?_
    refine Num.mk ((m - 1 : Nat) : Int) (wrapI' (by omega) (by omega)) ?_
    exact ⟨m - 1, _, by omega, Weak.nrm [true, false, false, true, false, true] [(3, 3)] rfl rfl rfl, m - 1, by omega, rfl, hins', rfl⟩
end Go.Proofs.Yteddoandjgjleaa

namespace Go.Proofs.Yteddoandjgjleaa
open Go Go.Proofs Ev
set_option maxRecDepth 100000
set_option maxHeartbeats 1000000
theorem closed_us (e : TypeId) (xs : List Ent) : ∀ c : C, c ∈ [C.us e (xs.map Ent.enc)] → Closed c := fun c hc => by
  rw [List.mem_singleton] at hc; subst hc; exact closedE e xs
theorem spec_l4Sort (xs : List Ent) (hx : xs.length ≤ 1048576) : AFn Try.prog 98 [sl (xs.map Ent.enc)] [] (.one (.us 82 ((isort eLess xs).map Ent.enc))) [] := by
  refine AFn.introX (E := En 0 md0) (en_ok 0 _) Try.func98 rfl rfl rfl fun _ _ => ?_
  have hn : (xs.map Ent.enc).length = xs.length := List.length_map ..
  let S : Nat → List Ent → Nat → St := fun kd ys i => ⟨some (sl (xs.map Ent.enc)) :: none :: none :: some (.one (.ref 3 0 (.cell 0))) :: some (av (.int .i64 i)) :: List.replicate 14 none, absent :: absent :: absent :: ⟨0, kd, some [.us 82 (ys.map Ent.enc)]⟩ :: List.replicate 15 absent⟩
  refine ALoop.mk (fun m s => ∃ i kd : Nat, i ≤ xs.length ∧ m = xs.length - i ∧ (kd = 1 ∨ kd = 2) ∧ s = S kd (isort eLess (xs.take i)) i)
    ⟨xs.length, _, Weak.nrm [true, false, false, true, true] [(5, 3)] rfl rfl rfl, 0, 2, Nat.zero_le _, rfl, .inr rfl, rfl⟩ ?_
  rintro m s ⟨i, kd, hi, rfl, hkd, hs⟩
  by_cases hin : i = xs.length
  · subst hin
    rw [List.take_length] at hs
    subst hs
    refine Split.mk fun t ht => ?_
    rw [hn] at ht
    cases t
    · exact Need.mk ⟨[], _, .same, rfl, rfl⟩ trivial
    · simp at ht
  · have hia : i < xs.length := by omega
    have he : isort eLess (xs.take (i + 1)) = ins eLess (isort eLess (xs.take i)) xs[i] := by
      rw [List.take_succ_eq_append_getElem hia, isort_snoc]
    have hlen : (isort eLess (xs.take i)).length ≤ 1048576 := by rw [isort_len, List.length_take]; omega
    have hex : ∃ ys, isort eLess (xs.take i) = ys := ⟨_, rfl⟩
    obtain ⟨ys, hy⟩ := hex
    rw [hy] at he hlen hs
    rcases hkd with rfl | rfl
    all_goals
      subst hs
      refine Split.mk fun t ht => ?_
      rw [hn] at ht
      cases t
      · simp at ht; omega
      refine Need.mk (by omega) ?_
      refine Row.mk _ (map_get _ xs i hia) ?_
      refine Fz.mk _ (frzE ys) ?_
      refine ACall.mk _ _ (spec_l4Put ys xs[i] hlen) ?_
      refine Need.mk ⟨closed_us _ _, no_objs⟩ ?_
      refine Num.mk _ (wrapS (by omega)) ?_
      refine ⟨xs.length - (i + 1), _, by omega, Weak.nrm [true, false, false, true, true] [(17, 3)] rfl rfl rfl, i + 1, 1, by omega, rfl, .inl rfl, ?_⟩
      exact congrArg (fun l => S 1 l (i + 1)) he.symm
end Go.Proofs.Yteddoandjgjleaa

namespace Go.Proofs.Yteddoandjgjleaa
open Go Go.Proofs Ev
set_option maxRecDepth 100000
set_option maxHeartbeats 4000000
theorem sizeH (a b : List (List C)) (hs : List Hd1) (r : List C) (k : Nat) (ha : a = hs.map encH) (hb : b = [r]) (hk : k ≤ 100) (h : hs.length ≤ 2000000) : (a.length + b.length) * k ≤ 140737488355328 ∧ a.length + b.length ≤ maxLen := by
  subst ha; subst hb
  rw [List.length_map]
  have : (hs.length + [r].length) * k ≤ (hs.length + [r].length) * 100 := Nat.mul_le_mul_left _ hk
  simp only [List.length_cons, List.length_nil] at this ⊢
  exact ⟨by omega, Nat.le_trans (by omega : hs.length + 1 ≤ 2000001) (by decide)⟩
theorem spec_MergeAll (L : List (List Ent)) (hN : L.flatten.length ≤ 1048576) (hL : L.length ≤ 1048576) : AFn Try.prog 38 [sl (L.map encX)] [] (.one (.us 82 ((isort eLess L.flatten).map Ent.enc))) [] := by
  refine AFn.introX (E := En 0 md0) (en_ok 0 _) Try.func38 rfl rfl rfl fun _ _ => ?_
  have hn : (L.map encX).length = L.length := List.length_map ..
  have htot : ∀ i, i ≤ L.length → ((L.take i).flatten).length ≤ L.flatten.length := fun i _ => by
    have : L.flatten = (L.take i).flatten ++ (L.drop i).flatten := by rw [← List.flatten_append, List.take_append_drop]
    rw [this, List.length_append]; omega
  have hstep : ∀ (i : Nat) (h : i < L.length), (L.take (i + 1)).flatten = (L.take i).flatten ++ L[i] := fun i h => by
    rw [List.take_succ_eq_append_getElem h, List.flatten_append]; simp
  let S : Nat → List Ent → Nat → St := fun kd out i => ⟨some (sl (L.map encX)) :: none :: none :: some (.one (.ref 3 0 (.cell 0))) :: some (av (.int .i64 i)) :: List.replicate 27 none, absent :: absent :: absent :: ⟨0, kd, some [.us 82 (out.map Ent.enc)]⟩ :: List.replicate 28 absent⟩
  let S2 : Nat → List Ent → Nat → Nat → St := fun kd out i k => ⟨some (sl (L.map encX)) :: none :: none :: some (.one (.ref 3 0 (.cell 0))) :: some (av (.int .i64 i)) :: some (av (.int .i64 k)) :: List.replicate 26 none, absent :: absent :: absent :: ⟨0, kd, some [.us 82 (out.map Ent.enc)]⟩ :: List.replicate 28 absent⟩
  refine ALoop.mk (fun m s => ∃ i kd : Nat, i ≤ L.length ∧ m = L.length - i ∧ s = S kd (isort eLess (L.take i).flatten) i)
    ⟨L.length, _, Weak.nrm [true, false, false, true, true] [(6, 3)] rfl rfl rfl, 0, 2, Nat.zero_le _, rfl, rfl⟩ ?_
  rintro m s ⟨i, kd, hi, rfl, hs⟩
  by_cases hin : i = L.length
  · rw [hin, List.take_length] at hs
    subst hs
    refine Split.mk fun t ht => ?_
    rw [hn] at ht
    cases t
    case true => rw [decide_eq_true_iff] at ht; omega
    exact Need.mk ⟨[], _, .same, rfl, rfl⟩ trivial
  · have hia : i < L.length := by omega
    have hst := hstep i hia
    have htt := htot (i + 1) hia
    rw [hst, List.length_append] at htt
    have hrow := map_get encX L i hia
    have hln : (L[i].map Ent.enc).length = L[i].length := List.length_map ..
    have hex : ∃ l, L[i] = l := ⟨_, rfl⟩
    obtain ⟨l, hle⟩ := hex
    rw [hle] at hst htt hrow hln
    have hex : ∃ A, (L.take i).flatten = A := ⟨_, rfl⟩
    obtain ⟨A, hA⟩ := hex
    rw [hA] at hst htt hs
    subst hs
    refine Split.mk fun t ht => ?_
    rw [hn] at ht
    cases t
    case false => rw [decide_eq_false_iff_not] at ht; omega
    refine ALoop.mk (fun m s => ∃ k kd : Nat, k ≤ l.length ∧ m = l.length - k ∧ s = S2 kd (isort eLess (A ++ l.take k)) i k)
      ⟨l.length, _, Weak.nrm [true, false, false, true, true, true] [(3, 3)] rfl rfl rfl, 0, kd, Nat.zero_le _, rfl, by rw [List.take_zero, List.append_nil]; rfl⟩ ?_
    rintro m s ⟨k, kd, hk, rfl, hs⟩
    by_cases hkn : k = l.length
    · rw [hkn, List.take_length] at hs
      subst hs
      refine Need.mk (by omega) ?_
      refine Row.mk _ hrow ?_
      refine Split.mk fun t ht => ?_
      rw [hln] at ht
      cases t
      case true => rw [decide_eq_true_iff] at ht; omega
      refine Num.mk _ (wrapS (by omega)) ?_
      refine ⟨L.length - (i + 1), _, by omega, Weak.nrm [true, false, false, true, true] [(3, 3)] rfl rfl rfl, i + 1, kd, by omega, rfl, ?_⟩
      rw [hst]; rfl
    · have hka : k < l.length := by omega
      have hrow2 := map_get Ent.enc l k hka
      have hlen : (isort eLess (A ++ l.take k)).length ≤ 1048576 := by rw [isort_len, List.length_append, List.length_take]; omega
      have hins : ins eLess (isort eLess (A ++ l.take k)) l[k] = isort eLess (A ++ l.take (k + 1)) := by rw [← isort_snoc, List.append_assoc, ← List.take_succ_eq_append_getElem hka]
      have hex : ∃ ys, isort eLess (A ++ l.take k) = ys := ⟨_, rfl⟩
      obtain ⟨ys, hy⟩ := hex
      rw [hy] at hs hlen hins
      have hP := spec_l4Put ys l[k] hlen
      subst hs
      refine Need.mk (by omega) ?_
      refine Row.mk _ hrow ?_
      refine Split.mk fun t ht => ?_
      rw [hln] at ht
      cases t
      case false => rw [decide_eq_false_iff_not] at ht; omega
      refine Need.mk (by omega) ?_
      refine Row.mk _ hrow ?_
      refine Need.mk (by omega) ?_
      refine Row.mk _ hrow2 ?_
      refine Fz.mk _ (frzE ys) ?_
      refine ACall.mk _ _ hP ?_
      refine Need.mk ⟨closed_us _ _, no_objs⟩ ?_
      refine Num.mk _ (wrapS (by omega)) ?_
      refine ⟨l.length - (k + 1), _, by omega, Weak.nrm [true, false, false, true, true, true] [(30, 3)] rfl rfl rfl, k + 1, 1, by omega, rfl, ?_⟩
      rw [← hins]; rfl
theorem impl_MergeAll (L : List (List Ent)) (hN : L.flatten.length ≤ 1048576) (hL : L.length ≤ 1048576) : AFn Try.prog 40 [sl (L.map encX)] [] (.one (.us 82 ((isort eLess L.flatten).map Ent.enc))) [] := by
  refine AFn.introX (E := En 0 (md1 [90]) (fz := [26])) (en_ok 0 _ _ _ _ _) Try.func40 rfl rfl rfl fun _ _ => ?_
  have hpos : 0 < Try.prog.cellsOf 82 := pos_of tab_ok (t := 82) rfl
  have hn : (L.map encX).length = L.length := List.length_map ..
  have hmem : ∀ l ∈ L, l.length ≤ 1048576 := fun l hl => by
    have := sum_mem List.length hl
    rw [← List.length_flatten] at this
    omega
  have hex : ∃ K, L.map (isort eLess) = K := ⟨_, rfl⟩
  obtain ⟨K, hK⟩ := hex
  have hKl : K.length = L.length := by rw [← hK, List.length_map]
  have hKi : ∀ (i : Nat) (h : i < L.length), K[i]'(by omega) = isort eLess L[i] := fun i h => by subst hK; simp
  have hKs : ∀ l ∈ K, Srt eLess l := fun l hl => by
    rw [← hK] at hl
    obtain ⟨l0, _, rfl⟩ := List.mem_map.1 hl
    exact srt_isort eLess_wk _
  have hKf : isort eLess K.flatten = isort eLess L.flatten := by rw [← hK]; exact isort_flat L
  have hKn : K.flatten.length ≤ 1048576 := by rw [← hK, flat_len]; exact hN
  have hlv := live_len K
  have hlt : ∀ i, (live (K.take i)).length ≤ 1048576 := fun i => Nat.le_trans (live_len _) (by rw [List.length_take]; omega)
  have hI := heap_Init (live K) (by omega) (fun a ha => live_ne ha)
  obtain ⟨hp1, hp2⟩ := initF_ok ((live K).length / 2) (live K).length (live K) (Nat.le_refl _) (by omega) (fun c h0 hc hlo => by unfold par at hlo; omega)
  have hex : ∃ Z, isort eLess L.flatten = Z := ⟨_, rfl⟩
  obtain ⟨Z, hZ⟩ := hex
  rw [hZ] at hKf
  rw [hZ]
  have hex : ∃ H0, initF (live K).length ((live K).length / 2) (live K) = H0 := ⟨_, rfl⟩
  obtain ⟨H0, hH0⟩ := hex
  rw [hH0] at hI hp1 hp2
  let S1 : List Hd1 → Nat → St := fun hs i => ⟨none :: none :: none :: some (.bx 3 0) :: none :: none :: none :: none :: some (sl (L.map encX)) :: some (av (.int .i64 ((L.map encX).length : Nat))) :: some (av (.int .i64 i)) :: List.replicate 51 none, absent :: absent :: absent :: ⟨0, 0, some [.us 112 (hs.map encH)]⟩ :: List.replicate 58 absent⟩
  let S2 : List Hd1 → List Ent → St := fun hs out => ⟨none :: none :: none :: some (.bx 3 0) :: none :: none :: none :: some (.one (.ref 7 0 (.cell 0))) :: List.replicate 54 none, absent :: absent :: absent :: ⟨0, 0, some [.us 112 (hs.map encH)]⟩ :: absent :: absent :: absent :: ⟨0, 1, some [.us 82 (out.map Ent.enc)]⟩ :: List.replicate 54 absent⟩
  refine ALoop.mk (fun m s => ∃ i : Nat, i ≤ L.length ∧ m = L.length - i ∧ s = S1 (live (K.take i)) i)
    ⟨L.length, _, Weak.nrm [false, false, false, true, false, false, false, false, true, true, true] [(3, 3)] rfl rfl rfl, 0, Nat.zero_le _, rfl, rfl⟩ ?_
  rintro m s ⟨i, hi, rfl, hs⟩
  by_cases hin : i = L.length
  · have e : K.take i = K := List.take_of_length_le (by omega)
    rw [e] at hs
    subst hs
    refine Split.mk fun t ht => ?_
    rw [hn] at ht
    cases t
    case true => rw [decide_eq_true_iff] at ht; omega
    refine ACall.mk _ _ hI ?_
    refine ALoop.mk (fun m s => ∃ (M : List (List Ent)) (hs : List Hd1) (out : List Ent), m = M.flatten.length ∧ hs.Perm (live M) ∧ (∀ l ∈ M, Srt eLess l) ∧ HP hl hd0 hs hs.length 0 ∧ out ++ isort eLess M.flatten = Z ∧ out.length + M.flatten.length ≤ 1048576 ∧ hs.length ≤ 1048576 ∧ s = S2 hs out)
      ⟨K.flatten.length, _, Weak.trans (Weak.nrm [false, false, false, true, false, false, false, true] [(3, 3)] rfl rfl rfl) (Weak.nilOwn 7 7 82 rfl rfl hpos), K, H0, [], rfl, hp2, hKs, by rw [hp2.length_eq]; exact hp1, by rw [hKf]; rfl, by simpa using hKn, by rw [hp2.length_eq]; omega, rfl⟩ ?_
    rintro m s ⟨M, hs, out, rfl, hperm, hsrt, hhp, hout, hlen, hhl, hs0⟩
    cases hs with
    | nil =>
      have hM : M.flatten = [] := live_none (List.nil_perm.1 hperm)
      have ho : out = Z := by rw [← hout, hM]; exact (List.append_nil _).symm
      rw [ho] at hs0
      subst hs0
      refine Split.mk fun t ht => ?_
      cases t
      case true => cases ht
      exact Need.mk ⟨[], _, .same, rfl, rfl⟩ trivial
    | cons h0 tl =>
      obtain ⟨l0, p⟩ := h0
      have hl0 : l0 ≠ [] := live_ne (hperm.mem_iff.1 (List.mem_cons_self ..))
      have hex : ∃ x t, l0 = x :: t := List.exists_cons_of_ne_nil hl0
      obtain ⟨x, t, hl0e⟩ := hex
      subst hl0e
      obtain ⟨M', m1, m2, m3, m4, m5⟩ := live_round hperm hsrt hhp
      have hout2 : (out ++ [x]) ++ isort eLess M'.flatten = Z := by rw [← hout, m2]; simp
      have hlen2 : (out ++ [x]).length + M'.flatten.length ≤ 1048576 := by rw [List.length_append, List.length_singleton]; omega
      have hhl2 : tl.length + 1 ≤ 1048576 := hhl
      have hne : ∀ a ∈ tl, a.1 ≠ [] := fun a ha => live_ne (hperm.mem_iff.1 (List.mem_cons_of_mem _ ha))
      have hn0 : (0 : Int) ≤ 0 ∧ (0 : Int) < (((((x :: t, p) : Hd1) :: tl).map encH).length : Nat) := by rw [List.length_map, List.length_cons]; omega
      have hcut : (((x :: t).map Ent.enc).drop (1 : Int).toNat).take ((((x :: t).map Ent.enc).length : Int) - 1).toNat = t.map Ent.enc := by
        rw [List.length_map, List.length_cons]
        exact List.take_of_length_le (by show (t.map Ent.enc).length ≤ _; rw [List.length_map]; omega)
      have hrows : (((t, p) : Hd1) :: tl).map encH = [C.sl ((((x :: t).map Ent.enc).drop (1 : Int).toNat).take ((((x :: t).map Ent.enc).length : Int) - 1).toNat), vi (p : Nat)] :: tl.map encH := by rw [hcut]; rfl
      have hneed : (0 : Int) ≤ 1 ∧ (1 : Int) ≤ (((x :: t).map Ent.enc).length : Nat) ∧ (((x :: t).map Ent.enc).length : Int) ≤ (((x :: t).map Ent.enc).length : Nat) ∧ ∀ r ∈ (x :: t).map Ent.enc, r.length = 5 := ⟨by omega, by rw [List.length_map, List.length_cons]; omega, by omega, lenE _⟩
      have htl : ((((x :: t).map Ent.enc).drop (1 : Int).toNat).take ((((x :: t).map Ent.enc).length : Int) - 1).toNat).length = t.length := by rw [hcut, List.length_map]
      by_cases ht0 : t = []
      · have hP := heap_Pop ((t, p) :: tl) (by simp) (by simp; omega) (fun k hk hkl => by
          cases k with
          | zero => omega
          | succ k => exact hne _ (getH_mem (by simpa using hkl)))
        obtain ⟨q1, q2⟩ := pop_ok (a := (t, p)) hhp
        have hex : ∃ H, popF ((t, p) :: tl) = H := ⟨_, rfl⟩
        obtain ⟨H, hH⟩ := hex
        rw [hH] at hP q1 q2
        rw [hrows] at hP
        subst hs0
        refine Split.mk fun b ht => ?_
        cases b
        case false => rw [decide_eq_false_iff_not] at ht; exact absurd hn0.2 ht
        refine Need.mk hn0 ?_
        refine Row.mk _ rfl ?_
        refine Need.mk (by decide) ?_
        refine Row.mk _ rfl ?_
        refine Need.mk (sizeOk _ _ out [x] rfl rfl (by simp; omega)) ?_
        refine Need.mk hn0 ?_
        refine Row.mk _ rfl ?_
        refine Need.mk hneed ?_
        refine Need.mk hn0 ?_
        refine Row.mk _ rfl ?_
        refine Need.mk rfl ?_
        refine Need.mk hn0 ?_
        refine Row.mk _ rfl ?_
        refine Split.mk fun b ht => ?_
        rw [htl] at ht
        cases b
        case false => rw [ht0] at ht; cases ht
        refine ACall.mk _ _ hP ?_
        refine ⟨M'.flatten.length, _, by omega, Weak.nrm [false, false, false, true, false, false, false, true] [(3, 3), (42, 7)] rfl rfl rfl, M', H, out ++ [x], rfl, q2.trans (m4 ht0), m1, by rw [q2.length_eq]; exact q1, hout2, hlen2, by rw [q2.length_eq]; omega, ?_⟩
        refine Eq.trans (b := ⟨none :: none :: none :: some (.bx 3 0) :: none :: none :: none :: some (.one (.ref 7 0 (.cell 0))) :: List.replicate 54 none, absent :: absent :: absent :: ⟨0, 0, some [.us 112 (H.map encH)]⟩ :: absent :: absent :: absent :: ⟨0, 1, some [.us 82 (out.map Ent.enc ++ [x.enc])]⟩ :: List.replicate 54 absent⟩) rfl ?_
        rw [show out.map Ent.enc ++ [x.enc] = (out ++ [x]).map Ent.enc by rw [List.map_append]; rfl]
      · have hF := heap_Fix ((t, p) :: tl) (tl.length + 1) rfl (by simp; omega) (fun a ha => by
          rcases List.mem_cons.1 ha with h | h
          · subst h; exact ht0
          · exact hne a h)
        obtain ⟨q1, q2⟩ := fix_ok (a := (t, p)) hhp
        have hex : ∃ H, downF hl hd0 (tl.length + 1) ((t, p) :: tl) 0 (tl.length + 1) = H := ⟨_, rfl⟩
        obtain ⟨H, hH⟩ := hex
        rw [hH] at hF q1 q2
        rw [hrows] at hF
        subst hs0
        refine Split.mk fun b ht => ?_
        cases b
        case false => rw [decide_eq_false_iff_not] at ht; exact absurd hn0.2 ht
        refine Need.mk hn0 ?_
        refine Row.mk _ rfl ?_
        refine Need.mk (by decide) ?_
        refine Row.mk _ rfl ?_
        refine Need.mk (sizeOk _ _ out [x] rfl rfl (by simp; omega)) ?_
        refine Need.mk hn0 ?_
        refine Row.mk _ rfl ?_
        refine Need.mk hneed ?_
        refine Need.mk hn0 ?_
        refine Row.mk _ rfl ?_
        refine Need.mk rfl ?_
        refine Need.mk hn0 ?_
        refine Row.mk _ rfl ?_
        refine Split.mk fun b ht => ?_
        rw [htl] at ht
        cases b
        case true => rw [beq_iff_eq] at ht; exact absurd (List.eq_nil_of_length_eq_zero (by omega)) ht0
        refine ACall.mk _ _ hF ?_
        refine ⟨M'.flatten.length, _, by omega, Weak.nrm [false, false, false, true, false, false, false, true] [(3, 3), (42, 7)] rfl rfl rfl, M', H, out ++ [x], rfl, q2.trans (m5 ht0), m1, by rw [q2.length_eq]; exact q1, hout2, hlen2, by rw [q2.length_eq]; simp; omega, ?_⟩
        refine Eq.trans (b := ⟨none :: none :: none :: some (.bx 3 0) :: none :: none :: none :: some (.one (.ref 7 0 (.cell 0))) :: List.replicate 54 none, absent :: absent :: absent :: ⟨0, 0, some [.us 112 (H.map encH)]⟩ :: absent :: absent :: absent :: ⟨0, 1, some [.us 82 (out.map Ent.enc ++ [x.enc])]⟩ :: List.replicate 54 absent⟩) rfl ?_
        rw [show out.map Ent.enc ++ [x.enc] = (out ++ [x]).map Ent.enc by rw [List.map_append]; rfl]
  · have hia : i < L.length := by omega
    have hrow := map_get encX L i hia
    have hln : (L[i].map Ent.enc).length = L[i].length := List.length_map ..
    have hle := hmem L[i] (List.getElem_mem hia)
    have hlv := live_take (L := K) (i := i) (by omega)
    rw [hKi i hia] at hlv
    have hht := hlt i
    have hex : ∃ l, L[i] = l := ⟨_, rfl⟩
    obtain ⟨l, hle0⟩ := hex
    rw [hle0] at hrow hln hle hlv
    have hex : ∃ hs, live (K.take i) = hs := ⟨_, rfl⟩
    obtain ⟨hs1, hhs⟩ := hex
    rw [hhs] at hlv hht hs
    have hSt := slices_SortStable 91 eLess eLess_wk entryOrder_ok l (by omega)
    by_cases hl0 : l = []
    · have hlv2 : live (K.take (i + 1)) = hs1 := by rw [hlv, hl0]; exact List.append_nil _
      subst hs
      refine Split.mk fun t ht => ?_
      rw [hn] at ht
      cases t
      case false => rw [decide_eq_false_iff_not] at ht; omega
      refine Need.mk (by omega) ?_
      refine Row.mk _ hrow ?_
      refine Split.mk fun t ht => ?_
      rw [hln] at ht
      cases t
      case true => rw [decide_eq_true_iff, hl0] at ht; cases ht
      refine Num.mk _ (wrapS (by omega)) ?_
      exact ⟨L.length - (i + 1), _, by omega, Weak.nrm [false, false, false, true, false, false, false, false, true, true, true] [(3, 3)] rfl rfl rfl, i + 1, by omega, rfl, by rw [hlv2]; rfl⟩
    · have hlpos : 0 < l.length := List.length_pos_iff.2 hl0
      have hse : (isort eLess l).isEmpty = false := by
        have := isort_len eLess l
        cases hx : isort eLess l with
        | nil => rw [hx] at this; simp at this; omega
        | cons _ _ => rfl
      have hlv2 : live (K.take (i + 1)) = hs1 ++ [(isort eLess l, i)] := by rw [hlv, hse]; rfl
      have hex : ∃ ys, isort eLess l = ys := ⟨_, rfl⟩
      obtain ⟨ys, hy⟩ := hex
      rw [hy] at hSt hlv2
      subst hs
      refine Split.mk fun t ht => ?_
      rw [hn] at ht
      cases t
      case false => rw [decide_eq_false_iff_not] at ht; omega
      refine Need.mk (by omega) ?_
      refine Row.mk _ hrow ?_
      refine Split.mk fun t ht => ?_
      rw [hln] at ht
      cases t
      case false => rw [decide_eq_false_iff_not] at ht; omega
      refine Need.mk ⟨plainE l, lenE l⟩ ?_
      refine Need.mk (sizeOk _ _ [] l rfl rfl (by simp; omega)) ?_
      refine ACall.mk _ _ hSt ?_
      refine Fz.mk _ (frzE ys) ?_
      refine Need.mk (sizeH _ _ hs1 _ _ rfl rfl (by decide) (by omega)) ?_
      refine Num.mk _ (wrapS (by omega)) ?_
      refine ⟨L.length - (i + 1), _, by omega, Weak.nrm [false, false, false, true, false, false, false, false, true, true, true] [(3, 3)] rfl rfl rfl, i + 1, by omega, rfl, ?_⟩
      rw [hlv2]
      refine Eq.trans (b := ⟨none :: none :: none :: some (.bx 3 0) :: none :: none :: none :: none :: some (sl (L.map encX)) :: some (av (.int .i64 ((L.map encX).length : Nat))) :: some (av (.int .i64 (i + 1 : Nat))) :: List.replicate 51 none, absent :: absent :: absent :: ⟨0, 0, some [.us 112 (hs1.map encH ++ [encH (ys, i)])]⟩ :: List.replicate 58 absent⟩) rfl ?_
      rw [show hs1.map encH ++ [encH (ys, i)] = (hs1 ++ [(ys, i)]).map encH by rw [List.map_append]; rfl]
end Go.Proofs.Yteddoandjgjleaa

namespace Go.Proofs.Yteddoandjgjleaa
open Go Go.Proofs Ev
set_option maxRecDepth 100000
theorem laws_heldEntryS (k n : Nat) (hk : k + 5 * n ≤ 4611686018427387904) : AFn Try.prog 45 [sl ((markL k n).map Ent.enc), av (.int .i64 k)] [] (.one (vi ((k + 5 * n : Nat) : Int))) [] := by
  refine AFn.introX (E := En 0 md0) (en_ok 0 md0) Try.func45 rfl rfl rfl fun _ _ => ?_
  have hn : ((markL k n).map Ent.enc).length = n := by rw [List.length_map, markL_len]
  refine ALoop.mk (fun m s => ∃ i : Nat, i ≤ n ∧ m = n - i ∧
      s = ⟨some (sl ((markL k n).map Ent.enc)) :: some (av (.int .i64 ((k + 5 * i : Nat) : Int))) :: none :: none :: none :: some (av (.int .i64 i)) :: List.replicate 54 none, List.replicate 60 absent⟩)
    ⟨n, _, Weak.nrm [true, true, false, false, false, true] [] rfl rfl rfl, 0, Nat.zero_le _, rfl, rfl⟩ ?_
  rintro m s ⟨i, hi, rfl, rfl⟩
  refine Split.mk fun t ht => ?_
  rw [hn] at ht
  cases t
  · have hin : i = n := by simp at ht; omega
    subst hin
    exact Need.mk ⟨[], _, .same, rfl, rfl⟩ trivial
  · have hin : i < n := by simpa using ht
    have hget : ((markL k n).map Ent.enc)[i]? = some (markE (k + 5 * i)).enc := by rw [List.getElem?_map, markL_get hin]; rfl
    refine Need.mk (by omega) ?_
    refine Row.mk _ hget ?_
    refine ACall.mk _ _ (laws_markText (k + 5 * i) (by omega)) ?_
    refine Split.mk fun t ht => ?_
    rw [bytes_beq] at ht
    cases t
    · refine Need.mk rfl ?_
      refine Num.mk _ (wrapS (by omega)) ?_
      refine Need.mk (by omega) ?_
      refine Row.mk _ hget ?_
      refine Split.mk fun t ht => ?_
      cases t
      · refine Num.mk _ (wrapS (by omega)) ?_
        refine Need.mk (by omega) ?_
        refine Row.mk _ hget ?_
        refine Split.mk fun t ht => ?_
        cases t
        · refine Num.mk _ (wrapS (by omega)) ?_
          refine Need.mk (by omega) ?_
          refine Row.mk _ hget ?_
          refine ACall.mk _ _ (laws_markText (k + 5 * i + 1 + 1 + 1) (by omega)) ?_
          refine Split.mk fun t ht => ?_
          rw [bytes_beq] at ht
          cases t
          · refine Need.mk rfl ?_
            refine Num.mk _ (wrapS (by omega)) ?_
            refine Need.mk (by omega) ?_
            refine Row.mk _ hget ?_
            refine Split.mk fun t ht => ?_
            cases t
            · refine Num.mk _ (wrapS (by omega)) ?_
              refine Num.mk _ (wrapS (by omega)) ?_
              exact ⟨n - (i + 1), _, by omega, Weak.nrm [true, true, false, false, false, true] [] rfl rfl rfl, i + 1, by omega, rfl, rfl⟩
            · simp [markE] at ht <;> omega
          · simp [markE] at ht <;> omega
        · simp [markE] at ht <;> omega
      · simp [markE] at ht <;> omega
    · simp [markE] at ht <;> omega
end Go.Proofs.Yteddoandjgjleaa

namespace Go.Proofs.Yteddoandjgjleaa
open Go Go.Proofs Ev
set_option maxRecDepth 100000
set_option maxHeartbeats 1000000
def mdv (l : List FuncId) (g : List FuncId) : FuncId → Nat := fun f => bif l.elem f then 1 else bif g.elem f then 2 else 0
theorem spec_l4Run (xs : List Ent) (hx : OkE xs) (hl : xs.length ≤ 1099511627776) : AFn Try.prog 100 [sl (xs.map Ent.enc)] [] (.agg [.sl (xs.map Ent.enc), vi (rmask xs : Nat)]) [] := by
  refine AFn.introX (E := En 0 md0) (en_ok 0 md0) Try.func100 rfl rfl rfl fun _ _ => ?_
  refine ACall.mk _ _ (spec_l4Mask xs hx hl) ?_
  exact Need.mk ⟨[], _, .same, rfl, rfl⟩ trivial
theorem spec_RunOf_bad (xs : List Ent) (hx : OkE xs) (hg : good xs = false) : AFn Try.prog 47 [sl (xs.map Ent.enc)] [] (.tup [.agg [.us 82 [], vi 0], .one (vb false)]) [] := by
  refine AFn.introX (E := En 0 (mdv [] [100])) (en_ok 0 _) Try.func47 rfl rfl rfl fun _ _ => ?_
  have hn : (xs.map Ent.enc).length = xs.length := List.length_map ..
  have hO : OkE (isort eLess xs) := fun e he => hx e ((isort_mem _ _ _).1 he)
  refine Split.mk fun t h1 => ?_
  rw [hn] at h1
  cases t
  case true => exact Need.mk ⟨[], _, .same, rfl, rfl⟩ trivial
  refine Split.mk fun t h2 => ?_
  rw [hn] at h2
  cases t
  case true => exact Need.mk ⟨[], _, .same, rfl, rfl⟩ trivial
  have hl : 1 ≤ xs.length ∧ xs.length ≤ 150 := by simp at h1 h2; omega
  have ho : ordOk (isort eLess xs) = false := by simpa [good, hl] using hg
  refine ACall.mk _ _ (spec_l4Sort xs (by omega)) ?_
  refine Fz.mk _ (frzE (isort eLess xs)) ?_
  refine ACall.mk _ _ (spec_l4Right (isort eLess xs) hO (by rw [isort_len]; omega)) ?_
  refine Need.mk ⟨closed_v, no_objs⟩ ?_
  refine Split.mk fun t h3 => ?_
  cases t
  · exact Need.mk ⟨[], _, .same, rfl, rfl⟩ trivial
  · rw [ho] at h3; cases h3
theorem spec_RunOf_ok (xs : List Ent) (hx : OkE xs) (hg : good xs = true) : AFn Try.prog 47 [sl (xs.map Ent.enc)] [] (.tup [.agg [.sl ((isort eLess xs).map Ent.enc), vi (rmask (isort eLess xs) : Nat)], .one (vb true)]) [] := by
  refine AFn.introX (E := En 0 (mdv [] [100])) (en_ok 0 _) Try.func47 rfl rfl rfl fun _ _ => ?_
  have hn : (xs.map Ent.enc).length = xs.length := List.length_map ..
  have hO : OkE (isort eLess xs) := fun e he => hx e ((isort_mem _ _ _).1 he)
  have hl : 1 ≤ xs.length ∧ xs.length ≤ 150 ∧ ordOk (isort eLess xs) = true := by simpa [good] using hg
  refine Split.mk fun t h1 => ?_
  rw [hn] at h1
  cases t
  case true => simp at h1; omega
  refine Split.mk fun t h2 => ?_
  rw [hn] at h2
  cases t
  case true => simp at h2; omega
  refine ACall.mk _ _ (spec_l4Sort xs (by omega)) ?_
  refine Fz.mk _ (frzE (isort eLess xs)) ?_
  refine ACall.mk _ _ (spec_l4Right (isort eLess xs) hO (by rw [isort_len]; omega)) ?_
  refine Need.mk ⟨closed_v, no_objs⟩ ?_
  refine Split.mk fun t h3 => ?_
  cases t
  case false => rw [hl.2.2] at h3; cases h3
  refine Fz.mk _ (frzE (isort eLess xs)) ?_
  refine ACall.mk _ _ (spec_l4Run (isort eLess xs) hO (by rw [isort_len]; omega)) ?_
  exact Need.mk ⟨[], _, .same, rfl, rfl⟩ trivial
end Go.Proofs.Yteddoandjgjleaa

namespace Go.Proofs.Yteddoandjgjleaa
open Go Go.Proofs Ev
set_option maxRecDepth 100000
set_option maxHeartbeats 4000000
theorem laws_FnExactMergeAll (L : List (List Ent)) (hok : OkEE L) : AFn Try.prog 8 [sl (L.map encX)] [] (rb true) [] := by
  have hz0 := sizeEE_le L
  by_cases h1 : sizeEE L ≤ 1048576
  · have hLl : L.length ≤ 1048576 := by omega
    have hLf : L.flatten.length ≤ 1048576 := by omega
    have hmem : ∀ l ∈ L, l.length ≤ 1048576 := fun l hl => by
      have := sum_mem List.length hl
      rw [← List.length_flatten] at this
      omega
    have hSz := laws_szEntrySS L 1048576 hok (Nat.le_refl _)
    rw [cut_pos h1] at hSz
    have hT := laws_toEntrySS L hLl hmem
    have hS := spec_MergeAll L hLf hLl
    have hI := impl_MergeAll L hLf hLl
    have hzl : (isort eLess L.flatten).length ≤ 1048576 := by rw [isort_len]; exact hLf
    have hex : ∃ zs, isort eLess L.flatten = zs := ⟨_, rfl⟩
    obtain ⟨zs, hz⟩ := hex
    rw [hz] at hS hI hzl
    have hE := laws_eqEntryS zs zs
    have hE2 := laws_eqEntrySS L L
    rw [decide_eq_true rfl] at hE hE2
    have hM := laws_markEntrySS L 1 (by rw [posX_eq]; omega)
    have hM2 := laws_markEntryS zs 1 (by omega)
    have hH := laws_heldEntryS 1 zs.length (by omega)
    refine AFn.introX (E := En 0 (mdv [44, 43] [])) (en_ok 0 _) Try.func8 rfl rfl rfl fun _ _ => ?_
    refine ACall.mk _ _ hSz ?_
    refine Split.mk fun t ht => ?_
    cases t
    case true => rw [decide_eq_true_iff] at ht; omega
    refine ACall.mk _ _ hT ?_
    refine Fz.mk _ (frzX L) ?_
    refine ACall.mk _ _ hS ?_
    refine Need.mk ⟨closed_us _ zs, no_objs⟩ ?_
    refine ACall.mk _ _ hT ?_
    refine Fz.mk _ (frzX L) ?_
    refine ACall.mk _ _ hI ?_
    refine Need.mk ⟨closed_us _ zs, no_objs⟩ ?_
    refine Fz.mk _ (frzE zs) ?_
    refine Fz.mk _ (frzE zs) ?_
    refine ACall.mk _ _ hE ?_
    refine Need.mk ⟨closed_v, no_objs⟩ ?_
    refine Split.mk fun t h => ?_
    cases t
    case false => cases h
    refine ACall.mk _ _ hT ?_
    refine Fz.mk _ (frzX L) ?_
    refine Fz.mk _ (frzX L) ?_
    refine ACall.mk _ _ hE2 ?_
    refine Need.mk ⟨closed_v, no_objs⟩ ?_
    refine Split.mk fun t h => ?_
    cases t
    case false => cases h
    refine ACall.mk _ _ hM ?_
    refine Split.mk fun t ht => ?_
    cases t
    case true => rw [decide_eq_true_iff] at ht; omega
    refine Fz.mk _ (frzE zs) ?_
    refine Fz.mk _ (frzE zs) ?_
    refine ACall.mk _ _ hE ?_
    refine Need.mk ⟨closed_v, no_objs⟩ ?_
    refine Split.mk fun t h => ?_
    cases t
    case false => cases h
    refine ACall.mk _ _ hM2 ?_
    refine Fz.mk _ (frzE (markL 1 zs.length)) ?_
    refine ACall.mk _ _ hH ?_
    refine Need.mk ⟨closed_v, no_objs⟩ ?_
    refine Split.mk fun t ht => ?_
    cases t
    case true => rw [decide_eq_true_iff] at ht; omega
    refine Split.mk fun t ht => ?_
    cases t
    case true => simp at ht
    refine ACall.mk _ _ hT ?_
    refine Fz.mk _ (frzX L) ?_
    refine ACall.mk _ _ hI ?_
    refine Need.mk ⟨closed_us _ zs, no_objs⟩ ?_
    refine Fz.mk _ (frzE zs) ?_
    refine Fz.mk _ (frzE zs) ?_
    refine ACall.mk _ _ hE ?_
    refine Need.mk ⟨closed_v, no_objs⟩ ?_
    refine Split.mk fun t h => ?_
    cases t
    case false => cases h
    refine Fz.mk _ (frzE (markL 1 zs.length)) ?_
    refine ACall.mk _ _ hH ?_
    refine Need.mk ⟨closed_v, no_objs⟩ ?_
    refine Split.mk fun t ht => ?_
    cases t
    case true => rw [decide_eq_true_iff] at ht; omega
    refine Split.mk fun t ht => ?_
    cases t
    case true => simp at ht
    exact Need.mk ⟨[], _, .same, rfl, rfl⟩ trivial
  · have hSz := laws_szEntrySS L 1048576 hok (Nat.le_refl _)
    rw [cut_neg h1] at hSz
    refine AFn.introX (E := En 0 md0) (en_ok 0 _) Try.func8 rfl rfl rfl fun _ _ => ?_
    refine ACall.mk _ _ hSz ?_
    refine Split.mk fun t ht => ?_
    cases t
    case false => cases ht
    exact Need.mk ⟨[], _, .same, rfl, rfl⟩ trivial
theorem laws_FnExactMergeAll_any (c0 : C) (h0 : Sh (.slice [.slice tyEnt]) c0) : AFn Try.prog 8 [.one (.c c0)] [] (rb true) [] := by
  obtain ⟨xs, rfl, hw⟩ := dec_ee h0
  exact laws_FnExactMergeAll xs fun l hl e he => (hw l hl e he).1
end Go.Proofs.Yteddoandjgjleaa
