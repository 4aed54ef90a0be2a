/-
  Contracts of functions, part 5.
-/
import Derived.Test.YtlmdheeammfihaaTFnExactTreeDropD
namespace Go.Proofs.Ytlmdheeammfihaa
open Go Go.Proofs Ev
set_option maxRecDepth 100000
set_option linter.unusedSimpArgs false
set_option linter.unusedVariables false
set_option maxHeartbeats 4000000
theorem closedE (e : TypeId) (xs : List Ent) : Closed (.us e (xs.map Ent.enc)) := by
  refine .us fun r hr c hc => ?_
  obtain ⟨x, _, rfl⟩ := List.mem_map.1 hr
  simp only [Ent.enc, List.mem_cons, List.not_mem_nil, or_false] at hc
  rcases hc with h | h | h | h | h <;> subst h <;> exact .v
theorem closed_rof (e : TypeId) (xs : List Ent) (v w : Value) : ∀ c ∈ ([C.us e (xs.map Ent.enc), .v v, .v w] : List C), Closed c := fun c hc => by
  simp only [List.mem_cons, List.not_mem_nil, or_false] at hc
  rcases hc with h | h | h <;> subst h
  · exact closedE e xs
  · exact .v
  · exact .v
theorem rowsOk (R : List (List C)) (ys : List Ent) (h : R = ys.map Ent.enc) : Plain R ∧ ∀ r ∈ R, r.length = 5 := by
  subst h; exact ⟨plainE ys, lenE ys⟩
theorem sizeOk (a b : List (List C)) (ys zs : List Ent) (ha : a = ys.map Ent.enc) (hb : b = zs.map Ent.enc) (h : ys.length + zs.length ≤ 2000000) : (a.length + b.length) * 56 ≤ 140737488355328 ∧ a.length + b.length ≤ maxLen := by
  subst ha; subst hb
  rw [List.length_map, List.length_map]
  exact ⟨by omega, Nat.le_trans h (by decide)⟩
theorem spec_l4Put (xs : List Ent) (e : Ent) (hx : xs.length ≤ 1048576) : AFn Try.prog 75 [sl (xs.map Ent.enc), .agg (e.enc.map .c)] [] (.one (.us 32 ((ins eLess xs e).map Ent.enc))) [] := by
  refine AFn.introX (E := En 0 md0) (en_ok 0 _) Try.func75 rfl rfl rfl fun _ _ => ?_
  have hn : (xs.map Ent.enc).length = xs.length := List.length_map ..
  let S : Int → St := fun k => ⟨some (sl (xs.map Ent.enc)) :: none :: none :: some (.bx 3 0) :: none :: some (av (.int .i64 k)) :: List.replicate 31 none, absent :: absent :: absent :: ⟨0, 0, some e.enc⟩ :: List.replicate 33 absent⟩
  refine ALoop.mk (fun m s => ∃ k : Nat, k ≤ xs.length ∧ m = k ∧ ins eLess xs e = ins eLess (xs.take k) e ++ xs.drop k ∧ s = S (k : Int))
    ⟨xs.length, _, Weak.nrm [true, false, false, true, false, true] [(3, 3)] rfl rfl rfl, xs.length, Nat.le_refl _, rfl, by simp, congrArg S (show (((xs.map Ent.enc).length : Nat) : Int) = ((xs.length : Nat) : Int) by rw [hn])⟩ ?_
  rintro m s ⟨k, hk, rfl, hins, hs⟩
  have plain : ∀ ys : List Ent, Plain (ys.map Ent.enc) := plainE
  by_cases hstop : m = 0 ∨ ∃ h : 0 < m, eLess e (xs[m - 1]'(by omega)) = false
  · have hfin : ins eLess xs e = xs.take m ++ [e] ++ xs.drop m := by
      rw [hins]
      congr 1
      rcases hstop with h | ⟨h, hl⟩
      · subst h; rfl
      · have e1 : xs.take m = xs.take (m - 1) ++ [xs[m - 1]'(by omega)] := by
          conv => lhs; rw [show m = m - 1 + 1 by omega]
          exact List.take_succ_eq_append_getElem (by omega)
        rw [e1]; exact ins_stop eLess e _ _ hl
    have d1 : ((xs.map Ent.enc).drop (m : Int).toNat).take (((xs.map Ent.enc).length : Int) - (m : Int)).toNat = (xs.drop m).map Ent.enc := by
      rw [Int.toNat_natCast, ← List.map_drop]
      exact List.take_of_length_le (by rw [List.length_map, List.length_drop, hn]; omega)
    have d2 : ((xs.map Ent.enc).drop (0 : Int).toNat).take ((m : Int) - 0).toNat = (xs.take m).map Ent.enc := by
      rw [show (0 : Int).toNat = 0 from rfl, List.drop_zero, Int.sub_zero, Int.toNat_natCast, ← List.map_take]
    have d3 : ((xs.map Ent.enc).drop (0 : Int).toNat).take ((m : Int) - 0).toNat ++ [e.enc] = (xs.take m ++ [e]).map Ent.enc := by
      rw [d2, List.map_append]; rfl
    have d4 : ((xs.map Ent.enc).drop (0 : Int).toNat).take ((m : Int) - 0).toNat ++ [e.enc] ++ ((xs.map Ent.enc).drop (m : Int).toNat).take (((xs.map Ent.enc).length : Int) - (m : Int)).toNat = (xs.take m ++ [e] ++ xs.drop m).map Ent.enc := by
      rw [d3, d1, ← List.map_append]
    have l1 : ((xs.drop m).map Ent.enc).length = xs.length - m := by rw [List.length_map, List.length_drop]
    have l2 : ((xs.take m).map Ent.enc).length = m := by rw [List.length_map, List.length_take]; omega
    have fin : ∀ rows : List (List C), rows = (xs.take m ++ [e] ++ xs.drop m).map Ent.enc → RV.one (.us 32 rows) = .one (.us 32 ((ins eLess xs e).map Ent.enc)) := fun rows h => by rw [h, hfin]
    rcases Nat.eq_zero_or_pos m with h0 | h0
    · subst hs
      refine Split.mk fun t ht => ?_
      cases t
      case true => simp at ht; omega
      refine Need.mk rfl ?_
      refine Need.mk ⟨by omega, by omega, by omega, lenE xs⟩ ?_
      refine Need.mk (rowsOk _ _ d1) ?_
      refine Need.mk (sizeOk _ _ [] (xs.drop m) rfl d1 (by rw [List.length_drop]; simp; omega)) ?_
      refine Need.mk ⟨by omega, by omega, by omega, lenE xs⟩ ?_
      refine Need.mk (rowsOk _ _ d2) ?_
      refine Need.mk (sizeOk _ _ [] (xs.take m) rfl d2 (by rw [List.length_take]; simp; omega)) ?_
      refine Need.mk (sizeOk _ _ (xs.take m) [e] d2 rfl (by rw [List.length_take]; simp; omega)) ?_
      refine Need.mk (rowsOk _ _ d1).1 ?_
      refine Need.mk (sizeOk _ _ (xs.take m ++ [e]) (xs.drop m) d3 d1 (by rw [List.length_append, List.length_take, List.length_drop]; simp; omega)) ?_
      refine Need.mk rfl ?_
      exact Need.mk ⟨[], _, .same, fin _ d4, rfl⟩ trivial
    · have hl : eLess e (xs[m - 1]'(by omega)) = false := by
        refine hstop.elim (fun h => absurd h (by omega)) fun h => ?_
        exact h.2
      subst hs
      refine Split.mk fun t ht => ?_
      cases t
      · simp at ht; omega
      refine Num.mk ((m - 1 : Nat) : Int) (wrapI' (by omega) (by omega)) ?_
      refine Need.mk (by omega) ?_
      refine Row.mk _ (map_get _ xs (m - 1) (by omega)) ?_
      refine ACall.mk _ _ (spec_EntryLess e (xs[m - 1]'(by omega))) ?_
      refine Split.mk fun t ht2 => ?_
      cases t
      case true => rw [hl] at ht2; cases ht2
      refine Need.mk rfl ?_
      refine Need.mk ⟨by omega, by omega, by omega, lenE xs⟩ ?_
      refine Need.mk (rowsOk _ _ d1) ?_
      refine Need.mk (sizeOk _ _ [] (xs.drop m) rfl d1 (by rw [List.length_drop]; simp; omega)) ?_
      refine Need.mk ⟨by omega, by omega, by omega, lenE xs⟩ ?_
      refine Need.mk (rowsOk _ _ d2) ?_
      refine Need.mk (sizeOk _ _ [] (xs.take m) rfl d2 (by rw [List.length_take]; simp; omega)) ?_
      refine Need.mk (sizeOk _ _ (xs.take m) [e] d2 rfl (by rw [List.length_take]; simp; omega)) ?_
      refine Need.mk (rowsOk _ _ d1).1 ?_
      refine Need.mk (sizeOk _ _ (xs.take m ++ [e]) (xs.drop m) d3 d1 (by rw [List.length_append, List.length_take, List.length_drop]; simp; omega)) ?_
      refine Need.mk rfl ?_
      exact Need.mk ⟨[], _, .same, fin _ d4, rfl⟩ trivial
  · have h0 : 0 < m := Nat.pos_of_ne_zero fun h => hstop (.inl h)
    have hl : eLess e (xs[m - 1]'(by omega)) = true := by
      cases hx : eLess e (xs[m - 1]'(by omega)) with
      | true => rfl
      | false => exact absurd (.inr ⟨h0, hx⟩) hstop
    have e1 : xs.take m = xs.take (m - 1) ++ [xs[m - 1]'(by omega)] := by
      conv => lhs; rw [show m = m - 1 + 1 by omega]
      exact List.take_succ_eq_append_getElem (by omega)
    have hins' : ins eLess xs e = ins eLess (xs.take (m - 1)) e ++ xs.drop (m - 1) := by
      rw [hins, e1, ins_step eLess e _ _ hl, List.append_assoc]
      congr 1
      conv => rhs; rw [List.drop_eq_getElem_cons (show m - 1 < xs.length by omega)]
      rw [show m - 1 + 1 = m by omega]; rfl
    subst hs
    refine Split.mk fun t ht => ?_
    cases t
    · simp at ht; omega
    refine Num.mk ((m - 1 : Nat) : Int) (wrapI' (by omega) (by omega)) ?_
    refine Need.mk (by omega) ?_
    refine Row.mk _ (map_get _ xs (m - 1) (by omega)) ?_
    refine ACall.mk _ _ (spec_EntryLess e (xs[m - 1]'(by omega))) ?_
    refine Split.mk fun t ht2 => ?_
    cases t
    · rw [hl] at ht2; cases ht2
    refine Need.mk rfl ?_
    refine Num.mk ((m - 1 : Nat) : Int) (wrapI' (by omega) (by omega)) ?_
    exact ⟨m - 1, _, by omega, Weak.nrm [true, false, false, true, false, true] [(3, 3)] rfl rfl rfl, m - 1, by omega, rfl, hins', rfl⟩
end Go.Proofs.Ytlmdheeammfihaa

namespace Go.Proofs.Ytlmdheeammfihaa
open Go Go.Proofs Ev
set_option maxRecDepth 100000
set_option linter.unusedSimpArgs false
set_option linter.unusedVariables false
set_option maxHeartbeats 1000000
theorem closed_us (e : TypeId) (xs : List Ent) : ∀ c : C, c ∈ [C.us e (xs.map Ent.enc)] → Closed c := fun c hc => by
  rw [List.mem_singleton] at hc; subst hc; exact closedE e xs
theorem spec_l4Sort (xs : List Ent) (hx : xs.length ≤ 1048576) : AFn Try.prog 131 [sl (xs.map Ent.enc)] [] (.one (.us 32 ((isort eLess xs).map Ent.enc))) [] := by
  refine AFn.introX (E := En 0 md0) (en_ok 0 _) Try.func131 rfl rfl rfl fun _ _ => ?_
  have hn : (xs.map Ent.enc).length = xs.length := List.length_map ..
  let S : Nat → List Ent → Nat → St := fun kd ys i => ⟨some (sl (xs.map Ent.enc)) :: none :: none :: some (.one (.ref 3 0 (.cell 0))) :: some (av (.int .i64 i)) :: List.replicate 14 none, absent :: absent :: absent :: ⟨0, kd, some [.us 32 (ys.map Ent.enc)]⟩ :: List.replicate 15 absent⟩
  refine ALoop.mk (fun m s => ∃ i kd : Nat, i ≤ xs.length ∧ m = xs.length - i ∧ (kd = 1 ∨ kd = 2) ∧ s = S kd (isort eLess (xs.take i)) i)
    ⟨xs.length, _, Weak.nrm [true, false, false, true, true] [(5, 3)] rfl rfl rfl, 0, 2, Nat.zero_le _, rfl, .inr rfl, rfl⟩ ?_
  rintro m s ⟨i, kd, hi, rfl, hkd, hs⟩
  by_cases hin : i = xs.length
  · subst hin
    rw [List.take_length] at hs
    subst hs
    refine Split.mk fun t ht => ?_
    rw [hn] at ht
    cases t
    · exact Need.mk ⟨[], _, .same, rfl, rfl⟩ trivial
    · simp at ht
  · have hia : i < xs.length := by omega
    have he : isort eLess (xs.take (i + 1)) = ins eLess (isort eLess (xs.take i)) xs[i] := by
      rw [List.take_succ_eq_append_getElem hia, isort_snoc]
    have hlen : (isort eLess (xs.take i)).length ≤ 1048576 := by rw [isort_len, List.length_take]; omega
    have hex : ∃ ys, isort eLess (xs.take i) = ys := ⟨_, rfl⟩
    obtain ⟨ys, hy⟩ := hex
    rw [hy] at he hlen hs
    rcases hkd with rfl | rfl
    all_goals
      subst hs
      refine Split.mk fun t ht => ?_
      rw [hn] at ht
      cases t
      · simp at ht; omega
      refine Need.mk (by omega) ?_
      refine Row.mk _ (map_get _ xs i hia) ?_
      refine Fz.mk _ (frzE ys) ?_
      refine ACall.mk _ _ (spec_l4Put ys xs[i] hlen) ?_
      refine Need.mk ⟨closed_us _ _, no_objs⟩ ?_
      refine Num.mk _ (wrapS (by omega)) ?_
      refine ⟨xs.length - (i + 1), _, by omega, Weak.nrm [true, false, false, true, true] [(17, 3)] rfl rfl rfl, i + 1, 1, by omega, rfl, .inl rfl, ?_⟩
      exact congrArg (fun l => S 1 l (i + 1)) he.symm
end Go.Proofs.Ytlmdheeammfihaa

namespace Go.Proofs.Ytlmdheeammfihaa
open Go Go.Proofs Ev
set_option maxRecDepth 100000
set_option linter.unusedSimpArgs false
set_option linter.unusedVariables false
set_option maxHeartbeats 1000000
def mdv (l : List FuncId) (g : List FuncId) : FuncId → Nat := fun f => bif l.elem f then 1 else bif g.elem f then 2 else 0
theorem spec_l4Run (xs : List Ent) (hx : OkE xs) (hl : xs.length ≤ 1099511627776) : AFn Try.prog 116 [sl (xs.map Ent.enc)] [] (.agg [.sl (xs.map Ent.enc), vi (rmask xs : Nat)]) [] := by
  refine AFn.introX (E := En 0 md0) (en_ok 0 md0) Try.func116 rfl rfl rfl fun _ _ => ?_
  refine ACall.mk _ _ (spec_l4Mask xs hx hl) ?_
  exact Need.mk ⟨[], _, .same, rfl, rfl⟩ trivial
end Go.Proofs.Ytlmdheeammfihaa

namespace Go.Proofs.Ytlmdheeammfihaa
open Go Go.Proofs Ev
set_option maxRecDepth 100000
set_option linter.unusedSimpArgs false
set_option linter.unusedVariables false
set_option maxHeartbeats 8000000
theorem laws_FnExactTreeDrop (a : Tre) (seq : Int) (ha : a.Ok) : AFn Try.prog 13 [.agg (a.enc.map .c), av (.int .i64 seq)] [] (rb true) [] := by
  have hSz := laws_szTree a 1048576 ha (Nat.le_refl _)
  by_cases hsz1 : a.size ≤ 1048576
  · rw [cut_pos hsz1] at hSz
    have sa : a.Small := Tre.small hsz1
    have hT := laws_toTree a sa
    have hS := spec_TreeDrop a seq ha sa
    have hI := impl_TreeDrop a seq ha sa
    have hE := laws_eqTree a a
    rw [decide_eq_true rfl] at hE
    have hpx : posT 1 (treeDo a (dropD seq)).1 ≤ 6000000 := pos_TreeDrop a seq hsz1
    have hpa : posT 1 a ≤ 6000000 := posT_sz hsz1
    have hex : ∃ x, treeDo a (dropD seq) = x := ⟨_, rfl⟩
    obtain ⟨⟨x, ok⟩, hx⟩ := hex
    rw [hx] at hS hI hpx
    have hE2 := laws_eqTree x x
    rw [decide_eq_true rfl] at hE2
    have hM := laws_markTree a 1 (Nat.le_trans hpa (by decide))
    have hM2 := laws_markTree x 1 (Nat.le_trans hpx (by decide))
    have hH := laws_heldTree x 1 (Nat.le_trans hpx (by decide))
    have hex : ∃ p, posT 1 a = p := ⟨_, rfl⟩
    obtain ⟨p, hp⟩ := hex
    rw [hp] at hM hpa
    have hex : ∃ p2, posT 1 x = p2 := ⟨_, rfl⟩
    obtain ⟨p2, hp2⟩ := hex
    rw [hp2] at hM2 hpx hH
    have hex : ∃ a2, mkT 1 a = a2 := ⟨_, rfl⟩
    obtain ⟨a2, ha2⟩ := hex
    rw [ha2] at hM
    have hex : ∃ x2, mkT 1 x = x2 := ⟨_, rfl⟩
    obtain ⟨x2, hx2⟩ := hex
    rw [hx2] at hM2 hH
    have hsq : x2.seq = x.seq := by rw [← hx2]; rfl
    have hH2 : AFn Try.prog 49 [.agg [.c (vi x.seq), .c (.sl (x2.mem.map Ent.enc)), .c (.sl (x2.levels.map encL)), .c (.sl (x2.snaps.map encI))], av (.int .i64 (1 : Nat))] [] (.one (vi (p2 : Nat))) [] := by rw [← hsq]; exact hH
    cases ok with
    | false =>
      refine AFn.introX (E := En 0 (mdv [41] [47])) (en_ok 0 _) Try.func13 rfl rfl rfl fun _ _ => ?_
      refine ACall.mk _ _ hSz ?_
      refine Split.mk fun t h1 => ?_
      cases t
      case true => cases h1
      refine ACall.mk _ _ hT ?_
      refine Fz.mk _ (frzE _) ?_
      refine Fz.mk _ (frzRR _) ?_
      refine Fz.mk _ (frzI _) ?_
      refine ACall.mk _ _ hS ?_
      refine Split.mk fun t h2 => ?_
      cases t
      case true => cases h2
      refine ACall.mk _ _ hT ?_
      refine Fz.mk _ (frzE _) ?_
      refine Fz.mk _ (frzRR _) ?_
      refine Fz.mk _ (frzI _) ?_
      refine ACall.mk _ _ hI ?_
      refine Need.mk (⟨ClL.mem (.v (.us (clE _) (.us (clLO _) (.us (clI _) (.v .nil))))), no_objs⟩) ?_
      refine Split.mk fun t h3 => ?_
      cases t
      case true => cases h3
      refine Fz.mk _ (frzE _) ?_
      refine Fz.mk _ (frzRR _) ?_
      refine Fz.mk _ (frzI _) ?_
      refine ACall.mk _ _ hE2 ?_
      refine Need.mk (⟨ClL.mem (.v .nil), no_objs⟩) ?_
      refine Split.mk fun t h4 => ?_
      cases t
      case false => cases h4
      refine Split.mk fun t h5 => ?_
      cases t
      case true => cases h5
      refine ACall.mk _ _ hT ?_
      refine Fz.mk _ (frzE _) ?_
      refine Fz.mk _ (frzRR _) ?_
      refine Fz.mk _ (frzI _) ?_
      refine Fz.mk _ (frzE _) ?_
      refine Fz.mk _ (frzRR _) ?_
      refine Fz.mk _ (frzI _) ?_
      refine ACall.mk _ _ hE ?_
      refine Need.mk (⟨ClL.mem (.v .nil), no_objs⟩) ?_
      refine Split.mk fun t h6 => ?_
      cases t
      case false => cases h6
      refine Need.mk (rfl) ?_
      refine ACall.mk _ _ hM ?_
      refine Split.mk fun t h7 => ?_
      cases t
      case true => cases h7
      refine Fz.mk _ (frzE _) ?_
      refine Fz.mk _ (frzRR _) ?_
      refine Fz.mk _ (frzI _) ?_
      refine ACall.mk _ _ hE2 ?_
      refine Need.mk (⟨ClL.mem (.v .nil), no_objs⟩) ?_
      refine Split.mk fun t h8 => ?_
      cases t
      case false => cases h8
      refine Split.mk fun t h9 => ?_
      cases t
      case true => cases h9
      refine ACall.mk _ _ hM2 ?_
      refine Fz.mk _ (frzE _) ?_
      refine Fz.mk _ (frzRR _) ?_
      refine Fz.mk _ (frzI _) ?_
      refine ACall.mk _ _ hH2 ?_
      refine Need.mk (⟨ClL.mem (.v .nil), no_objs⟩) ?_
      refine Split.mk fun t h10 => ?_
      cases t
      case true => cases h10
      refine Split.mk fun t h11 => ?_
      cases t
      case true => (exfalso; rw [bne_iff_ne] at h11; omega)
      rw [bne_eq_false_iff_eq] at h11
      refine ACall.mk _ _ hT ?_
      refine Fz.mk _ (frzE _) ?_
      refine Fz.mk _ (frzRR _) ?_
      refine Fz.mk _ (frzI _) ?_
      refine ACall.mk _ _ hI ?_
      refine Need.mk (⟨ClL.mem (.v (.us (clE _) (.us (clLO _) (.us (clI _) (.v .nil))))), no_objs⟩) ?_
      refine Split.mk fun t h12 => ?_
      cases t
      case true => cases h12
      refine Fz.mk _ (frzE _) ?_
      refine Fz.mk _ (frzRR _) ?_
      refine Fz.mk _ (frzI _) ?_
      refine ACall.mk _ _ hE2 ?_
      refine Need.mk (⟨ClL.mem (.v .nil), no_objs⟩) ?_
      refine Split.mk fun t h13 => ?_
      cases t
      case false => cases h13
      refine Split.mk fun t h14 => ?_
      cases t
      case true => cases h14
      refine Fz.mk _ (frzE _) ?_
      refine Fz.mk _ (frzRR _) ?_
      refine Fz.mk _ (frzI _) ?_
      refine ACall.mk _ _ hH2 ?_
      refine Need.mk (⟨ClL.mem (.v .nil), no_objs⟩) ?_
      refine Split.mk fun t h15 => ?_
      cases t
      case true => cases h15
      refine Split.mk fun t h16 => ?_
      cases t
      case true => (exfalso; rw [bne_iff_ne] at h16; omega)
      rw [bne_eq_false_iff_eq] at h16
      exact Need.mk ⟨[], _, .same, rfl, rfl⟩ trivial
    | true =>
      refine AFn.introX (E := En 0 (mdv [41] [47])) (en_ok 0 _) Try.func13 rfl rfl rfl fun _ _ => ?_
      refine ACall.mk _ _ hSz ?_
      refine Split.mk fun t h1 => ?_
      cases t
      case true => cases h1
      refine ACall.mk _ _ hT ?_
      refine Fz.mk _ (frzE _) ?_
      refine Fz.mk _ (frzRR _) ?_
      refine Fz.mk _ (frzI _) ?_
      refine ACall.mk _ _ hS ?_
      refine Split.mk fun t h2 => ?_
      cases t
      case false => cases h2
      refine ACall.mk _ _ hT ?_
      refine Fz.mk _ (frzE _) ?_
      refine Fz.mk _ (frzRR _) ?_
      refine Fz.mk _ (frzI _) ?_
      refine ACall.mk _ _ hI ?_
      refine Need.mk (⟨ClL.mem (.v (.us (clE _) (.us (clLO _) (.us (clI _) (.v .nil))))), no_objs⟩) ?_
      refine Split.mk fun t h3 => ?_
      cases t
      case false => cases h3
      refine Fz.mk _ (frzE _) ?_
      refine Fz.mk _ (frzRR _) ?_
      refine Fz.mk _ (frzI _) ?_
      refine ACall.mk _ _ hE2 ?_
      refine Need.mk (⟨ClL.mem (.v .nil), no_objs⟩) ?_
      refine Split.mk fun t h4 => ?_
      cases t
      case false => cases h4
      refine Split.mk fun t h5 => ?_
      cases t
      case true => cases h5
      refine ACall.mk _ _ hT ?_
      refine Fz.mk _ (frzE _) ?_
      refine Fz.mk _ (frzRR _) ?_
      refine Fz.mk _ (frzI _) ?_
      refine Fz.mk _ (frzE _) ?_
      refine Fz.mk _ (frzRR _) ?_
      refine Fz.mk _ (frzI _) ?_
      refine ACall.mk _ _ hE ?_
      refine Need.mk (⟨ClL.mem (.v .nil), no_objs⟩) ?_
      refine Split.mk fun t h6 => ?_
      cases t
      case false => cases h6
      refine Need.mk (rfl) ?_
      refine ACall.mk _ _ hM ?_
      refine Split.mk fun t h7 => ?_
      cases t
      case true => cases h7
      refine Fz.mk _ (frzE _) ?_
      refine Fz.mk _ (frzRR _) ?_
      refine Fz.mk _ (frzI _) ?_
      refine ACall.mk _ _ hE2 ?_
      refine Need.mk (⟨ClL.mem (.v .nil), no_objs⟩) ?_
      refine Split.mk fun t h8 => ?_
      cases t
      case false => cases h8
      refine Split.mk fun t h9 => ?_
      cases t
      case true => cases h9
      refine ACall.mk _ _ hM2 ?_
      refine Fz.mk _ (frzE _) ?_
      refine Fz.mk _ (frzRR _) ?_
      refine Fz.mk _ (frzI _) ?_
      refine ACall.mk _ _ hH2 ?_
      refine Need.mk (⟨ClL.mem (.v .nil), no_objs⟩) ?_
      refine Split.mk fun t h10 => ?_
      cases t
      case true => cases h10
      refine Split.mk fun t h11 => ?_
      cases t
      case true => (exfalso; rw [bne_iff_ne] at h11; omega)
      rw [bne_eq_false_iff_eq] at h11
      refine ACall.mk _ _ hT ?_
      refine Fz.mk _ (frzE _) ?_
      refine Fz.mk _ (frzRR _) ?_
      refine Fz.mk _ (frzI _) ?_
      refine ACall.mk _ _ hI ?_
      refine Need.mk (⟨ClL.mem (.v (.us (clE _) (.us (clLO _) (.us (clI _) (.v .nil))))), no_objs⟩) ?_
      refine Split.mk fun t h12 => ?_
      cases t
      case false => cases h12
      refine Fz.mk _ (frzE _) ?_
      refine Fz.mk _ (frzRR _) ?_
      refine Fz.mk _ (frzI _) ?_
      refine ACall.mk _ _ hE2 ?_
      refine Need.mk (⟨ClL.mem (.v .nil), no_objs⟩) ?_
      refine Split.mk fun t h13 => ?_
      cases t
      case false => cases h13
      refine Split.mk fun t h14 => ?_
      cases t
      case true => cases h14
      refine Fz.mk _ (frzE _) ?_
      refine Fz.mk _ (frzRR _) ?_
      refine Fz.mk _ (frzI _) ?_
      refine ACall.mk _ _ hH2 ?_
      refine Need.mk (⟨ClL.mem (.v .nil), no_objs⟩) ?_
      refine Split.mk fun t h15 => ?_
      cases t
      case true => cases h15
      refine Split.mk fun t h16 => ?_
      cases t
      case true => (exfalso; rw [bne_iff_ne] at h16; omega)
      rw [bne_eq_false_iff_eq] at h16
      exact Need.mk ⟨[], _, .same, rfl, rfl⟩ trivial
  · rw [cut_neg hsz1] at hSz
    refine AFn.introX (E := En 0 (mdv [41] [47])) (en_ok 0 _) Try.func13 rfl rfl rfl fun _ _ => ?_
    refine ACall.mk _ _ hSz ?_
    refine Split.mk fun t h1 => ?_
    cases t
    case false => cases h1
    exact Need.mk ⟨[], _, .same, rfl, rfl⟩ trivial
theorem laws_FnExactTreeDrop_any (r0 : List C) (h0 : ShL tyTre r0) (c1 : C) (h1 : Sh (.int .i64) c1) : AFn Try.prog 13 [.agg (r0.map .c), .one (.c c1)] [] (rb true) [] := by
  obtain ⟨a, rfl, wa⟩ := dec_tre h0
  obtain ⟨n1, rfl, _⟩ := h1.int'
  exact laws_FnExactTreeDrop a n1 wa.ok
end Go.Proofs.Ytlmdheeammfihaa
