/-
  Contracts of functions, part 5.
-/
import Derived.Test.YtlmdheeammfihaaTFnExactTreeCellD
namespace Go.Proofs.Ytlmdheeammfihaa
open Go Go.Proofs Ev
set_option maxRecDepth 100000
set_option linter.unusedSimpArgs false
set_option linter.unusedVariables false
set_option maxHeartbeats 8000000
theorem impl_TreeAll (t : Tre) (ht : t.Ok) (hz : ∀ l ∈ t.levels, ∀ r ∈ l, r.ents.length ≤ 1099511627776) : AFn Try.prog 39 [.agg (t.enc.map .c)] [] (.one (.us 32 ((treeAll t).map Ent.enc))) [] := by
  have hO := impl_TreeOk t ht hz
  cases hb : treeOk t with
  | false =>
    rw [hb] at hO
    rw [treeAll_bad hb]
    refine AFn.introX (E := En 0 md0) (en_ok 0 _ _ _ _ _) Try.func39 rfl rfl rfl fun _ _ => ?_
    refine ACall.mk _ _ hO ?_
    refine Split.mk fun t h1 => ?_
    cases t
    case true => cases h1
    exact Need.mk ⟨[false], _, (.nil (pos_of tab_ok (t := 32) rfl) .same), rfl, rfl⟩ trivial
  | true =>
    rw [hb] at hO
    obtain ⟨l0, l1, l2, he, h3⟩ := treeOk_levels hb
    rw [treeAll_ok he hb]
    have hle := allE_le h3
    obtain ⟨_, _, _, _, _, b0, b1, b2, _⟩ := treeOk3_iff.1 h3
    have hLy := impl_layersOf t.levels t.mem (by rw [he]; simp) fun r hr => by
      rw [he, List.mem_cons, List.mem_cons, List.mem_singleton] at hr
      rcases hr with h | h | h <;> subst h
      · exact Nat.le_trans (levB_ok b0).1 (by decide)
      · exact Nat.le_trans (levB_ok b1).1 (by decide)
      · exact Nat.le_trans (levB_ok b2).1 (by decide)
    have hly : (t.levels.reverse.map (·.map Rn.ents)).flatten ++ [t.mem] = layers l0 l1 l2 t.mem := by
      rw [he]; unfold layers; simp
    rw [hly] at hLy
    have hM := impl_MergeAll (layers l0 l1 l2 t.mem) (by have := hle.1; unfold allE at this; omega) (by omega)
    refine AFn.introX (E := En 0 md0) (en_ok 0 _ _ _ _ _) Try.func39 rfl rfl rfl fun _ _ => ?_
    refine ACall.mk _ _ hO ?_
    refine Split.mk fun t h1 => ?_
    cases t
    case false => cases h1
    refine ACall.mk _ _ hLy ?_
    refine Fz.mk _ (frzXX _) ?_
    refine ACall.mk _ _ hM ?_
    refine Need.mk (⟨ClL.mem (.us (clE _) .nil), no_objs⟩) ?_
    exact Need.mk ⟨[], _, .same, rfl, rfl⟩ trivial
theorem spec_TreeAll (t : Tre) (ht : t.Ok) (hsn : t.snaps.length ≤ 1099511627776) (hz : ∀ l ∈ t.levels, ∀ r ∈ l, r.ents.length ≤ 1099511627776) : AFn Try.prog 38 [.agg (t.enc.map .c)] [] (.one (.us 32 ((treeAll t).map Ent.enc))) [] := by
  have hO := spec_TreeOk t ht hsn hz
  cases hb : treeOk t with
  | false =>
    rw [hb] at hO
    rw [treeAll_bad hb]
    refine AFn.introX (E := En 0 md0) (en_ok 0 _ _ _ _ _) Try.func38 rfl rfl rfl fun _ _ => ?_
    refine ACall.mk _ _ hO ?_
    refine Split.mk fun t h1 => ?_
    cases t
    case true => cases h1
    exact Need.mk ⟨[], _, .same, rfl, rfl⟩ trivial
  | true =>
    rw [hb] at hO
    obtain ⟨l0, l1, l2, he, h3⟩ := treeOk_levels hb
    rw [treeAll_ok he hb]
    have hle := allE_le h3
    obtain ⟨_, _, _, _, _, b0, b1, b2, _⟩ := treeOk3_iff.1 h3
    have k1 := levB_ok b1
    have k2 := levB_ok b2
    have k0 := levB_ok b0
    have hP := spec_l5Parts t.seq t.mem l0 l1 l2 t.snaps (by omega) (by omega) (by omega) (fun r hr => by have := runOk_len (k1.2 r hr); omega) (fun r hr => by have := runOk_len (k2.2 r hr); omega)
    have htt : (Tre.mk t.seq t.mem [l0, l1, l2] t.snaps) = t := by rw [← he]
    rw [htt] at hP
    have hF : (Frz (.us 23 ((t.mem :: (l0.map Rn.ents).reverse).map encX ++ [flatR' l1, flatR' l2].map encXO)) (.sl ((parts3 l0 l1 l2 t.mem).map encX))) := frzM (t.mem :: (l0.map Rn.ents).reverse) [flatR' l1, flatR' l2]
    have hpp := parts_perm l0 l1 l2 t.mem
    have hM := spec_MergeAll (parts3 l0 l1 l2 t.mem) (by rw [← hpp.length_eq]; omega) (by unfold parts3; simp only [List.length_cons, List.length_append, List.length_reverse, List.length_map, List.length_nil]; omega)
    rw [← isort_uniq hpp (treeOk_dif h3)] at hM
    refine AFn.introX (E := En 0 md0) (en_ok 0 _ _ _ _ _) Try.func38 rfl rfl rfl fun _ _ => ?_
    refine ACall.mk _ _ hO ?_
    refine Split.mk fun t h1 => ?_
    cases t
    case false => cases h1
    refine ACall.mk _ _ hP ?_
    refine Fz.mk _ hF ?_
    refine ACall.mk _ _ hM ?_
    refine Need.mk (⟨ClL.mem (.us (clE _) .nil), no_objs⟩) ?_
    exact Need.mk ⟨[], _, .same, rfl, rfl⟩ trivial
theorem impl_TreeCell (t : Tre) (key : ByteArray) (seq : Int) (ht : t.Ok) (hz : ∀ l ∈ t.levels, ∀ r ∈ l, r.ents.length ≤ 1099511627776) : AFn Try.prog 45 [.agg (t.enc.map .c), av (.string key), av (.int .i64 seq)] [] (.agg (cellAll (treeAll t) key seq).enc) [] := by
  have hA := impl_TreeAll t ht hz
  have hC := impl_CellAll (treeAll t) key seq (Nat.le_trans (treeAll_le t) (by decide))
  refine AFn.introX (E := En 0 md0) (en_ok 0 _ _ _ _ _) Try.func45 rfl rfl rfl fun _ _ => ?_
  refine ACall.mk _ _ hA ?_
  refine Fz.mk _ (frzE _) ?_
  refine ACall.mk _ _ hC ?_
  refine Need.mk (⟨ClL.mem (.v (.v (.v .nil))), no_objs⟩) ?_
  exact Need.mk ⟨[], _, .same, rfl, rfl⟩ trivial
theorem spec_l5Cell (t : Tre) (key : ByteArray) (seq : Int) (l0 l1 l2 : List Rn) (he : t.levels = [l0, l1, l2]) (hb : treeOk t = true) : AFn Try.prog 106 [.agg (t.enc.map .c), av (.string key), av (.int .i64 seq)] [] (.agg (cellAll (treeAll t) key seq).enc) [] := by
  have h3 : treeOk3 t.seq t.mem l0 l1 l2 t.snaps = true := by
    have : treeOk t = treeOk3 t.seq t.mem l0 l1 l2 t.snaps := by unfold treeOk; rw [he]
    rw [← this]; exact hb
  obtain ⟨_, _, hm60, _, _, b0, b1, b2, _⟩ := treeOk3_iff.1 h3
  have k0 := levB_ok b0
  have k1 := levB_ok b1
  have k2 := levB_ok b2
  have hF := spec_l4Find t.mem key seq (by omega)
  refine AFn.introX (E := En 0 md0) (en_ok 0 _ _ _ _ _) Try.func106 rfl rfl rfl fun _ _ => ?_
  refine ACall.mk _ _ hF ?_
  have hlv : ∀ k, k < 3 → (t.levels.map encL)[k]? = some (encL ([l0, l1, l2].getD k [])) := fun k hk => by
    rw [he]
    have h012 : k = 0 ∨ k = 1 ∨ k = 2 := by omega
    rcases h012 with h | h | h <;> subst h <;> rfl
  have hln : (t.levels.map encL).length = 3 := by rw [he]; rfl
  have hxl : ∀ k, k < 3 → ([l0, l1, l2].getD k []).length ≤ 8 ∧ ∀ r ∈ [l0, l1, l2].getD k [], runOk r = true := fun k hk => by
    have h012 : k = 0 ∨ k = 1 ∨ k = 2 := by omega
    rcases h012 with h | h | h <;> subst h
    · exact ⟨Nat.le_trans k0.1 (by decide), k0.2⟩
    · exact k1
    · exact k2
  have hlen : ∀ k i, (findE (lookL [l0, l1, l2] t.mem k i) key seq).length ≤ 1048576 := fun k i => by
    have := findE_len (lookL [l0, l1, l2] t.mem k i) key seq
    have h2 : (lookL [l0, l1, l2] t.mem k i).length ≤ 60 + 4 * 8 * 150 := lookL_le (b := 8) (c := 150) (by simp) (by
      intro l hl
      rw [List.mem_cons, List.mem_cons, List.mem_singleton] at hl
      have kk : ∀ {l : List Rn}, (l.length ≤ 8 ∧ ∀ r ∈ l, runOk r = true) → l.length ≤ 8 ∧ ∀ r ∈ l, r.ents.length ≤ 150 := fun h => ⟨h.1, fun r hr => (runOk_len (h.2 r hr)).2.1⟩
      rcases hl with h | h | h <;> subst h
      · exact kk ⟨Nat.le_trans k0.1 (by decide), k0.2⟩
      · exact kk k1
      · exact kk k2) hm60 k i
    omega
  let S : List (List C) → Nat → St := fun R k => ⟨none :: some (av (.string key)) :: some (av (.int .i64 seq)) :: some (.bx 3 0) :: none :: none :: some (.bx 6 0) :: some (.one (.ref 7 0 (.cell 0))) :: some (av (.int .i64 k)) :: List.replicate 60 none, absent :: absent :: absent :: ⟨0, 0, some t.enc⟩ :: absent :: absent :: ⟨0, 0, some [vb false, vs ⟨#[]⟩, vi 0]⟩ :: ⟨0, 1, some [.us 32 R]⟩ :: List.replicate 61 absent⟩
  refine ALoop.mk (fun m s => ∃ k : Nat, k ≤ 3 ∧ m = 3 - k ∧ s = S ((findE (lookL [l0, l1, l2] t.mem k 0) key seq).map Ent.enc) k)
    ⟨_, _, Weak.nrm [false, true, true, true, false, false, true, true, true] [(3, 3), (6, 6), (15, 7)] rfl rfl rfl, 0, Nat.zero_le _, rfl, by rw [lookL_zero]; rfl⟩ ?_
  rintro m s ⟨k, hk, rfl, hs⟩
  by_cases hkn : k = 3
  · have hfin := treeCell_look he hb key seq
    have hfl := hlen 3 0
    rw [hkn] at hs
    have hC := spec_CellAll (findE (lookL [l0, l1, l2] t.mem 3 0) key seq) key seq hfl
    rw [hfin] at hC
    have hex : ∃ G, findE (lookL [l0, l1, l2] t.mem 3 0) key seq = G := ⟨_, rfl⟩
    obtain ⟨G, hG⟩ := hex
    rw [hG] at hC hs
    subst hs
    refine Split.mk fun t h1 => ?_
    cases t
    case true => (exfalso; rw [decide_eq_true_iff] at h1; omega)
    rw [decide_eq_false_iff_not] at h1
    refine Fz.mk _ (frzE _) ?_
    refine ACall.mk _ _ hC ?_
    refine Need.mk (⟨ClL.mem (.v (.v (.v .nil))), no_objs⟩) ?_
    exact Need.mk ⟨[], _, .same, rfl, rfl⟩ trivial
  · have hk3 : k < 3 := by omega
    have hrow := hlv k hk3
    obtain ⟨hx8, hxr⟩ := hxl k hk3
    have hlz := hlen k
    have hnext := lookL_next (levels := [l0, l1, l2]) (mem := t.mem) (k := k) hk3
    have hstep := fun i h => lookL_step (levels := [l0, l1, l2]) (mem := t.mem) (k := k) (i := i) h
    have hex : ∃ xs, [l0, l1, l2].getD k [] = xs := ⟨_, rfl⟩
    obtain ⟨xs, hxs⟩ := hex
    rw [hxs] at hrow hx8 hxr hnext
    simp only [hxs] at hstep
    have hxn : (xs.map Rn.enc).length = xs.length := List.length_map ..
    subst hs
    refine Split.mk fun t h1 => ?_
    cases t
    case false => (exfalso; rw [decide_eq_false_iff_not] at h1; omega)
    rw [decide_eq_true_iff] at h1
    let S1 : List (List C) → Nat → St := fun R i => ⟨none :: some (av (.string key)) :: some (av (.int .i64 seq)) :: some (.bx 3 0) :: none :: none :: some (.bx 6 0) :: some (.one (.ref 7 0 (.cell 0))) :: some (av (.int .i64 k)) :: some (av (.int .i64 i)) :: List.replicate 59 none, absent :: absent :: absent :: ⟨0, 0, some t.enc⟩ :: absent :: absent :: ⟨0, 0, some [vb false, vs ⟨#[]⟩, vi 0]⟩ :: ⟨0, 1, some [.us 32 R]⟩ :: List.replicate 61 absent⟩
    refine ALoop.mk (fun m s => ∃ i : Nat, i ≤ xs.length ∧ m = xs.length - i ∧ s = S1 ((findE (lookL [l0, l1, l2] t.mem k i) key seq).map Ent.enc) i)
      ⟨_, _, Weak.nrm [false, true, true, true, false, false, true, true, true, true] [(3, 3), (6, 6), (7, 7)] rfl rfl rfl, 0, Nat.zero_le _, rfl, rfl⟩ ?_
    rintro m s ⟨i, hi, rfl, hs⟩
    by_cases hin : i = xs.length
    · rw [hin, hnext] at hs
      subst hs
      refine Need.mk (by omega) ?_
      refine Row.mk _ hrow ?_
      refine Split.mk fun t h1 => ?_
      cases t
      case true => (exfalso; rw [decide_eq_true_iff] at h1; omega)
      rw [decide_eq_false_iff_not] at h1
      refine Num.mk _ (wrapS (by omega)) ?_
      exact ⟨_, _, by omega, Weak.nrm [false, true, true, true, false, false, true, true, true] [(3, 3), (6, 6), (7, 7)] rfl rfl rfl, k + 1, by omega, rfl, rfl⟩
    · have hia : i < xs.length := by omega
      have hro := hxr _ (List.getElem_mem hia)
      have hst := hstep i hia
      have hfa := findE_app (lookL [l0, l1, l2] t.mem k i) xs[i].ents key seq
      rw [← hst] at hfa
      have hll := hlz i
      have hout : (slt key (lowK xs[i]) = true ∨ slt (highK xs[i]) key = true) → findE xs[i].ents key seq = [] := fun h => findE_out hro h seq
      have hrol := runOk_len hro
      obtain ⟨n1, n2, _, _⟩ := hrol
      have hex : ∃ r, xs[i] = r := ⟨_, rfl⟩
      obtain ⟨r, hr⟩ := hex
      have hrr : (xs.map Rn.enc)[i]? = some r.enc := by rw [map_get _ xs i hia, hr]
      rw [hr] at hro hfa n1 n2 hout
      have hF2 := spec_l4Find r.ents key seq (by omega)
      have hf2 := findE_len r.ents key seq
      have hrn : (r.ents.map Ent.enc).length = r.ents.length := List.length_map ..
      have hg0 := map_getD Ent.enc r.ents 0 ent0 (by omega)
      have hg1 := map_getD Ent.enc r.ents (r.ents.length - 1) ent0 (by omega)
      have hsub : IntKind.i64.wrap (((r.ents.map Ent.enc).length : Int) - 1) = ((r.ents.length - 1 : Nat) : Int) := wrapI' (by omega) (by omega)
      have hex : ∃ G, findE (lookL [l0, l1, l2] t.mem k i) key seq = G := ⟨_, rfl⟩
      obtain ⟨G, hG⟩ := hex
      rw [hG] at hfa hs hll
      by_cases c1 : slt key (lowK r) = true
      · rw [hout (.inl c1), List.append_nil] at hfa
        subst hs
        refine Need.mk (by omega) ?_
        refine Row.mk _ hrow ?_
        refine Split.mk fun t h1 => ?_
        cases t
        case false => (exfalso; rw [decide_eq_false_iff_not] at h1; omega)
        rw [decide_eq_true_iff] at h1
        refine Need.mk (by omega) ?_
        refine Row.mk _ hrow ?_
        refine Need.mk (by omega) ?_
        refine Row.mk _ hrr ?_
        refine Need.mk (by omega) ?_
        refine Row.mk _ hg0 ?_
        refine Split.mk fun t h2 => ?_
        cases t
        case true => (exfalso; rw [Bool.not_eq_true'] at h2; exact Bool.noConfusion (h2.symm.trans (‹_› : _ = true)))
        rw [Bool.not_eq_false'] at h2
        refine Num.mk _ (wrapS (by omega)) ?_
        exact ⟨_, _, by omega, Weak.nrm [false, true, true, true, false, false, true, true, true, true] [(3, 3), (6, 6), (7, 7)] rfl rfl rfl, i + 1, by omega, rfl, Eq.trans (b := S1 (G.map Ent.enc) (i + 1)) rfl (by rw [hfa])⟩
      · rw [Bool.not_eq_true] at c1
        by_cases c2 : slt (highK r) key = true
        · rw [hout (.inr c2), List.append_nil] at hfa
          subst hs
          refine Need.mk (by omega) ?_
          refine Row.mk _ hrow ?_
          refine Split.mk fun t h1 => ?_
          cases t
          case false => (exfalso; rw [decide_eq_false_iff_not] at h1; omega)
          rw [decide_eq_true_iff] at h1
          refine Need.mk (by omega) ?_
          refine Row.mk _ hrow ?_
          refine Need.mk (by omega) ?_
          refine Row.mk _ hrr ?_
          refine Need.mk (by omega) ?_
          refine Row.mk _ hg0 ?_
          refine Split.mk fun t h2 => ?_
          cases t
          case false => (exfalso; rw [Bool.not_eq_false'] at h2; exact Bool.noConfusion (h2.symm.trans (‹_› : _ = false)))
          rw [Bool.not_eq_true'] at h2
          refine Num.mk _ hsub ?_
          refine Need.mk (by omega) ?_
          refine Row.mk _ hg1 ?_
          refine Split.mk fun t h3 => ?_
          cases t
          case true => (exfalso; rw [str_le, Bool.not_eq_true'] at h3; exact Bool.noConfusion (h3.symm.trans (‹_› : _ = true)))
          rw [str_le, Bool.not_eq_false'] at h3
          refine Num.mk _ (wrapS (by omega)) ?_
          exact ⟨_, _, by omega, Weak.nrm [false, true, true, true, false, false, true, true, true, true] [(3, 3), (6, 6), (7, 7)] rfl rfl rfl, i + 1, by omega, rfl, Eq.trans (b := S1 (G.map Ent.enc) (i + 1)) rfl (by rw [hfa])⟩
        · rw [Bool.not_eq_true] at c2
          subst hs
          refine Need.mk (by omega) ?_
          refine Row.mk _ hrow ?_
          refine Split.mk fun t h1 => ?_
          cases t
          case false => (exfalso; rw [decide_eq_false_iff_not] at h1; omega)
          rw [decide_eq_true_iff] at h1
          refine Need.mk (by omega) ?_
          refine Row.mk _ hrow ?_
          refine Need.mk (by omega) ?_
          refine Row.mk _ hrr ?_
          refine Need.mk (by omega) ?_
          refine Row.mk _ hg0 ?_
          refine Split.mk fun t h2 => ?_
          cases t
          case false => (exfalso; rw [Bool.not_eq_false'] at h2; exact Bool.noConfusion (h2.symm.trans (‹_› : _ = false)))
          rw [Bool.not_eq_true'] at h2
          refine Num.mk _ hsub ?_
          refine Need.mk (by omega) ?_
          refine Row.mk _ hg1 ?_
          refine Split.mk fun t h3 => ?_
          cases t
          case false => (exfalso; rw [str_le, Bool.not_eq_false'] at h3; exact Bool.noConfusion (h3.symm.trans (‹_› : _ = false)))
          rw [str_le, Bool.not_eq_true'] at h3
          refine ACall.mk _ _ hF2 ?_
          refine Need.mk ((plainE _)) ?_
          refine Need.mk (appEq (A' := _) (B' := _) rfl rfl (by simp only [List.length_append, List.length_map, List.length_take, List.length_drop, List.length_cons, List.length_nil, List.length_reverse, List.length_replicate, List.length_set]; omega) (by decide)) ?_
          refine Num.mk _ (wrapS (by omega)) ?_
          exact ⟨_, _, by omega, Weak.nrm [false, true, true, true, false, false, true, true, true, true] [(3, 3), (6, 6), (64, 7)] rfl rfl rfl, i + 1, by omega, rfl, Eq.trans (b := S1 (G.map Ent.enc ++ (findE r.ents key seq).map Ent.enc) (i + 1)) rfl (by rw [hfa, List.map_append])⟩
theorem spec_TreeCell (t : Tre) (key : ByteArray) (seq : Int) (ht : t.Ok) (hsn : t.snaps.length ≤ 1099511627776) (hz : ∀ l ∈ t.levels, ∀ r ∈ l, r.ents.length ≤ 1099511627776) : AFn Try.prog 44 [.agg (t.enc.map .c), av (.string key), av (.int .i64 seq)] [] (.agg (cellAll (treeAll t) key seq).enc) [] := by
  have hO := spec_TreeOk t ht hsn hz
  cases hb : treeOk t with
  | false =>
    rw [hb] at hO
    rw [treeAll_bad hb]
    refine AFn.introX (E := En 0 md0) (en_ok 0 _ _ _ _ _) Try.func44 rfl rfl rfl fun _ _ => ?_
    refine ACall.mk _ _ hO ?_
    refine Split.mk fun t h1 => ?_
    cases t
    case true => cases h1
    exact Need.mk ⟨[], _, .same, rfl, rfl⟩ trivial
  | true =>
    rw [hb] at hO
    have hlv := treeOk_levels hb
    obtain ⟨l0, l1, l2, he, _⟩ := hlv
    have hC := spec_l5Cell t key seq l0 l1 l2 he hb
    refine AFn.introX (E := En 0 md0) (en_ok 0 _ _ _ _ _) Try.func44 rfl rfl rfl fun _ _ => ?_
    refine ACall.mk _ _ hO ?_
    refine Split.mk fun t h1 => ?_
    cases t
    case false => cases h1
    refine ACall.mk _ _ hC ?_
    exact Need.mk ⟨[], _, .same, rfl, rfl⟩ trivial
end Go.Proofs.Ytlmdheeammfihaa

namespace Go.Proofs.Ytlmdheeammfihaa
open Go Go.Proofs Ev
set_option maxRecDepth 100000
set_option linter.unusedSimpArgs false
set_option linter.unusedVariables false
theorem laws_szEntry (e : Ent) (left : Nat) (he : e.Ok) (hl : left ≤ 1048576) : AFn Try.prog 137 [.agg (e.enc.map .c), av (.int .i64 left)] [] (.one (vi (cut e.size left))) [] := by
  refine AFn.introX (E := En 0 md0) (en_ok 0 md0) Try.func137 rfl rfl rfl fun _ _ => ?_
  obtain ⟨h1, h2⟩ := he
  have he : e.size = e.key.size + e.text.size := rfl
  unfold maxLen at h1 h2
  have fin : ∀ {z : Int}, z = cut e.size left → RV.one (vi z) = RV.one (vi (cut e.size left)) := fun h => by rw [h]
  refine Num.mk ((left : Int) - e.key.size) (by rw [IntKind.wrap_i64]; omega) ?_
  refine Split.mk fun t ht => ?_
  cases t
  · have h3 : e.key.size ≤ left := by simp at ht; omega
    refine Num.mk ((left : Int) - e.key.size - e.text.size) (by rw [IntKind.wrap_i64]; omega) ?_
    refine Split.mk fun t ht => ?_
    cases t
    · have h4 : e.size ≤ left := by simp at ht; omega
      exact Need.mk ⟨[], _, .same, fin (by rw [cut_pos h4]; omega), rfl⟩ trivial
    · have h4 : ¬ e.size ≤ left := by simp at ht; omega
      exact Need.mk ⟨[], _, .same, fin (by rw [cut_neg h4]), rfl⟩ trivial
  · have h4 : ¬ e.size ≤ left := by simp at ht; omega
    exact Need.mk ⟨[], _, .same, fin (by rw [cut_neg h4]), rfl⟩ trivial
theorem laws_szEntryS (xs : List Ent) (left : Nat) (he : OkE xs) (hl : left ≤ 1048576) : AFn Try.prog 85 [sl (xs.map Ent.enc), av (.int .i64 left)] [] (.one (vi (cut (sizeE xs) left))) [] := by
  refine AFn.introX (E := En 0 md0) (en_ok 0 md0) Try.func85 rfl rfl rfl fun hs _ => ?_
  have hn : (xs.map Ent.enc).length = xs.length := List.length_map ..
  have hx := Small.len (hs _ (List.mem_cons_self ..))
  rw [hn] at hx
  have hz : sizeE xs = xs.length + (xs.map Ent.size).sum := rfl
  have fin : ∀ {z : Int}, z = cut (sizeE xs) left → RV.one (vi z) = RV.one (vi (cut (sizeE xs) left)) := fun h => by rw [h]
  refine Num.mk ((left : Int) - xs.length) (by rw [hn, IntKind.wrap_i64]; omega) ?_
  refine Split.mk fun t ht => ?_
  cases t
  · have h3 : xs.length ≤ left := by simp at ht; omega
    refine ALoop.mk (fun m s => ∃ (i r : Nat), i ≤ xs.length ∧ m = xs.length - i ∧ xs.length + ((xs.take i).map Ent.size).sum + r = left ∧
        s = ⟨some (sl (xs.map Ent.enc)) :: some (av (.int .i64 r)) :: none :: none :: none :: some (av (.int .i64 i)) :: List.replicate 21 none, List.replicate 27 absent⟩)
      ⟨xs.length, _, Weak.nrm [true, true, false, false, false, true] [] rfl rfl rfl, 0, left - xs.length, Nat.zero_le _, rfl, by simp; omega, ?_⟩ ?_
    · rw [show ((left - xs.length : Nat) : Int) = (left : Int) - xs.length by omega]; rfl
    rintro m s ⟨i, r, hi, rfl, hr, rfl⟩
    refine Split.mk fun t ht => ?_
    rw [hn] at ht
    cases t
    · have hin : i = xs.length := by simp at ht; omega
      subst hin
      rw [List.take_length] at hr
      exact Need.mk ⟨[], _, .same, fin (by rw [cut_pos (by omega)]; omega), rfl⟩ trivial
    · have hia : i < xs.length := by simpa using ht
      have hsum := sum_take Ent.size xs hia
      have hle := sum_take_le Ent.size xs (i + 1)
      refine Need.mk (by omega) ?_
      refine Row.mk _ (map_get _ xs i hia) ?_
      refine ACall.mk _ _ (laws_szEntry xs[i] r (he _ (List.getElem_mem _)) (by omega)) ?_
      refine Split.mk fun t ht => ?_
      rw [cut_lt] at ht
      cases t
      · have h4 : xs[i].size ≤ r := by simpa using ht
        refine Num.mk _ (wrapS (by omega)) ?_
        refine ⟨xs.length - (i + 1), _, by omega, Weak.nrm [true, true, false, false, false, true] [] rfl rfl rfl, i + 1, r - xs[i].size, by omega, rfl, by omega, ?_⟩
        rw [← cut_pos h4]; rfl
      · have h4 : ¬ xs[i].size ≤ r := by simpa using ht
        exact Need.mk ⟨[], _, .same, fin (by rw [cut_neg (by omega)]), rfl⟩ trivial
  · have h4 : ¬ sizeE xs ≤ left := by simp at ht; omega
    exact Need.mk ⟨[], _, .same, fin (by rw [cut_neg h4]), rfl⟩ trivial
end Go.Proofs.Ytlmdheeammfihaa

namespace Go.Proofs.Ytlmdheeammfihaa
open Go Go.Proofs Ev
set_option maxRecDepth 100000
set_option linter.unusedSimpArgs false
set_option linter.unusedVariables false
theorem laws_szRun (r : Rn) (left : Nat) (he : OkE r.ents) (hl : left ≤ 1048576) : AFn Try.prog 166 [.agg (r.enc.map .c), av (.int .i64 left)] [] (.one (vi (cut (sizeE r.ents) left))) [] := by
  refine AFn.introX (E := En 0 md0) (en_ok 0 md0) Try.func166 rfl rfl rfl fun _ _ => ?_
  refine ACall.mk _ _ (laws_szEntryS r.ents left he hl) ?_
  refine Split.mk fun t ht => ?_
  rw [cut_lt] at ht
  cases t
  · exact Need.mk ⟨[], _, .same, rfl, rfl⟩ trivial
  · exact Need.mk ⟨[], _, .same, by rw [cut_neg (by simpa using ht)]; rfl, rfl⟩ trivial
theorem laws_szRunS (xs : List Rn) (left : Nat) (he : OkR xs) (hl : left ≤ 1048576) : AFn Try.prog 138 [sl (xs.map Rn.enc), av (.int .i64 left)] [] (.one (vi (cut (sizeR xs) left))) [] := by
  refine AFn.introX (E := En 0 md0) (en_ok 0 md0) Try.func138 rfl rfl rfl fun hs _ => ?_
  have hn : (xs.map Rn.enc).length = xs.length := List.length_map ..
  have hx := Small.len (hs _ (List.mem_cons_self ..))
  rw [hn] at hx
  have hz : sizeR xs = xs.length + (xs.map (fun r : Rn => sizeE r.ents)).sum := rfl
  have fin : ∀ {z : Int}, z = cut (sizeR xs) left → RV.one (vi z) = RV.one (vi (cut (sizeR xs) left)) := fun h => by rw [h]
  refine Num.mk ((left : Int) - xs.length) (by rw [hn, IntKind.wrap_i64]; omega) ?_
  refine Split.mk fun t ht => ?_
  cases t
  · have h3 : xs.length ≤ left := by simp at ht; omega
    refine ALoop.mk (fun m s => ∃ (i r : Nat), i ≤ xs.length ∧ m = xs.length - i ∧ xs.length + ((xs.take i).map (fun r : Rn => sizeE r.ents)).sum + r = left ∧
        s = ⟨some (sl (xs.map Rn.enc)) :: some (av (.int .i64 r)) :: none :: none :: none :: some (av (.int .i64 i)) :: List.replicate 21 none, List.replicate 27 absent⟩)
      ⟨xs.length, _, Weak.nrm [true, true, false, false, false, true] [] rfl rfl rfl, 0, left - xs.length, Nat.zero_le _, rfl, by simp; omega, ?_⟩ ?_
    · rw [show ((left - xs.length : Nat) : Int) = (left : Int) - xs.length by omega]; rfl
    rintro m s ⟨i, r, hi, rfl, hr, rfl⟩
    refine Split.mk fun t ht => ?_
    rw [hn] at ht
    cases t
    · have hin : i = xs.length := by simp at ht; omega
      subst hin
      rw [List.take_length] at hr
      exact Need.mk ⟨[], _, .same, fin (by rw [cut_pos (by omega)]; omega), rfl⟩ trivial
    · have hia : i < xs.length := by simpa using ht
      have hsum := sum_take (fun r : Rn => sizeE r.ents) xs hia
      have hle := sum_take_le (fun r : Rn => sizeE r.ents) xs (i + 1)
      refine Need.mk (by omega) ?_
      refine Row.mk _ (map_get _ xs i hia) ?_
      refine ACall.mk _ _ (laws_szRun xs[i] r (he _ (List.getElem_mem _)) (by omega)) ?_
      refine Split.mk fun t ht => ?_
      rw [cut_lt] at ht
      cases t
      · have h4 : (sizeE xs[i].ents) ≤ r := by simpa using ht
        refine Num.mk _ (wrapS (by omega)) ?_
        refine ⟨xs.length - (i + 1), _, by omega, Weak.nrm [true, true, false, false, false, true] [] rfl rfl rfl, i + 1, r - (sizeE xs[i].ents), by omega, rfl, by omega, ?_⟩
        rw [← cut_pos h4]; rfl
      · have h4 : ¬ (sizeE xs[i].ents) ≤ r := by simpa using ht
        exact Need.mk ⟨[], _, .same, fin (by rw [cut_neg (by omega)]), rfl⟩ trivial
  · have h4 : ¬ sizeR xs ≤ left := by simp at ht; omega
    exact Need.mk ⟨[], _, .same, fin (by rw [cut_neg h4]), rfl⟩ trivial
theorem laws_szRunSS (xs : List (List Rn)) (left : Nat) (he : OkRR xs) (hl : left ≤ 1048576) : AFn Try.prog 86 [sl (xs.map encL), av (.int .i64 left)] [] (.one (vi (cut (sizeRR xs) left))) [] := by
  refine AFn.introX (E := En 0 md0) (en_ok 0 md0) Try.func86 rfl rfl rfl fun hs _ => ?_
  have hn : (xs.map encL).length = xs.length := List.length_map ..
  have hx := Small.len (hs _ (List.mem_cons_self ..))
  rw [hn] at hx
  have hz : sizeRR xs = xs.length + (xs.map sizeR).sum := rfl
  have fin : ∀ {z : Int}, z = cut (sizeRR xs) left → RV.one (vi z) = RV.one (vi (cut (sizeRR xs) left)) := fun h => by rw [h]
  refine Num.mk ((left : Int) - xs.length) (by rw [hn, IntKind.wrap_i64]; omega) ?_
  refine Split.mk fun t ht => ?_
  cases t
  · have h3 : xs.length ≤ left := by simp at ht; omega
    refine ALoop.mk (fun m s => ∃ (i r : Nat), i ≤ xs.length ∧ m = xs.length - i ∧ xs.length + ((xs.take i).map sizeR).sum + r = left ∧
        s = ⟨some (sl (xs.map encL)) :: some (av (.int .i64 r)) :: none :: none :: none :: some (av (.int .i64 i)) :: List.replicate 21 none, List.replicate 27 absent⟩)
      ⟨xs.length, _, Weak.nrm [true, true, false, false, false, true] [] rfl rfl rfl, 0, left - xs.length, Nat.zero_le _, rfl, by simp; omega, ?_⟩ ?_
    · rw [show ((left - xs.length : Nat) : Int) = (left : Int) - xs.length by omega]; rfl
    rintro m s ⟨i, r, hi, rfl, hr, rfl⟩
    refine Split.mk fun t ht => ?_
    rw [hn] at ht
    cases t
    · have hin : i = xs.length := by simp at ht; omega
      subst hin
      rw [List.take_length] at hr
      exact Need.mk ⟨[], _, .same, fin (by rw [cut_pos (by omega)]; omega), rfl⟩ trivial
    · have hia : i < xs.length := by simpa using ht
      have hsum := sum_take sizeR xs hia
      have hle := sum_take_le sizeR xs (i + 1)
      refine Need.mk (by omega) ?_
      refine Row.mk _ (map_get _ xs i hia) ?_
      refine ACall.mk _ _ (laws_szRunS xs[i] r (he _ (List.getElem_mem _)) (by omega)) ?_
      refine Split.mk fun t ht => ?_
      rw [cut_lt] at ht
      cases t
      · have h4 : (sizeR xs[i]) ≤ r := by simpa using ht
        refine Num.mk _ (wrapS (by omega)) ?_
        refine ⟨xs.length - (i + 1), _, by omega, Weak.nrm [true, true, false, false, false, true] [] rfl rfl rfl, i + 1, r - (sizeR xs[i]), by omega, rfl, by omega, ?_⟩
        rw [← cut_pos h4]; rfl
      · have h4 : ¬ (sizeR xs[i]) ≤ r := by simpa using ht
        exact Need.mk ⟨[], _, .same, fin (by rw [cut_neg (by omega)]), rfl⟩ trivial
  · have h4 : ¬ sizeRR xs ≤ left := by simp at ht; omega
    exact Need.mk ⟨[], _, .same, fin (by rw [cut_neg h4]), rfl⟩ trivial
end Go.Proofs.Ytlmdheeammfihaa

namespace Go.Proofs.Ytlmdheeammfihaa
open Go Go.Proofs Ev
set_option maxRecDepth 100000
set_option linter.unusedSimpArgs false
set_option linter.unusedVariables false
theorem laws_szIntS (xs : List Int) (left : Nat) (hl : left ≤ 1048576) : AFn Try.prog 87 [sl (xs.map encI), av (.int .i64 left)] [] (.one (vi (cut xs.length left))) [] := by
  refine AFn.introX (E := En 0 md0) (en_ok 0 md0) Try.func87 rfl rfl rfl fun hs _ => ?_
  have hn : (xs.map encI).length = xs.length := List.length_map ..
  have hx := Small.len (hs _ (List.mem_cons_self ..))
  rw [hn] at hx
  have fin : ∀ {z : Int}, z = cut xs.length left → RV.one (vi z) = RV.one (vi (cut xs.length left)) := fun h => by rw [h]
  refine Num.mk ((left : Int) - xs.length) (by rw [hn, IntKind.wrap_i64]; omega) ?_
  refine Split.mk fun t ht => ?_
  cases t
  · have h3 : xs.length ≤ left := by simp at ht; omega
    exact Need.mk ⟨[], _, .same, fin (by rw [cut_pos h3]; omega), rfl⟩ trivial
  · have h3 : ¬ xs.length ≤ left := by simp at ht; omega
    exact Need.mk ⟨[], _, .same, fin (by rw [cut_neg h3]), rfl⟩ trivial
theorem laws_szTree (t : Tre) (left : Nat) (he : t.Ok) (hl : left ≤ 1048576) : AFn Try.prog 33 [.agg (t.enc.map .c), av (.int .i64 left)] [] (.one (vi (cut t.size left))) [] := by
  refine AFn.introX (E := En 0 md0) (en_ok 0 md0) Try.func33 rfl rfl rfl fun _ _ => ?_
  have hz : t.size = sizeE t.mem + sizeRR t.levels + t.snaps.length := rfl
  have fin : ∀ {z : Int}, z = cut t.size left → RV.one (vi z) = RV.one (vi (cut t.size left)) := fun h => by rw [h]
  by_cases h1 : sizeE t.mem ≤ left
  · refine ACall.mk (.one (vi ((left - sizeE t.mem : Nat) : Int))) [] (by rw [← cut_pos h1]; exact laws_szEntryS t.mem left he.1 hl) ?_
    refine Split.mk fun b hb => ?_
    cases b
    · by_cases h2 : sizeRR t.levels ≤ left - sizeE t.mem
      · refine ACall.mk (.one (vi ((left - sizeE t.mem - sizeRR t.levels : Nat) : Int))) [] (by rw [← cut_pos h2]; exact laws_szRunSS t.levels (left - sizeE t.mem) he.2 (by omega)) ?_
        refine Split.mk fun b hb => ?_
        cases b
        · by_cases h3 : t.snaps.length ≤ left - sizeE t.mem - sizeRR t.levels
          · refine ACall.mk (.one (vi ((left - sizeE t.mem - sizeRR t.levels - t.snaps.length : Nat) : Int))) [] (by rw [← cut_pos h3]; exact laws_szIntS t.snaps _ (by omega)) ?_
            refine Split.mk fun b hb => ?_
            cases b
            · exact Need.mk ⟨[], _, .same, fin (by rw [cut_pos (by omega)]; omega), rfl⟩ trivial
            · simp at hb <;> omega
          · refine ACall.mk (.one (vi (-1))) [] (by rw [← cut_neg h3]; exact laws_szIntS t.snaps _ (by omega)) ?_
            refine Split.mk fun b hb => ?_
            cases b
            · simp at hb
            · exact Need.mk ⟨[], _, .same, fin (by rw [cut_neg (by omega)]), rfl⟩ trivial
        · simp at hb <;> omega
      · refine ACall.mk (.one (vi (-1))) [] (by rw [← cut_neg h2]; exact laws_szRunSS t.levels (left - sizeE t.mem) he.2 (by omega)) ?_
        refine Split.mk fun b hb => ?_
        cases b
        · simp at hb
        · exact Need.mk ⟨[], _, .same, fin (by rw [cut_neg (by omega)]), rfl⟩ trivial
    · simp at hb <;> omega
  · refine ACall.mk (.one (vi (-1))) [] (by rw [← cut_neg h1]; exact laws_szEntryS t.mem left he.1 hl) ?_
    refine Split.mk fun b hb => ?_
    cases b
    · simp at hb
    · exact Need.mk ⟨[], _, .same, fin (by rw [cut_neg (by omega)]), rfl⟩ trivial
end Go.Proofs.Ytlmdheeammfihaa

namespace Go.Proofs.Ytlmdheeammfihaa
open Go Go.Proofs Ev
set_option maxRecDepth 100000
set_option linter.unusedSimpArgs false
set_option linter.unusedVariables false
theorem laws_toEntry (e : Ent) : AFn Try.prog 142 [.agg (e.enc.map .c)] [] (.agg e.enc) [] := by
  refine AFn.introX (E := En 0 md0) (en_ok 0 md0) Try.func142 rfl rfl rfl fun _ _ => ?_
  exact Need.mk ⟨[], _, .same, rfl, rfl⟩ trivial
theorem laws_toEntryS (xs : List Ent) (hx : xs.length ≤ 1048576) : AFn Try.prog 92 [sl (xs.map Ent.enc)] [] (.one (.us 32 (xs.map Ent.enc))) [] := by
  refine AFn.introX (E := En 0 md0) (en_ok 0 md0) Try.func92 rfl rfl rfl fun _ _ => ?_
  have hn : (xs.map Ent.enc).length = xs.length := List.length_map ..
  refine Need.mk ⟨by omega, by omega, by simp only [hn]; omega, by omega⟩ ?_
  let S : List (List C) → Nat → St := fun rows i => ⟨some (sl (xs.map Ent.enc)) :: none :: none :: some (.one (.ref 3 0 (.cell 0))) :: some (av (.int .i64 i)) :: List.replicate 18 none, absent :: absent :: absent :: ⟨0, 1, some [.us 32 rows]⟩ :: List.replicate 19 absent⟩
  refine ALoop.mk (fun m s => ∃ i : Nat, i ≤ xs.length ∧ m = xs.length - i ∧ s = S ((xs.take i ++ List.replicate (xs.length - i) ent0).map Ent.enc) i)
    ⟨xs.length, _, Weak.nrm [true, false, false, true, true] [(7, 3)] rfl rfl rfl, 0, Nat.zero_le _, rfl, ?_⟩ ?_
  · refine Eq.trans (b := S (List.replicate (xs.map Ent.enc).length (Ent.enc ent0)) 0) rfl ?_
    rw [hn, List.take_zero, List.nil_append, List.map_replicate, Nat.sub_zero]
  rintro m s ⟨i, hi, rfl, rfl⟩
  refine Split.mk fun t ht => ?_
  rw [hn] at ht
  cases t
  · have hin : i = xs.length := by simp at ht; omega
    subst hin
    refine Need.mk ⟨[], _, .same, ?_, rfl⟩ trivial
    rw [List.take_length, Nat.sub_self, List.replicate_zero, List.append_nil]; rfl
  · have hia : i < xs.length := by simpa using ht
    refine Need.mk (by omega) ?_
    refine Row.mk _ (map_get _ xs i hia) ?_
    refine ACall.mk _ _ (laws_toEntry xs[i]) ?_
    refine Need.mk ⟨by omega, by rw [List.length_map, to_len _ _ hi]; omega⟩ ?_
    refine Row.mk _ (to_get _ xs ent0 hia) ?_
    refine Num.mk _ (wrapS (by omega)) ?_
    refine ⟨xs.length - (i + 1), _, by omega, Weak.nrm [true, false, false, true, true] [(3, 3)] rfl rfl rfl, i + 1, by omega, rfl, ?_⟩
    refine Eq.trans (b := S (((xs.take i ++ List.replicate (xs.length - i) ent0).map Ent.enc).set i (Ent.enc xs[i])) (i + 1)) rfl ?_
    rw [← List.map_set, to_step xs ent0 hia]
end Go.Proofs.Ytlmdheeammfihaa

namespace Go.Proofs.Ytlmdheeammfihaa
open Go Go.Proofs Ev
set_option maxRecDepth 100000
set_option linter.unusedSimpArgs false
set_option linter.unusedVariables false
theorem laws_toRun (r : Rn) (hr : r.ents.length ≤ 1048576) : AFn Try.prog 167 [.agg (r.enc.map .c)] [] (.agg (encO r)) [] := by
  refine AFn.introX (E := En 0 md0) (en_ok 0 md0) Try.func167 rfl rfl rfl fun _ _ => ?_
  refine ACall.mk _ _ (laws_toEntryS r.ents hr) ?_
  exact Need.mk ⟨[], _, .same, rfl, rfl⟩ trivial
theorem laws_toRunS (xs : List Rn) (hx : xs.length ≤ 1048576) (hr : ∀ r ∈ xs, r.ents.length ≤ 1048576) : AFn Try.prog 143 [sl (xs.map Rn.enc)] [] (.one (.us 25 (xs.map encO))) [] := by
  refine AFn.introX (E := En 0 md0) (en_ok 0 md0) Try.func143 rfl rfl rfl fun _ _ => ?_
  have hn : (xs.map Rn.enc).length = xs.length := List.length_map ..
  refine Need.mk ⟨by omega, by omega, by simp only [hn]; omega, by omega⟩ ?_
  let S : List (List C) → Nat → St := fun rows i => ⟨some (sl (xs.map Rn.enc)) :: none :: none :: some (.one (.ref 3 0 (.cell 0))) :: some (av (.int .i64 i)) :: List.replicate 18 none, absent :: absent :: absent :: ⟨0, 1, some [.us 25 rows]⟩ :: List.replicate 19 absent⟩
  refine ALoop.mk (fun m s => ∃ i : Nat, i ≤ xs.length ∧ m = xs.length - i ∧ s = S ((xs.take i ++ List.replicate (xs.length - i) (⟨[], 0⟩ : Rn)).map encO) i)
    ⟨xs.length, _, Weak.nrm [true, false, false, true, true] [(7, 3)] rfl rfl rfl, 0, Nat.zero_le _, rfl, ?_⟩ ?_
  · refine Eq.trans (b := S (List.replicate (xs.map Rn.enc).length (encO (⟨[], 0⟩ : Rn))) 0) rfl ?_
    rw [hn, List.take_zero, List.nil_append, List.map_replicate, Nat.sub_zero]
  rintro m s ⟨i, hi, rfl, rfl⟩
  refine Split.mk fun t ht => ?_
  rw [hn] at ht
  cases t
  · have hin : i = xs.length := by simp at ht; omega
    subst hin
    refine Need.mk ⟨[], _, .same, ?_, rfl⟩ trivial
    rw [List.take_length, Nat.sub_self, List.replicate_zero, List.append_nil]; rfl
  · have hia : i < xs.length := by simpa using ht
    refine Need.mk (by omega) ?_
    refine Row.mk _ (map_get _ xs i hia) ?_
    refine ACall.mk _ _ (laws_toRun xs[i] (hr _ (List.getElem_mem _))) ?_
    refine Need.mk ⟨by omega, by rw [List.length_map, to_len _ _ hi]; omega⟩ ?_
    refine Row.mk _ (to_get _ xs (⟨[], 0⟩ : Rn) hia) ?_
    refine Num.mk _ (wrapS (by omega)) ?_
    refine ⟨xs.length - (i + 1), _, by omega, Weak.nrm [true, false, false, true, true] [(3, 3)] rfl rfl rfl, i + 1, by omega, rfl, ?_⟩
    refine Eq.trans (b := S (((xs.take i ++ List.replicate (xs.length - i) (⟨[], 0⟩ : Rn)).map encO).set i (encO xs[i])) (i + 1)) rfl ?_
    rw [← List.map_set, to_step xs (⟨[], 0⟩ : Rn) hia]
end Go.Proofs.Ytlmdheeammfihaa

namespace Go.Proofs.Ytlmdheeammfihaa
open Go Go.Proofs Ev
set_option maxRecDepth 100000
set_option linter.unusedSimpArgs false
set_option linter.unusedVariables false
theorem laws_toRunSS (xs : List (List Rn)) (hx : xs.length ≤ 1048576) (hr : ∀ l ∈ xs, l.length ≤ 1048576 ∧ ∀ r ∈ l, r.ents.length ≤ 1048576) : AFn Try.prog 93 [sl (xs.map encL)] [] (.one (.us 112 (xs.map encLO))) [] := by
  refine AFn.introX (E := En 0 md0) (en_ok 0 md0) Try.func93 rfl rfl rfl fun _ _ => ?_
  have hn : (xs.map encL).length = xs.length := List.length_map ..
  refine Need.mk ⟨by omega, by omega, by simp only [hn]; omega, by omega⟩ ?_
  let S : List (List C) → Nat → St := fun rows i => ⟨some (sl (xs.map encL)) :: none :: none :: some (.one (.ref 3 0 (.cell 0))) :: some (av (.int .i64 i)) :: List.replicate 18 none, absent :: absent :: absent :: ⟨0, 1, some [.us 112 rows]⟩ :: List.replicate 19 absent⟩
  refine ALoop.mk (fun m s => ∃ i : Nat, i ≤ xs.length ∧ m = xs.length - i ∧ s = S ((xs.take i ++ List.replicate (xs.length - i) ([] : List Rn)).map encLO) i)
    ⟨xs.length, _, Weak.nrm [true, false, false, true, true] [(7, 3)] rfl rfl rfl, 0, Nat.zero_le _, rfl, ?_⟩ ?_
  · refine Eq.trans (b := S (List.replicate (xs.map encL).length (encLO ([] : List Rn))) 0) rfl ?_
    rw [hn, List.take_zero, List.nil_append, List.map_replicate, Nat.sub_zero]
  rintro m s ⟨i, hi, rfl, rfl⟩
  refine Split.mk fun t ht => ?_
  rw [hn] at ht
  cases t
  · have hin : i = xs.length := by simp at ht; omega
    subst hin
    refine Need.mk ⟨[], _, .same, ?_, rfl⟩ trivial
    rw [List.take_length, Nat.sub_self, List.replicate_zero, List.append_nil]; rfl
  · have hia : i < xs.length := by simpa using ht
    refine Need.mk (by omega) ?_
    refine Row.mk _ (map_get _ xs i hia) ?_
    refine ACall.mk _ _ (laws_toRunS xs[i] (hr _ (List.getElem_mem _)).1 (hr _ (List.getElem_mem _)).2) ?_
    refine Need.mk ⟨by omega, by rw [List.length_map, to_len _ _ hi]; omega⟩ ?_
    refine Row.mk _ (to_get _ xs ([] : List Rn) hia) ?_
    refine Num.mk _ (wrapS (by omega)) ?_
    refine ⟨xs.length - (i + 1), _, by omega, Weak.nrm [true, false, false, true, true] [(3, 3)] rfl rfl rfl, i + 1, by omega, rfl, ?_⟩
    refine Eq.trans (b := S (((xs.take i ++ List.replicate (xs.length - i) ([] : List Rn)).map encLO).set i (encLO xs[i])) (i + 1)) rfl ?_
    rw [← List.map_set, to_step xs ([] : List Rn) hia]
end Go.Proofs.Ytlmdheeammfihaa

namespace Go.Proofs.Ytlmdheeammfihaa
open Go Go.Proofs Ev
set_option maxRecDepth 100000
set_option linter.unusedSimpArgs false
set_option linter.unusedVariables false
theorem laws_toIntS (xs : List Int) (hx : xs.length ≤ 1048576) : AFn Try.prog 94 [sl (xs.map encI)] [] (.one (.us 3 (xs.map encI))) [] := by
  refine AFn.introX (E := En 0 md0) (en_ok 0 md0) Try.func94 rfl rfl rfl fun _ _ => ?_
  have hn : (xs.map encI).length = xs.length := List.length_map ..
  refine Need.mk ⟨by omega, by omega, by simp only [hn]; omega, by omega⟩ ?_
  let S : List (List C) → Nat → St := fun rows i => ⟨some (sl (xs.map encI)) :: none :: none :: some (.one (.ref 3 0 (.cell 0))) :: some (av (.int .i64 i)) :: List.replicate 17 none, absent :: absent :: absent :: ⟨0, 1, some [.us 3 rows]⟩ :: List.replicate 18 absent⟩
  refine ALoop.mk (fun m s => ∃ i : Nat, i ≤ xs.length ∧ m = xs.length - i ∧ s = S ((xs.take i ++ List.replicate (xs.length - i) (0 : Int)).map encI) i)
    ⟨xs.length, _, Weak.nrm [true, false, false, true, true] [(7, 3)] rfl rfl rfl, 0, Nat.zero_le _, rfl, ?_⟩ ?_
  · refine Eq.trans (b := S (List.replicate (xs.map encI).length (encI (0 : Int))) 0) rfl ?_
    rw [hn, List.take_zero, List.nil_append, List.map_replicate, Nat.sub_zero]
  rintro m s ⟨i, hi, rfl, rfl⟩
  refine Split.mk fun t ht => ?_
  rw [hn] at ht
  cases t
  · have hin : i = xs.length := by simp at ht; omega
    subst hin
    refine Need.mk ⟨[], _, .same, ?_, rfl⟩ trivial
    rw [List.take_length, Nat.sub_self, List.replicate_zero, List.append_nil]; rfl
  · have hia : i < xs.length := by simpa using ht
    refine Need.mk (by omega) ?_
    refine Row.mk _ (map_get _ xs i hia) ?_
    refine Need.mk ⟨by omega, by rw [List.length_map, to_len _ _ hi]; omega⟩ ?_
    refine Row.mk _ (to_get _ xs (0 : Int) hia) ?_
    refine Num.mk _ (wrapS (by omega)) ?_
    refine ⟨xs.length - (i + 1), _, by omega, Weak.nrm [true, false, false, true, true] [(3, 3)] rfl rfl rfl, i + 1, by omega, rfl, ?_⟩
    refine Eq.trans (b := S (((xs.take i ++ List.replicate (xs.length - i) (0 : Int)).map encI).set i (encI xs[i])) (i + 1)) rfl ?_
    rw [← List.map_set, to_step xs (0 : Int) hia]
end Go.Proofs.Ytlmdheeammfihaa

namespace Go.Proofs.Ytlmdheeammfihaa
open Go Go.Proofs Ev
set_option maxRecDepth 100000
set_option linter.unusedSimpArgs false
set_option linter.unusedVariables false
def encTO (t : Tre) : List C := [vi t.seq, .us 32 (t.mem.map Ent.enc), .us 112 (t.levels.map encLO), .us 3 (t.snaps.map encI)]
theorem clTO (t : Tre) : ClL (encTO t) := .v (.us (clE _) (.us (clLO _) (.us (clI _) .nil)))
end Go.Proofs.Ytlmdheeammfihaa

namespace Go.Proofs.Ytlmdheeammfihaa
open Go Go.Proofs Ev
set_option maxRecDepth 100000
set_option linter.unusedSimpArgs false
set_option linter.unusedVariables false
theorem laws_toTree (t : Tre) (ht : Tre.Small t) : AFn Try.prog 35 [.agg (t.enc.map .c)] [] (.agg (encTO t)) [] := by
  refine AFn.introX (E := En 0 md0) (en_ok 0 md0) Try.func35 rfl rfl rfl fun _ _ => ?_
  refine ACall.mk _ _ (laws_toEntryS t.mem ht.1) ?_
  refine ACall.mk _ _ (laws_toRunSS t.levels ht.2.1 ht.2.2.1) ?_
  refine ACall.mk _ _ (laws_toIntS t.snaps ht.2.2.2) ?_
  exact Need.mk ⟨[], _, .same, rfl, rfl⟩ trivial
end Go.Proofs.Ytlmdheeammfihaa

namespace Go.Proofs.Ytlmdheeammfihaa
open Go Go.Proofs Ev
set_option maxRecDepth 100000
set_option linter.unusedSimpArgs false
set_option linter.unusedVariables false
theorem laws_eqEntry (a b : Ent) : AFn Try.prog 102 [.agg (a.enc.map .c), .agg (b.enc.map .c)] [] (rb (decide (a = b))) [] := by
  refine AFn.introX (E := En 0 md0) (en_ok 0 md0) Try.func102 rfl rfl rfl fun _ _ => ?_
  have fin : ∀ {c : Bool}, c = decide (a = b) → rb c = rb (decide (a = b)) := fun h => by rw [h]
  refine Split.mk fun t ht => ?_
  rw [bytes_beq] at ht
  cases t
  · refine Split.mk fun t ht1 => ?_
    cases t
    · refine Split.mk fun t ht2 => ?_
      cases t
      · refine Split.mk fun t ht3 => ?_
        rw [bytes_beq] at ht3
        cases t
        · refine Split.mk fun t ht4 => ?_
          cases t
          · exact Need.mk ⟨[], _, .same, fin (by cases a; cases b; simp_all), rfl⟩ trivial
          · exact Need.mk ⟨[], _, .same, fin (by cases a; cases b; simp_all), rfl⟩ trivial
        · exact Need.mk ⟨[], _, .same, fin (by cases a; cases b; simp_all), rfl⟩ trivial
      · exact Need.mk ⟨[], _, .same, fin (by cases a; cases b; simp_all), rfl⟩ trivial
    · exact Need.mk ⟨[], _, .same, fin (by cases a; cases b; simp_all), rfl⟩ trivial
  · exact Need.mk ⟨[], _, .same, fin (by cases a; cases b; simp_all), rfl⟩ trivial
end Go.Proofs.Ytlmdheeammfihaa

namespace Go.Proofs.Ytlmdheeammfihaa
open Go Go.Proofs Ev
set_option maxRecDepth 100000
set_option linter.unusedSimpArgs false
set_option linter.unusedVariables false
theorem laws_eqEntryS (a b : List Ent) : AFn Try.prog 40 [sl (a.map Ent.enc), sl (b.map Ent.enc)] [] (rb (decide (a = b))) [] := by
  refine AFn.introX (E := En 0 md0) (en_ok 0 md0) Try.func40 rfl rfl rfl fun hs _ => ?_
  have ha := Small.len (hs _ (List.mem_cons_self ..))
  rw [List.length_map] at ha
  have fin : ∀ {c : Bool}, c = decide (a = b) → rb c = rb (decide (a = b)) := fun h => by rw [h]
  refine Split.mk fun t ht => ?_
  cases t
  · have hl : a.length = b.length := Int.ofNat_inj.1 (by simpa using ht)
    refine ALoop.mk (fun n s => ∃ i : Nat, i ≤ a.length ∧ n = a.length - i ∧ a.take i = b.take i ∧
      s = ⟨some (sl (a.map Ent.enc)) :: some (sl (b.map Ent.enc)) :: none :: none :: some (av (.bool false)) :: some (av (.int .i64 i)) :: List.replicate 21 none, List.replicate 27 absent⟩)
      ⟨a.length, _, Weak.nrm [true, true, false, false, true, true] [] rfl rfl rfl, 0, Nat.zero_le _, rfl, rfl, rfl⟩ ?_
    rintro n s ⟨i, hi, rfl, hp, rfl⟩
    refine Split.mk fun t ht => ?_
    cases t
    · have hia : i = a.length := by simp at ht; omega
      refine Need.mk ⟨[], _, .same, fin ?_, rfl⟩ trivial
      subst hia
      rw [List.take_length, hl, List.take_length] at hp
      simp [hp]
    · have hia : i < a.length := by simpa using ht
      refine Need.mk (by omega) ?_
      refine Row.mk _ (map_get _ a i hia) ?_
      refine Need.mk (by omega) ?_
      refine Row.mk _ (map_get _ b i (by omega)) ?_
      refine ACall.mk _ _ (laws_eqEntry a[i] (b[i]'(by omega))) ?_
      refine Split.mk fun t ht2 => ?_
      cases t
      · refine Need.mk rfl ?_
        refine Need.mk ⟨[], _, .same, fin ?_, rfl⟩ trivial
        have : a[i] ≠ b[i]'(by omega) := by simpa using ht2
        refine (decide_eq_false fun e => this ?_).symm
        subst e; rfl
      · refine Need.mk rfl ?_
        refine Num.mk _ (wrapS (by omega)) ?_
        refine ⟨a.length - (i + 1), _, by omega, Weak.nrm [true, true, false, false, true, true] [] rfl rfl rfl, i + 1, by omega, rfl, ?_, rfl⟩
        have : a[i] = b[i]'(by omega) := by simpa using ht2
        rw [List.take_succ_eq_append_getElem hia, List.take_succ_eq_append_getElem (by omega), hp, this]
  · refine Need.mk ⟨[], _, .same, fin ?_, rfl⟩ trivial
    have : a.length ≠ b.length := by
      intro e; simp [e] at ht
    exact (decide_eq_false fun e => this (by rw [e])).symm
end Go.Proofs.Ytlmdheeammfihaa

namespace Go.Proofs.Ytlmdheeammfihaa
open Go Go.Proofs Ev
set_option maxRecDepth 100000
set_option linter.unusedSimpArgs false
set_option linter.unusedVariables false
theorem laws_eqRun (a b : Rn) : AFn Try.prog 168 [.agg (a.enc.map .c), .agg (b.enc.map .c)] [] (rb (decide (a = b))) [] := by
  refine AFn.introX (E := En 0 md0) (en_ok 0 md0) Try.func168 rfl rfl rfl fun _ _ => ?_
  have fin : ∀ {c : Bool}, c = decide (a = b) → rb c = rb (decide (a = b)) := fun h => by rw [h]
  refine ACall.mk _ _ (laws_eqEntryS a.ents b.ents) ?_
  refine Split.mk fun t ht => ?_
  cases t
  · exact Need.mk ⟨[], _, .same, fin (by cases a; cases b; simp_all), rfl⟩ trivial
  · refine Split.mk fun t ht1 => ?_
    cases t
    · exact Need.mk ⟨[], _, .same, fin (by cases a; cases b; simp_all), rfl⟩ trivial
    · exact Need.mk ⟨[], _, .same, fin (by cases a; cases b; simp_all), rfl⟩ trivial
end Go.Proofs.Ytlmdheeammfihaa

namespace Go.Proofs.Ytlmdheeammfihaa
open Go Go.Proofs Ev
set_option maxRecDepth 100000
set_option linter.unusedSimpArgs false
set_option linter.unusedVariables false
theorem laws_eqRunS (a b : List Rn) : AFn Try.prog 145 [sl (a.map Rn.enc), sl (b.map Rn.enc)] [] (rb (decide (a = b))) [] := by
  refine AFn.introX (E := En 0 md0) (en_ok 0 md0) Try.func145 rfl rfl rfl fun hs _ => ?_
  have ha := Small.len (hs _ (List.mem_cons_self ..))
  rw [List.length_map] at ha
  have fin : ∀ {c : Bool}, c = decide (a = b) → rb c = rb (decide (a = b)) := fun h => by rw [h]
  refine Split.mk fun t ht => ?_
  cases t
  · have hl : a.length = b.length := Int.ofNat_inj.1 (by simpa using ht)
    refine ALoop.mk (fun n s => ∃ i : Nat, i ≤ a.length ∧ n = a.length - i ∧ a.take i = b.take i ∧
      s = ⟨some (sl (a.map Rn.enc)) :: some (sl (b.map Rn.enc)) :: none :: none :: some (av (.bool false)) :: some (av (.int .i64 i)) :: List.replicate 21 none, List.replicate 27 absent⟩)
      ⟨a.length, _, Weak.nrm [true, true, false, false, true, true] [] rfl rfl rfl, 0, Nat.zero_le _, rfl, rfl, rfl⟩ ?_
    rintro n s ⟨i, hi, rfl, hp, rfl⟩
    refine Split.mk fun t ht => ?_
    cases t
    · have hia : i = a.length := by simp at ht; omega
      refine Need.mk ⟨[], _, .same, fin ?_, rfl⟩ trivial
      subst hia
      rw [List.take_length, hl, List.take_length] at hp
      simp [hp]
    · have hia : i < a.length := by simpa using ht
      refine Need.mk (by omega) ?_
      refine Row.mk _ (map_get _ a i hia) ?_
      refine Need.mk (by omega) ?_
      refine Row.mk _ (map_get _ b i (by omega)) ?_
      refine ACall.mk _ _ (laws_eqRun a[i] (b[i]'(by omega))) ?_
      refine Split.mk fun t ht2 => ?_
      cases t
      · refine Need.mk rfl ?_
        refine Need.mk ⟨[], _, .same, fin ?_, rfl⟩ trivial
        have : a[i] ≠ b[i]'(by omega) := by simpa using ht2
        refine (decide_eq_false fun e => this ?_).symm
        subst e; rfl
      · refine Need.mk rfl ?_
        refine Num.mk _ (wrapS (by omega)) ?_
        refine ⟨a.length - (i + 1), _, by omega, Weak.nrm [true, true, false, false, true, true] [] rfl rfl rfl, i + 1, by omega, rfl, ?_, rfl⟩
        have : a[i] = b[i]'(by omega) := by simpa using ht2
        rw [List.take_succ_eq_append_getElem hia, List.take_succ_eq_append_getElem (by omega), hp, this]
  · refine Need.mk ⟨[], _, .same, fin ?_, rfl⟩ trivial
    have : a.length ≠ b.length := by
      intro e; simp [e] at ht
    exact (decide_eq_false fun e => this (by rw [e])).symm
end Go.Proofs.Ytlmdheeammfihaa

namespace Go.Proofs.Ytlmdheeammfihaa
open Go Go.Proofs Ev
set_option maxRecDepth 100000
set_option linter.unusedSimpArgs false
set_option linter.unusedVariables false
theorem laws_eqRunSS (a b : List (List Rn)) : AFn Try.prog 99 [sl (a.map encL), sl (b.map encL)] [] (rb (decide (a = b))) [] := by
  refine AFn.introX (E := En 0 md0) (en_ok 0 md0) Try.func99 rfl rfl rfl fun hs _ => ?_
  have ha := Small.len (hs _ (List.mem_cons_self ..))
  rw [List.length_map] at ha
  have fin : ∀ {c : Bool}, c = decide (a = b) → rb c = rb (decide (a = b)) := fun h => by rw [h]
  refine Split.mk fun t ht => ?_
  cases t
  · have hl : a.length = b.length := Int.ofNat_inj.1 (by simpa using ht)
    refine ALoop.mk (fun n s => ∃ i : Nat, i ≤ a.length ∧ n = a.length - i ∧ a.take i = b.take i ∧
      s = ⟨some (sl (a.map encL)) :: some (sl (b.map encL)) :: none :: none :: some (av (.bool false)) :: some (av (.int .i64 i)) :: List.replicate 21 none, List.replicate 27 absent⟩)
      ⟨a.length, _, Weak.nrm [true, true, false, false, true, true] [] rfl rfl rfl, 0, Nat.zero_le _, rfl, rfl, rfl⟩ ?_
    rintro n s ⟨i, hi, rfl, hp, rfl⟩
    refine Split.mk fun t ht => ?_
    cases t
    · have hia : i = a.length := by simp at ht; omega
      refine Need.mk ⟨[], _, .same, fin ?_, rfl⟩ trivial
      subst hia
      rw [List.take_length, hl, List.take_length] at hp
      simp [hp]
    · have hia : i < a.length := by simpa using ht
      refine Need.mk (by omega) ?_
      refine Row.mk _ (map_get _ a i hia) ?_
      refine Need.mk (by omega) ?_
      refine Row.mk _ (map_get _ b i (by omega)) ?_
      refine ACall.mk _ _ (laws_eqRunS a[i] (b[i]'(by omega))) ?_
      refine Split.mk fun t ht2 => ?_
      cases t
      · refine Need.mk rfl ?_
        refine Need.mk ⟨[], _, .same, fin ?_, rfl⟩ trivial
        have : a[i] ≠ b[i]'(by omega) := by simpa using ht2
        refine (decide_eq_false fun e => this ?_).symm
        subst e; rfl
      · refine Need.mk rfl ?_
        refine Num.mk _ (wrapS (by omega)) ?_
        refine ⟨a.length - (i + 1), _, by omega, Weak.nrm [true, true, false, false, true, true] [] rfl rfl rfl, i + 1, by omega, rfl, ?_, rfl⟩
        have : a[i] = b[i]'(by omega) := by simpa using ht2
        rw [List.take_succ_eq_append_getElem hia, List.take_succ_eq_append_getElem (by omega), hp, this]
  · refine Need.mk ⟨[], _, .same, fin ?_, rfl⟩ trivial
    have : a.length ≠ b.length := by
      intro e; simp [e] at ht
    exact (decide_eq_false fun e => this (by rw [e])).symm
end Go.Proofs.Ytlmdheeammfihaa

namespace Go.Proofs.Ytlmdheeammfihaa
open Go Go.Proofs Ev
set_option maxRecDepth 100000
set_option linter.unusedSimpArgs false
set_option linter.unusedVariables false
theorem laws_eqIntS (a b : List Int) : AFn Try.prog 100 [sl (a.map encI), sl (b.map encI)] [] (rb (decide (a = b))) [] := by
  refine AFn.introX (E := En 0 md0) (en_ok 0 md0) Try.func100 rfl rfl rfl fun hs _ => ?_
  have ha := Small.len (hs _ (List.mem_cons_self ..))
  rw [List.length_map] at ha
  have fin : ∀ {c : Bool}, c = decide (a = b) → rb c = rb (decide (a = b)) := fun h => by rw [h]
  refine Split.mk fun t ht => ?_
  cases t
  · have hl : a.length = b.length := Int.ofNat_inj.1 (by simpa using ht)
    refine ALoop.mk (fun n s => ∃ i : Nat, i ≤ a.length ∧ n = a.length - i ∧ a.take i = b.take i ∧
      s = ⟨some (sl (a.map encI)) :: some (sl (b.map encI)) :: none :: none :: some (av (.bool false)) :: some (av (.int .i64 i)) :: List.replicate 20 none, List.replicate 26 absent⟩)
      ⟨a.length, _, Weak.nrm [true, true, false, false, true, true] [] rfl rfl rfl, 0, Nat.zero_le _, rfl, rfl, rfl⟩ ?_
    rintro n s ⟨i, hi, rfl, hp, rfl⟩
    refine Split.mk fun t ht => ?_
    cases t
    · have hia : i = a.length := by simp at ht; omega
      refine Need.mk ⟨[], _, .same, fin ?_, rfl⟩ trivial
      subst hia
      rw [List.take_length, hl, List.take_length] at hp
      simp [hp]
    · have hia : i < a.length := by simpa using ht
      refine Need.mk (by omega) ?_
      refine Row.mk _ (map_get _ a i hia) ?_
      refine Need.mk (by omega) ?_
      refine Row.mk _ (map_get _ b i (by omega)) ?_
      refine Split.mk fun t ht2 => ?_
      cases t
      · refine Need.mk rfl ?_
        refine Num.mk _ (wrapS (by omega)) ?_
        refine ⟨a.length - (i + 1), _, by omega, Weak.nrm [true, true, false, false, true, true] [] rfl rfl rfl, i + 1, by omega, rfl, ?_, rfl⟩
        have : a[i] = b[i]'(by omega) := by simpa using ht2
        rw [List.take_succ_eq_append_getElem hia, List.take_succ_eq_append_getElem (by omega), hp, this]
      · refine Need.mk rfl ?_
        refine Need.mk ⟨[], _, .same, fin ?_, rfl⟩ trivial
        have : a[i] ≠ b[i]'(by omega) := by simpa using ht2
        refine (decide_eq_false fun e => this ?_).symm
        subst e; rfl
  · refine Need.mk ⟨[], _, .same, fin ?_, rfl⟩ trivial
    have : a.length ≠ b.length := by
      intro e; simp [e] at ht
    exact (decide_eq_false fun e => this (by rw [e])).symm
end Go.Proofs.Ytlmdheeammfihaa

namespace Go.Proofs.Ytlmdheeammfihaa
open Go Go.Proofs Ev
set_option maxRecDepth 100000
set_option linter.unusedSimpArgs false
set_option linter.unusedVariables false
theorem laws_eqTree (a b : Tre) : AFn Try.prog 37 [.agg (a.enc.map .c), .agg (b.enc.map .c)] [] (rb (decide (a = b))) [] := by
  refine AFn.introX (E := En 0 md0) (en_ok 0 md0) Try.func37 rfl rfl rfl fun _ _ => ?_
  have fin : ∀ {c : Bool}, c = decide (a = b) → rb c = rb (decide (a = b)) := fun h => by rw [h]
  refine Split.mk fun t ht => ?_
  cases t
  · refine ACall.mk _ _ (laws_eqEntryS a.mem b.mem) ?_
    refine Split.mk fun t ht1 => ?_
    cases t
    · exact Need.mk ⟨[], _, .same, fin (by cases a; cases b; simp_all), rfl⟩ trivial
    · refine ACall.mk _ _ (laws_eqRunSS a.levels b.levels) ?_
      refine Split.mk fun t ht2 => ?_
      cases t
      · exact Need.mk ⟨[], _, .same, fin (by cases a; cases b; simp_all), rfl⟩ trivial
      · refine ACall.mk _ _ (laws_eqIntS a.snaps b.snaps) ?_
        refine Split.mk fun t ht3 => ?_
        cases t
        · exact Need.mk ⟨[], _, .same, fin (by cases a; cases b; simp_all), rfl⟩ trivial
        · exact Need.mk ⟨[], _, .same, fin (by cases a; cases b; simp_all), rfl⟩ trivial
  · exact Need.mk ⟨[], _, .same, fin (by cases a; cases b; simp_all), rfl⟩ trivial
end Go.Proofs.Ytlmdheeammfihaa

namespace Go.Proofs.Ytlmdheeammfihaa
open Go Go.Proofs Ev
set_option maxRecDepth 100000
set_option linter.unusedSimpArgs false
set_option linter.unusedVariables false
set_option maxHeartbeats 4000000
theorem cel_ext {a b : Cel} (h1 : a.has = b.has) (h2 : a.text = b.text) (h3 : a.n = b.n) : a = b := by
  cases a; cases b; simp_all
theorem laws_eqCell (a b : Cel) : AFn Try.prog 46 [.agg (a.enc.map .c), .agg (b.enc.map .c)] [] (rb (decide (a = b))) [] := by
  refine AFn.introX (E := En 0 md0) (en_ok 0 md0) Try.func46 rfl rfl rfl fun _ _ => ?_
  refine Split.mk fun t h1 => ?_
  cases t
  · skip
    rw [Bool.not_eq_false', beq_iff_eq] at h1
    refine Split.mk fun t h2 => ?_
    cases t
    · skip
      rw [Bool.not_eq_false', bytes_beq, decide_eq_true_iff] at h2
      refine Split.mk fun t h3 => ?_
      cases t
      · skip
        rw [bne_eq_false_iff_eq] at h3
        exact Need.mk ⟨[], _, .same, congrArg rb (decide_eq_true (cel_ext h1 h2 h3)).symm, rfl⟩ trivial
      · skip
        rw [bne_iff_ne] at h3
        exact Need.mk ⟨[], _, .same, congrArg rb (decide_eq_false fun e => h3 (by rw [e])).symm, rfl⟩ trivial
    · skip
      rw [Bool.not_eq_true', bytes_beq, decide_eq_false_iff_not] at h2
      exact Need.mk ⟨[], _, .same, congrArg rb (decide_eq_false fun e => h2 (by rw [e])).symm, rfl⟩ trivial
  · skip
    rw [Bool.not_eq_true', beq_eq_false_iff_ne] at h1
    exact Need.mk ⟨[], _, .same, congrArg rb (decide_eq_false fun e => h1 (by rw [e])).symm, rfl⟩ trivial
theorem laws_FnExactTreeCell (a : Tre) (key : ByteArray) (seq : Int) (ha : a.Ok) : AFn Try.prog 12 [.agg (a.enc.map .c), av (.string key), av (.int .i64 seq)] [] (rb true) [] := by
  have hSz := laws_szTree a 1048576 ha (Nat.le_refl _)
  by_cases h0 : key.size ≤ 1048576
  · by_cases h1 : a.size ≤ 1048576
    · rw [cut_pos h1] at hSz
      have sa : a.Small := Tre.small h1
      have hz : ∀ l ∈ a.levels, ∀ r ∈ l, r.ents.length ≤ 1099511627776 := fun l hl r hr => Nat.le_trans ((sa.2.2.1 l hl).2 r hr) (by decide)
      have hT := laws_toTree a sa
      have hS := spec_TreeCell a key seq ha (Nat.le_trans sa.2.2.2 (by decide)) hz
      have hI := impl_TreeCell a key seq ha hz
      have hE := laws_eqTree a a
      rw [decide_eq_true rfl] at hE
      have hF1 := frzE (e := 32) a.mem
      have hF2 := frzRR a.levels
      have hF3 := frzI (e := 3) a.snaps
      have hex : ∃ b, cellAll (treeAll a) key seq = b := ⟨_, rfl⟩
      obtain ⟨b, hb⟩ := hex
      rw [hb] at hS hI
      have hC := laws_eqCell b b
      rw [decide_eq_true rfl] at hC
      refine AFn.introX (E := En 0 md0) (en_ok 0 md0) Try.func12 rfl rfl rfl fun _ _ => ?_
      refine Split.mk fun t h1 => ?_
      cases t
      case true => (exfalso; rw [decide_eq_true_iff] at h1; omega)
      rw [decide_eq_false_iff_not] at h1
      refine ACall.mk _ _ hSz ?_
      refine Split.mk fun t h2 => ?_
      cases t
      case true => cases h2
      refine ACall.mk _ _ hT ?_
      refine Fz.mk _ hF1 ?_
      refine Fz.mk _ hF2 ?_
      refine Fz.mk _ hF3 ?_
      refine ACall.mk _ _ hS ?_
      refine Need.mk (⟨ClL.mem (.v (.v (.v .nil))), no_objs⟩) ?_
      refine ACall.mk _ _ hT ?_
      refine Fz.mk _ hF1 ?_
      refine Fz.mk _ hF2 ?_
      refine Fz.mk _ hF3 ?_
      refine ACall.mk _ _ hI ?_
      refine Need.mk (⟨ClL.mem (.v (.v (.v .nil))), no_objs⟩) ?_
      refine ACall.mk _ _ hC ?_
      refine Split.mk fun t h3 => ?_
      cases t
      case false => cases h3
      refine ACall.mk _ _ hT ?_
      refine Fz.mk _ hF1 ?_
      refine Fz.mk _ hF2 ?_
      refine Fz.mk _ hF3 ?_
      refine Fz.mk _ hF1 ?_
      refine Fz.mk _ hF2 ?_
      refine Fz.mk _ hF3 ?_
      refine ACall.mk _ _ hE ?_
      refine Need.mk (⟨ClL.mem (.v .nil), no_objs⟩) ?_
      refine Split.mk fun t h4 => ?_
      cases t
      case false => cases h4
      refine Need.mk (rfl) ?_
      exact Need.mk ⟨[], _, .same, rfl, rfl⟩ trivial
    · rw [cut_neg h1] at hSz
      refine AFn.introX (E := En 0 md0) (en_ok 0 md0) Try.func12 rfl rfl rfl fun _ _ => ?_
      refine Split.mk fun t h1 => ?_
      cases t
      case true => (exfalso; rw [decide_eq_true_iff] at h1; omega)
      rw [decide_eq_false_iff_not] at h1
      refine ACall.mk _ _ hSz ?_
      refine Split.mk fun t h2 => ?_
      cases t
      case false => cases h2
      exact Need.mk ⟨[], _, .same, rfl, rfl⟩ trivial
  · refine AFn.introX (E := En 0 md0) (en_ok 0 md0) Try.func12 rfl rfl rfl fun _ _ => ?_
    refine Split.mk fun t h1 => ?_
    cases t
    case false => (exfalso; rw [decide_eq_false_iff_not] at h1; omega)
    rw [decide_eq_true_iff] at h1
    exact Need.mk ⟨[], _, .same, rfl, rfl⟩ trivial
theorem laws_FnExactTreeCell_any (r0 : List C) (h0 : ShL tyTre r0) (c1 : C) (h1 : Sh .str c1) (c2 : C) (h2 : Sh (.int .i64) c2) : AFn Try.prog 12 [.agg (r0.map .c), .one (.c c1), .one (.c c2)] [] (rb true) [] := by
  obtain ⟨a, rfl, wa⟩ := dec_tre h0
  obtain ⟨k, rfl, _⟩ := h1.str'
  obtain ⟨n, rfl, _⟩ := h2.int'
  exact laws_FnExactTreeCell a k n wa.ok
end Go.Proofs.Ytlmdheeammfihaa
