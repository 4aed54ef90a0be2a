/-
  Contracts of functions, part 5.
-/
import Derived.Test.YtlmdheeammfihaaTFnExactTreeAllD
namespace Go.Proofs.Ytlmdheeammfihaa
open Go Go.Proofs Ev
set_option maxRecDepth 100000
set_option linter.unusedSimpArgs false
set_option linter.unusedVariables false
set_option maxHeartbeats 8000000
theorem impl_TreeAll (t : Tre) (ht : t.Ok) (hz : ∀ l ∈ t.levels, ∀ r ∈ l, r.ents.length ≤ 1099511627776) : AFn Try.prog 39 [.agg (t.enc.map .c)] [] (.one (.us 32 ((treeAll t).map Ent.enc))) [] := by
  have hO := impl_TreeOk t ht hz
  cases hb : treeOk t with
  | false =>
    rw [hb] at hO
    rw [treeAll_bad hb]
    refine AFn.introX (E := En 0 md0) (en_ok 0 _ _ _ _ _) Try.func39 rfl rfl rfl fun _ _ => ?_
    refine ACall.mk _ _ hO ?_
    refine Split.mk fun t h1 => ?_
    cases t
    case true => cases h1
    exact Need.mk ⟨[false], _, (.nil (pos_of tab_ok (t := 32) rfl) .same), rfl, rfl⟩ trivial
  | true =>
    rw [hb] at hO
    obtain ⟨l0, l1, l2, he, h3⟩ := treeOk_levels hb
    rw [treeAll_ok he hb]
    have hle := allE_le h3
    obtain ⟨_, _, _, _, _, b0, b1, b2, _⟩ := treeOk3_iff.1 h3
    have hLy := impl_layersOf t.levels t.mem (by rw [he]; simp) fun r hr => by
      rw [he, List.mem_cons, List.mem_cons, List.mem_singleton] at hr
      rcases hr with h | h | h <;> subst h
      · exact Nat.le_trans (levB_ok b0).1 (by decide)
      · exact Nat.le_trans (levB_ok b1).1 (by decide)
      · exact Nat.le_trans (levB_ok b2).1 (by decide)
    have hly : (t.levels.reverse.map (·.map Rn.ents)).flatten ++ [t.mem] = layers l0 l1 l2 t.mem := by
      rw [he]; unfold layers; simp
    rw [hly] at hLy
    have hM := impl_MergeAll (layers l0 l1 l2 t.mem) (by have := hle.1; unfold allE at this; omega) (by omega)
    refine AFn.introX (E := En 0 md0) (en_ok 0 _ _ _ _ _) Try.func39 rfl rfl rfl fun _ _ => ?_
    refine ACall.mk _ _ hO ?_
    refine Split.mk fun t h1 => ?_
    cases t
    case false => cases h1
    refine ACall.mk _ _ hLy ?_
    refine Fz.mk _ (frzXX _) ?_
    refine ACall.mk _ _ hM ?_
    refine Need.mk (⟨ClL.mem (.us (clE _) .nil), no_objs⟩) ?_
    exact Need.mk ⟨[], _, .same, rfl, rfl⟩ trivial
theorem spec_TreeAll (t : Tre) (ht : t.Ok) (hsn : t.snaps.length ≤ 1099511627776) (hz : ∀ l ∈ t.levels, ∀ r ∈ l, r.ents.length ≤ 1099511627776) : AFn Try.prog 38 [.agg (t.enc.map .c)] [] (.one (.us 32 ((treeAll t).map Ent.enc))) [] := by
  have hO := spec_TreeOk t ht hsn hz
  cases hb : treeOk t with
  | false =>
    rw [hb] at hO
    rw [treeAll_bad hb]
    refine AFn.introX (E := En 0 md0) (en_ok 0 _ _ _ _ _) Try.func38 rfl rfl rfl fun _ _ => ?_
    refine ACall.mk _ _ hO ?_
    refine Split.mk fun t h1 => ?_
    cases t
    case true => cases h1
    exact Need.mk ⟨[], _, .same, rfl, rfl⟩ trivial
  | true =>
    rw [hb] at hO
    obtain ⟨l0, l1, l2, he, h3⟩ := treeOk_levels hb
    rw [treeAll_ok he hb]
    have hle := allE_le h3
    obtain ⟨_, _, _, _, _, b0, b1, b2, _⟩ := treeOk3_iff.1 h3
    have k1 := levB_ok b1
    have k2 := levB_ok b2
    have k0 := levB_ok b0
    have hP := spec_l5Parts t.seq t.mem l0 l1 l2 t.snaps (by omega) (by omega) (by omega) (fun r hr => by have := runOk_len (k1.2 r hr); omega) (fun r hr => by have := runOk_len (k2.2 r hr); omega)
    have htt : (Tre.mk t.seq t.mem [l0, l1, l2] t.snaps) = t := by rw [← he]
    rw [htt] at hP
    have hF : (Frz (.us 23 ((t.mem :: (l0.map Rn.ents).reverse).map encX ++ [flatR' l1, flatR' l2].map encXO)) (.sl ((parts3 l0 l1 l2 t.mem).map encX))) := frzM (t.mem :: (l0.map Rn.ents).reverse) [flatR' l1, flatR' l2]
    have hpp := parts_perm l0 l1 l2 t.mem
    have hM := spec_MergeAll (parts3 l0 l1 l2 t.mem) (by rw [← hpp.length_eq]; omega) (by unfold parts3; simp only [List.length_cons, List.length_append, List.length_reverse, List.length_map, List.length_nil]; omega)
    rw [← isort_uniq hpp (treeOk_dif h3)] at hM
    refine AFn.introX (E := En 0 md0) (en_ok 0 _ _ _ _ _) Try.func38 rfl rfl rfl fun _ _ => ?_
    refine ACall.mk _ _ hO ?_
    refine Split.mk fun t h1 => ?_
    cases t
    case false => cases h1
    refine ACall.mk _ _ hP ?_
    refine Fz.mk _ hF ?_
    refine ACall.mk _ _ hM ?_
    refine Need.mk (⟨ClL.mem (.us (clE _) .nil), no_objs⟩) ?_
    exact Need.mk ⟨[], _, .same, rfl, rfl⟩ trivial
theorem impl_TreeCell (t : Tre) (key : ByteArray) (seq : Int) (ht : t.Ok) (hz : ∀ l ∈ t.levels, ∀ r ∈ l, r.ents.length ≤ 1099511627776) : AFn Try.prog 45 [.agg (t.enc.map .c), av (.string key), av (.int .i64 seq)] [] (.agg (cellAll (treeAll t) key seq).enc) [] := by
  have hA := impl_TreeAll t ht hz
  have hC := impl_CellAll (treeAll t) key seq (Nat.le_trans (treeAll_le t) (by decide))
  refine AFn.introX (E := En 0 md0) (en_ok 0 _ _ _ _ _) Try.func45 rfl rfl rfl fun _ _ => ?_
  refine ACall.mk _ _ hA ?_
  refine Fz.mk _ (frzE _) ?_
  refine ACall.mk _ _ hC ?_
  refine Need.mk (⟨ClL.mem (.v (.v (.v .nil))), no_objs⟩) ?_
  exact Need.mk ⟨[], _, .same, rfl, rfl⟩ trivial
theorem spec_l5Cell (t : Tre) (key : ByteArray) (seq : Int) (l0 l1 l2 : List Rn) (he : t.levels = [l0, l1, l2]) (hb : treeOk t = true) : AFn Try.prog 106 [.agg (t.enc.map .c), av (.string key), av (.int .i64 seq)] [] (.agg (cellAll (treeAll t) key seq).enc) [] := by
  have h3 : treeOk3 t.seq t.mem l0 l1 l2 t.snaps = true := by
    have : treeOk t = treeOk3 t.seq t.mem l0 l1 l2 t.snaps := by unfold treeOk; rw [he]
    rw [← this]; exact hb
  obtain ⟨_, _, hm60, _, _, b0, b1, b2, _⟩ := treeOk3_iff.1 h3
  have k0 := levB_ok b0
  have k1 := levB_ok b1
  have k2 := levB_ok b2
  have hF := spec_l4Find t.mem key seq (by omega)
  refine AFn.introX (E := En 0 md0) (en_ok 0 _ _ _ _ _) Try.func106 rfl rfl rfl fun _ _ => ?_
  refine ACall.mk _ _ hF ?_
  have hlv : ∀ k, k < 3 → (t.levels.map encL)[k]? = some (encL ([l0, l1, l2].getD k [])) := fun k hk => by
    rw [he]
    have h012 : k = 0 ∨ k = 1 ∨ k = 2 := by omega
    rcases h012 with h | h | h <;> subst h <;> rfl
  have hln : (t.levels.map encL).length = 3 := by rw [he]; rfl
  have hxl : ∀ k, k < 3 → ([l0, l1, l2].getD k []).length ≤ 8 ∧ ∀ r ∈ [l0, l1, l2].getD k [], runOk r = true := fun k hk => by
    have h012 : k = 0 ∨ k = 1 ∨ k = 2 := by omega
    rcases h012 with h | h | h <;> subst h
    · exact ⟨Nat.le_trans k0.1 (by decide), k0.2⟩
    · exact k1
    · exact k2
  have hlen : ∀ k i, (findE (lookL [l0, l1, l2] t.mem k i) key seq).length ≤ 1048576 := fun k i => by
    have := findE_len (lookL [l0, l1, l2] t.mem k i) key seq
    have h2 : (lookL [l0, l1, l2] t.mem k i).length ≤ 60 + 4 * 8 * 150 := lookL_le (b := 8) (c := 150) (by simp) (by
      intro l hl
      rw [List.mem_cons, List.mem_cons, List.mem_singleton] at hl
      have kk : ∀ {l : List Rn}, (l.length ≤ 8 ∧ ∀ r ∈ l, runOk r = true) → l.length ≤ 8 ∧ ∀ r ∈ l, r.ents.length ≤ 150 := fun h => ⟨h.1, fun r hr => (runOk_len (h.2 r hr)).2.1⟩
      rcases hl with h | h | h <;> subst h
      · exact kk ⟨Nat.le_trans k0.1 (by decide), k0.2⟩
      · exact kk k1
      · exact kk k2) hm60 k i
    omega
  let S : List (List C) → Nat → St := fun R k => ⟨none :: some (av (.string key)) :: some (av (.int .i64 seq)) :: some (.bx 3 0) :: none :: none :: some (.bx 6 0) :: some (.one (.ref 7 0 (.cell 0))) :: some (av (.int .i64 k)) :: List.replicate 60 none, absent :: absent :: absent :: ⟨0, 0, some t.enc⟩ :: absent :: absent :: ⟨0, 0, some [vb false, vs ⟨#[]⟩, vi 0]⟩ :: ⟨0, 1, some [.us 32 R]⟩ :: List.replicate 61 absent⟩
  refine ALoop.mk (fun m s => ∃ k : Nat, k ≤ 3 ∧ m = 3 - k ∧ s = S ((findE (lookL [l0, l1, l2] t.mem k 0) key seq).map Ent.enc) k)
    ⟨_, _, Weak.nrm [false, true, true, true, false, false, true, true, true] [(3, 3), (6, 6), (15, 7)] rfl rfl rfl, 0, Nat.zero_le _, rfl, by rw [lookL_zero]; rfl⟩ ?_
  rintro m s ⟨k, hk, rfl, hs⟩
  by_cases hkn : k = 3
  · have hfin := treeCell_look he hb key seq
    have hfl := hlen 3 0
    rw [hkn] at hs
    have hC := spec_CellAll (findE (lookL [l0, l1, l2] t.mem 3 0) key seq) key seq hfl
    rw [hfin] at hC
    have hex : ∃ G, findE (lookL [l0, l1, l2] t.mem 3 0) key seq = G := ⟨_, rfl⟩
    obtain ⟨G, hG⟩ := hex
    rw [hG] at hC hs
    subst hs
    refine Split.mk fun t h1 => ?_
    cases t
    case true => (exfalso; rw [decide_eq_true_iff] at h1; omega)
    rw [decide_eq_false_iff_not] at h1
    refine Fz.mk _ (frzE _) ?_
    refine ACall.mk _ _ hC ?_
    refine Need.mk (⟨ClL.mem (.v (.v (.v .nil))), no_objs⟩) ?_
    exact Need.mk ⟨[], _, .same, rfl, rfl⟩ trivial
  · have hk3 : k < 3 := by omega
    have hrow := hlv k hk3
    obtain ⟨hx8, hxr⟩ := hxl k hk3
    have hlz := hlen k
    have hnext := lookL_next (levels := [l0, l1, l2]) (mem := t.mem) (k := k) hk3
    have hstep := fun i h => lookL_step (levels := [l0, l1, l2]) (mem := t.mem) (k := k) (i := i) h
    have hex : ∃ xs, [l0, l1, l2].getD k [] = xs := ⟨_, rfl⟩
    obtain ⟨xs, hxs⟩ := hex
    rw [hxs] at hrow hx8 hxr hnext
    simp only [hxs] at hstep
    have hxn : (xs.map Rn.enc).length = xs.length := List.length_map ..
    subst hs
    refine Split.mk fun t h1 => ?_
    cases t
    case false => (exfalso; rw [decide_eq_false_iff_not] at h1; omega)
    rw [decide_eq_true_iff] at h1
    let S1 : List (List C) → Nat → St := fun R i => ⟨none :: some (av (.string key)) :: some (av (.int .i64 seq)) :: some (.bx 3 0) :: none :: none :: some (.bx 6 0) :: some (.one (.ref 7 0 (.cell 0))) :: some (av (.int .i64 k)) :: some (av (.int .i64 i)) :: List.replicate 59 none, absent :: absent :: absent :: ⟨0, 0, some t.enc⟩ :: absent :: absent :: ⟨0, 0, some [vb false, vs ⟨#[]⟩, vi 0]⟩ :: ⟨0, 1, some [.us 32 R]⟩ :: List.replicate 61 absent⟩
    refine ALoop.mk (fun m s => ∃ i : Nat, i ≤ xs.length ∧ m = xs.length - i ∧ s = S1 ((findE (lookL [l0, l1, l2] t.mem k i) key seq).map Ent.enc) i)
      ⟨_, _, Weak.nrm [false, true, true, true, false, false, true, true, true, true] [(3, 3), (6, 6), (7, 7)] rfl rfl rfl, 0, Nat.zero_le _, rfl, rfl⟩ ?_
    rintro m s ⟨i, hi, rfl, hs⟩
    by_cases hin : i = xs.length
    · rw [hin, hnext] at hs
      subst hs
      refine Need.mk (by omega) ?_
      refine Row.mk _ hrow ?_
      refine Split.mk fun t h1 => ?_
      cases t
      case true => (exfalso; rw [decide_eq_true_iff] at h1; omega)
      rw [decide_eq_false_iff_not] at h1
      refine Num.mk _ (wrapS (by omega)) ?_
      exact ⟨_, _, by omega, Weak.nrm [false, true, true, true, false, false, true, true, true] [(3, 3), (6, 6), (7, 7)] rfl rfl rfl, k + 1, by omega, rfl, rfl⟩
    · have hia : i < xs.length := by omega
      have hro := hxr _ (List.getElem_mem hia)
      have hst := hstep i hia
      have hfa := findE_app (lookL [l0, l1, l2] t.mem k i) xs[i].ents key seq
      rw [← hst] at hfa
      have hll := hlz i
      have hout : (slt key (lowK xs[i]) = true ∨ slt (highK xs[i]) key = true) → findE xs[i].ents key seq = [] := fun h => findE_out hro h seq
      have hrol := runOk_len hro
      obtain ⟨n1, n2, _, _⟩ := hrol
      have hex : ∃ r, xs[i] = r := ⟨_, rfl⟩
      obtain ⟨r, hr⟩ := hex
      have hrr : (xs.map Rn.enc)[i]? = some r.enc := by rw [map_get _ xs i hia, hr]
      rw [hr] at hro hfa n1 n2 hout
      have hF2 := spec_l4Find r.ents key seq (by omega)
      have hf2 := findE_len r.ents key seq
      have hrn : (r.ents.map Ent.enc).length = r.ents.length := List.length_map ..
      have hg0 := map_getD Ent.enc r.ents 0 ent0 (by omega)
      have hg1 := map_getD Ent.enc r.ents (r.ents.length - 1) ent0 (by omega)
      have hsub : IntKind.i64.wrap (((r.ents.map Ent.enc).length : Int) - 1) = ((r.ents.length - 1 : Nat) : Int) := wrapI' (by omega) (by omega)
      have hex : ∃ G, findE (lookL [l0, l1, l2] t.mem k i) key seq = G := ⟨_, rfl⟩
      obtain ⟨G, hG⟩ := hex
      rw [hG] at hfa hs hll
      by_cases c1 : slt key (lowK r) = true
      · rw [hout (.inl c1), List.append_nil] at hfa
        subst hs
        refine Need.mk (by omega) ?_
        refine Row.mk _ hrow ?_
        refine Split.mk fun t h1 => ?_
        cases t
        case false => (exfalso; rw [decide_eq_false_iff_not] at h1; omega)
        rw [decide_eq_true_iff] at h1
        refine Need.mk (by omega) ?_
        refine Row.mk _ hrow ?_
        refine Need.mk (by omega) ?_
        refine Row.mk _ hrr ?_
        refine Need.mk (by omega) ?_
        refine Row.mk _ hg0 ?_
        refine Split.mk fun t h2 => ?_
        cases t
        case true => (exfalso; rw [Bool.not_eq_true'] at h2; exact Bool.noConfusion (h2.symm.trans (‹_› : _ = true)))
        rw [Bool.not_eq_false'] at h2
        refine Num.mk _ (wrapS (by omega)) ?_
        exact ⟨_, _, by omega, Weak.nrm [false, true, true, true, false, false, true, true, true, true] [(3, 3), (6, 6), (7, 7)] rfl rfl rfl, i + 1, by omega, rfl, Eq.trans (b := S1 (G.map Ent.enc) (i + 1)) rfl (by rw [hfa])⟩
      · rw [Bool.not_eq_true] at c1
        by_cases c2 : slt (highK r) key = true
        · rw [hout (.inr c2), List.append_nil] at hfa
          subst hs
          refine Need.mk (by omega) ?_
          refine Row.mk _ hrow ?_
          refine Split.mk fun t h1 => ?_
          cases t
          case false => (exfalso; rw [decide_eq_false_iff_not] at h1; omega)
          rw [decide_eq_true_iff] at h1
          refine Need.mk (by omega) ?_
          refine Row.mk _ hrow ?_
          refine Need.mk (by omega) ?_
          refine Row.mk _ hrr ?_
          refine Need.mk (by omega) ?_
          refine Row.mk _ hg0 ?_
          refine Split.mk fun t h2 => ?_
          cases t
          case false => (exfalso; rw [Bool.not_eq_false'] at h2; exact Bool.noConfusion (h2.symm.trans (‹_› : _ = false)))
          rw [Bool.not_eq_true'] at h2
          refine Num.mk _ hsub ?_
          refine Need.mk (by omega) ?_
          refine Row.mk _ hg1 ?_
          refine Split.mk fun t h3 => ?_
          cases t
          case true => (exfalso; rw [str_le, Bool.not_eq_true'] at h3; exact Bool.noConfusion (h3.symm.trans (‹_› : _ = true)))
          rw [str_le, Bool.not_eq_false'] at h3
          refine Num.mk _ (wrapS (by omega)) ?_
          exact ⟨_, _, by omega, Weak.nrm [false, true, true, true, false, false, true, true, true, true] [(3, 3), (6, 6), (7, 7)] rfl rfl rfl, i + 1, by omega, rfl, Eq.trans (b := S1 (G.map Ent.enc) (i + 1)) rfl (by rw [hfa])⟩
        · rw [Bool.not_eq_true] at c2
          subst hs
          refine Need.mk (by omega) ?_
          refine Row.mk _ hrow ?_
          refine Split.mk fun t h1 => ?_
          cases t
          case false => (exfalso; rw [decide_eq_false_iff_not] at h1; omega)
          rw [decide_eq_true_iff] at h1
          refine Need.mk (by omega) ?_
          refine Row.mk _ hrow ?_
          refine Need.mk (by omega) ?_
          refine Row.mk _ hrr ?_
          refine Need.mk (by omega) ?_
          refine Row.mk _ hg0 ?_
          refine Split.mk fun t h2 => ?_
          cases t
          case false => (exfalso; rw [Bool.not_eq_false'] at h2; exact Bool.noConfusion (h2.symm.trans (‹_› : _ = false)))
          rw [Bool.not_eq_true'] at h2
          refine Num.mk _ hsub ?_
          refine Need.mk (by omega) ?_
          refine Row.mk _ hg1 ?_
          refine Split.mk fun t h3 => ?_
          cases t
          case false => (exfalso; rw [str_le, Bool.not_eq_false'] at h3; exact Bool.noConfusion (h3.symm.trans (‹_› : _ = false)))
          rw [str_le, Bool.not_eq_true'] at h3
          refine ACall.mk _ _ hF2 ?_
          refine Need.mk ((plainE _)) ?_
          refine Need.mk (appEq (A' := _) (B' := _) rfl rfl (by simp only [List.length_append, List.length_map, List.length_take, List.length_drop, List.length_cons, List.length_nil, List.length_reverse, List.length_replicate, List.length_set]; omega) (by decide)) ?_
          refine Num.mk _ (wrapS (by omega)) ?_
          exact ⟨_, _, by omega, Weak.nrm [false, true, true, true, false, false, true, true, true, true] [(3, 3), (6, 6), (64, 7)] rfl rfl rfl, i + 1, by omega, rfl, Eq.trans (b := S1 (G.map Ent.enc ++ (findE r.ents key seq).map Ent.enc) (i + 1)) rfl (by rw [hfa, List.map_append])⟩
theorem spec_TreeCell (t : Tre) (key : ByteArray) (seq : Int) (ht : t.Ok) (hsn : t.snaps.length ≤ 1099511627776) (hz : ∀ l ∈ t.levels, ∀ r ∈ l, r.ents.length ≤ 1099511627776) : AFn Try.prog 44 [.agg (t.enc.map .c), av (.string key), av (.int .i64 seq)] [] (.agg (cellAll (treeAll t) key seq).enc) [] := by
  have hO := spec_TreeOk t ht hsn hz
  cases hb : treeOk t with
  | false =>
    rw [hb] at hO
    rw [treeAll_bad hb]
    refine AFn.introX (E := En 0 md0) (en_ok 0 _ _ _ _ _) Try.func44 rfl rfl rfl fun _ _ => ?_
    refine ACall.mk _ _ hO ?_
    refine Split.mk fun t h1 => ?_
    cases t
    case true => cases h1
    exact Need.mk ⟨[], _, .same, rfl, rfl⟩ trivial
  | true =>
    rw [hb] at hO
    have hlv := treeOk_levels hb
    obtain ⟨l0, l1, l2, he, _⟩ := hlv
    have hC := spec_l5Cell t key seq l0 l1 l2 he hb
    refine AFn.introX (E := En 0 md0) (en_ok 0 _ _ _ _ _) Try.func44 rfl rfl rfl fun _ _ => ?_
    refine ACall.mk _ _ hO ?_
    refine Split.mk fun t h1 => ?_
    cases t
    case false => cases h1
    refine ACall.mk _ _ hC ?_
    exact Need.mk ⟨[], _, .same, rfl, rfl⟩ trivial
end Go.Proofs.Ytlmdheeammfihaa

namespace Go.Proofs.Ytlmdheeammfihaa
open Go Go.Proofs Ev
set_option maxRecDepth 100000
set_option linter.unusedSimpArgs false
set_option linter.unusedVariables false
theorem laws_szEntry (e : Ent) (left : Nat) (he : e.Ok) (hl : left ≤ 1048576) : AFn Try.prog 137 [.agg (e.enc.map .c), av (.int .i64 left)] [] (.one (vi (cut e.size left))) [] := by
  refine AFn.introX (E := En 0 md0) (en_ok 0 md0) Try.func137 rfl rfl rfl fun _ _ => ?_
  obtain ⟨h1, h2⟩ := he
  have he : e.size = e.key.size + e.text.size := rfl
  unfold maxLen at h1 h2
  have fin : ∀ {z : Int}, z = cut e.size left → RV.one (vi z) = RV.one (vi (cut e.size left)) := fun h => by rw [h]
  refine Num.mk ((left : Int) - e.key.size) (by rw [IntKind.wrap_i64]; omega) ?_
  refine Split.mk fun t ht => ?_
  cases t
  · have h3 : e.key.size ≤ left := by simp at ht; omega
    refine Num.mk ((left : Int) - e.key.size - e.text.size) (by rw [IntKind.wrap_i64]; omega) ?_
    refine Split.mk fun t ht => ?_
    cases t
    · have h4 : e.size ≤ left := by simp at ht; omega
      exact Need.mk ⟨[], _, .same, fin (by rw [cut_pos h4]; omega), rfl⟩ trivial
    · have h4 : ¬ e.size ≤ left := by simp at ht; omega
      exact Need.mk ⟨[], _, .same, fin (by rw [cut_neg h4]), rfl⟩ trivial
  · have h4 : ¬ e.size ≤ left := by simp at ht; omega
    exact Need.mk ⟨[], _, .same, fin (by rw [cut_neg h4]), rfl⟩ trivial
theorem laws_szEntryS (xs : List Ent) (left : Nat) (he : OkE xs) (hl : left ≤ 1048576) : AFn Try.prog 85 [sl (xs.map Ent.enc), av (.int .i64 left)] [] (.one (vi (cut (sizeE xs) left))) [] := by
  refine AFn.introX (E := En 0 md0) (en_ok 0 md0) Try.func85 rfl rfl rfl fun hs _ => ?_
  have hn : (xs.map Ent.enc).length = xs.length := List.length_map ..
  have hx := Small.len (hs _ (List.mem_cons_self ..))
  rw [hn] at hx
  have hz : sizeE xs = xs.length + (xs.map Ent.size).sum := rfl
  have fin : ∀ {z : Int}, z = cut (sizeE xs) left → RV.one (vi z) = RV.one (vi (cut (sizeE xs) left)) := fun h => by rw [h]
  refine Num.mk ((left : Int) - xs.length) (by rw [hn, IntKind.wrap_i64]; omega) ?_
  refine Split.mk fun t ht => ?_
  cases t
  · have h3 : xs.length ≤ left := by simp at ht; omega
    refine ALoop.mk (fun m s => ∃ (i r : Nat), i ≤ xs.length ∧ m = xs.length - i ∧ xs.length + ((xs.take i).map Ent.size).sum + r = left ∧
        s = ⟨some (sl (xs.map Ent.enc)) :: some (av (.int .i64 r)) :: none :: none :: none :: some (av (.int .i64 i)) :: List.replicate 21 none, List.replicate 27 absent⟩)
      ⟨xs.length, _, Weak.nrm [true, true, false, false, false, true] [] rfl rfl rfl, 0, left - xs.length, Nat.zero_le _, rfl, by simp; omega, ?_⟩ ?_
    · rw [show ((left - xs.length : Nat) : Int) = (left : Int) - xs.length by omega]; rfl
    rintro m s ⟨i, r, hi, rfl, hr, rfl⟩
    refine Split.mk fun t ht => ?_
    rw [hn] at ht
    cases t
    · have hin : i = xs.length := by simp at ht; omega
      subst hin
      rw [List.take_length] at hr
      exact Need.mk ⟨[], _, .same, fin (by rw [cut_pos (by omega)]; omega), rfl⟩ trivial
    · have hia : i < xs.length := by simpa using ht
      have hsum := sum_take Ent.size xs hia
      have hle := sum_take_le Ent.size xs (i + 1)
      refine Need.mk (by omega) ?_
      refine Row.mk _ (map_get _ xs i hia) ?_
      refine ACall.mk _ _ (laws_szEntry xs[i] r (he _ (List.getElem_mem _)) (by omega)) ?_
      refine Split.mk fun t ht => ?_
      rw [cut_lt] at ht
      cases t
      · have h4 : xs[i].size ≤ r := by simpa using ht
        refine Num.mk _ (wrapS (by omega)) ?_
        refine ⟨xs.length - (i + 1), _, by omega, Weak.nrm [true, true, false, false, false, true] [] rfl rfl rfl, i + 1, r - xs[i].size, by omega, rfl, by omega, ?_⟩
        rw [← cut_pos h4]; rfl
      · have h4 : ¬ xs[i].size ≤ r := by simpa using ht
        exact Need.mk ⟨[], _, .same, fin (by rw [cut_neg (by omega)]), rfl⟩ trivial
  · have h4 : ¬ sizeE xs ≤ left := by simp at ht; omega
    exact Need.mk ⟨[], _, .same, fin (by rw [cut_neg h4]), rfl⟩ trivial
end Go.Proofs.Ytlmdheeammfihaa

namespace Go.Proofs.Ytlmdheeammfihaa
open Go Go.Proofs Ev
set_option maxRecDepth 100000
set_option linter.unusedSimpArgs false
set_option linter.unusedVariables false
theorem laws_szRun (r : Rn) (left : Nat) (he : OkE r.ents) (hl : left ≤ 1048576) : AFn Try.prog 166 [.agg (r.enc.map .c), av (.int .i64 left)] [] (.one (vi (cut (sizeE r.ents) left))) [] := by
  refine AFn.introX (E := En 0 md0) (en_ok 0 md0) Try.func166 rfl rfl rfl fun _ _ => ?_
  refine ACall.mk _ _ (laws_szEntryS r.ents left he hl) ?_
  refine Split.mk fun t ht => ?_
  rw [cut_lt] at ht
  cases t
  · exact Need.mk ⟨[], _, .same, rfl, rfl⟩ trivial
  · exact Need.mk ⟨[], _, .same, by rw [cut_neg (by simpa using ht)]; rfl, rfl⟩ trivial
theorem laws_szRunS (xs : List Rn) (left : Nat) (he : OkR xs) (hl : left ≤ 1048576) : AFn Try.prog 138 [sl (xs.map Rn.enc), av (.int .i64 left)] [] (.one (vi (cut (sizeR xs) left))) [] := by
  refine AFn.introX (E := En 0 md0) (en_ok 0 md0) Try.func138 rfl rfl rfl fun hs _ => ?_
  have hn : (xs.map Rn.enc).length = xs.length := List.length_map ..
  have hx := Small.len (hs _ (List.mem_cons_self ..))
  rw [hn] at hx
  have hz : sizeR xs = xs.length + (xs.map (fun r : Rn => sizeE r.ents)).sum := rfl
  have fin : ∀ {z : Int}, z = cut (sizeR xs) left → RV.one (vi z) = RV.one (vi (cut (sizeR xs) left)) := fun h => by rw [h]
  refine Num.mk ((left : Int) - xs.length) (by rw [hn, IntKind.wrap_i64]; omega) ?_
  refine Split.mk fun t ht => ?_
  cases t
  · have h3 : xs.length ≤ left := by simp at ht; omega
    refine ALoop.mk (fun m s => ∃ (i r : Nat), i ≤ xs.length ∧ m = xs.length - i ∧ xs.length + ((xs.take i).map (fun r : Rn => sizeE r.ents)).sum + r = left ∧
        s = ⟨some (sl (xs.map Rn.enc)) :: some (av (.int .i64 r)) :: none :: none :: none :: some (av (.int .i64 i)) :: List.replicate 21 none, List.replicate 27 absent⟩)
      ⟨xs.length, _, Weak.nrm [true, true, false, false, false, true] [] rfl rfl rfl, 0, left - xs.length, Nat.zero_le _, rfl, by simp; omega, ?_⟩ ?_
    · rw [show ((left - xs.length : Nat) : Int) = (left : Int) - xs.length by omega]; rfl
    rintro m s ⟨i, r, hi, rfl, hr, rfl⟩
    refine Split.mk fun t ht => ?_
    rw [hn] at ht
    cases t
    · have hin : i = xs.length := by simp at ht; omega
      subst hin
      rw [List.take_length] at hr
      exact Need.mk ⟨[], _, .same, fin (by rw [cut_pos (by omega)]; omega), rfl⟩ trivial
    · have hia : i < xs.length := by simpa using ht
      have hsum := sum_take (fun r : Rn => sizeE r.ents) xs hia
      have hle := sum_take_le (fun r : Rn => sizeE r.ents) xs (i + 1)
      refine Need.mk (by omega) ?_
      refine Row.mk _ (map_get _ xs i hia) ?_
      refine ACall.mk _ _ (laws_szRun xs[i] r (he _ (List.getElem_mem _)) (by omega)) ?_
      refine Split.mk fun t ht => ?_
      rw [cut_lt] at ht
      cases t
      · have h4 : (sizeE xs[i].ents) ≤ r := by simpa using ht
        refine Num.mk _ (wrapS (by omega)) ?_
        refine ⟨xs.length - (i + 1), _, by omega, Weak.nrm [true, true, false, false, false, true] [] rfl rfl rfl, i + 1, r - (sizeE xs[i].ents), by omega, rfl, by omega, ?_⟩
        rw [← cut_pos h4]; rfl
      · have h4 : ¬ (sizeE xs[i].ents) ≤ r := by simpa using ht
        exact Need.mk ⟨[], _, .same, fin (by rw [cut_neg (by omega)]), rfl⟩ trivial
  · have h4 : ¬ sizeR xs ≤ left := by simp at ht; omega
    exact Need.mk ⟨[], _, .same, fin (by rw [cut_neg h4]), rfl⟩ trivial
theorem laws_szRunSS (xs : List (List Rn)) (left : Nat) (he : OkRR xs) (hl : left ≤ 1048576) : AFn Try.prog 86 [sl (xs.map encL), av (.int .i64 left)] [] (.one (vi (cut (sizeRR xs) left))) [] := by
  refine AFn.introX (E := En 0 md0) (en_ok 0 md0) Try.func86 rfl rfl rfl fun hs _ => ?_
  have hn : (xs.map encL).length = xs.length := List.length_map ..
  have hx := Small.len (hs _ (List.mem_cons_self ..))
  rw [hn] at hx
  have hz : sizeRR xs = xs.length + (xs.map sizeR).sum := rfl
  have fin : ∀ {z : Int}, z = cut (sizeRR xs) left → RV.one (vi z) = RV.one (vi (cut (sizeRR xs) left)) := fun h => by rw [h]
  refine Num.mk ((left : Int) - xs.length) (by rw [hn, IntKind.wrap_i64]; omega) ?_
  refine Split.mk fun t ht => ?_
  cases t
  · have h3 : xs.length ≤ left := by simp at ht; omega
    refine ALoop.mk (fun m s => ∃ (i r : Nat), i ≤ xs.length ∧ m = xs.length - i ∧ xs.length + ((xs.take i).map sizeR).sum + r = left ∧
        s = ⟨some (sl (xs.map encL)) :: some (av (.int .i64 r)) :: none :: none :: none :: some (av (.int .i64 i)) :: List.replicate 21 none, List.replicate 27 absent⟩)
      ⟨xs.length, _, Weak.nrm [true, true, false, false, false, true] [] rfl rfl rfl, 0, left - xs.length, Nat.zero_le _, rfl, by simp; omega, ?_⟩ ?_
    · rw [show ((left - xs.length : Nat) : Int) = (left : Int) - xs.length by omega]; rfl
    rintro m s ⟨i, r, hi, rfl, hr, rfl⟩
    refine Split.mk fun t ht => ?_
    rw [hn] at ht
    cases t
    · have hin : i = xs.length := by simp at ht; omega
      subst hin
      rw [List.take_length] at hr
      exact Need.mk ⟨[], _, .same, fin (by rw [cut_pos (by omega)]; omega), rfl⟩ trivial
    · have hia : i < xs.length := by simpa using ht
      have hsum := sum_take sizeR xs hia
      have hle := sum_take_le sizeR xs (i + 1)
      refine Need.mk (by omega) ?_
      refine Row.mk _ (map_get _ xs i hia) ?_
      refine ACall.mk _ _ (laws_szRunS xs[i] r (he _ (List.getElem_mem _)) (by omega)) ?_
      refine Split.mk fun t ht => ?_
      rw [cut_lt] at ht
      cases t
      · have h4 : (sizeR xs[i]) ≤ r := by simpa using ht
        refine Num.mk _ (wrapS (by omega)) ?_
        refine ⟨xs.length - (i + 1), _, by omega, Weak.nrm [true, true, false, false, false, true] [] rfl rfl rfl, i + 1, r - (sizeR xs[i]), by omega, rfl, by omega, ?_⟩
        rw [← cut_pos h4]; rfl
      · have h4 : ¬ (sizeR xs[i]) ≤ r := by simpa using ht
        exact Need.mk ⟨[], _, .same, fin (by rw [cut_neg (by omega)]), rfl⟩ trivial
  · have h4 : ¬ sizeRR xs ≤ left := by simp at ht; omega
    exact Need.mk ⟨[], _, .same, fin (by rw [cut_neg h4]), rfl⟩ trivial
end Go.Proofs.Ytlmdheeammfihaa

namespace Go.Proofs.Ytlmdheeammfihaa
open Go Go.Proofs Ev
set_option maxRecDepth 100000
set_option linter.unusedSimpArgs false
set_option linter.unusedVariables false
theorem laws_szIntS (xs : List Int) (left : Nat) (hl : left ≤ 1048576) : AFn Try.prog 87 [sl (xs.map encI), av (.int .i64 left)] [] (.one (vi (cut xs.length left))) [] := by
  refine AFn.introX (E := En 0 md0) (en_ok 0 md0) Try.func87 rfl rfl rfl fun hs _ => ?_
  have hn : (xs.map encI).length = xs.length := List.length_map ..
  have hx := Small.len (hs _ (List.mem_cons_self ..))
  rw [hn] at hx
  have fin : ∀ {z : Int}, z = cut xs.length left → RV.one (vi z) = RV.one (vi (cut xs.length left)) := fun h => by rw [h]
  refine Num.mk ((left : Int) - xs.length) (by rw [hn, IntKind.wrap_i64]; omega) ?_
  refine Split.mk fun t ht => ?_
  cases t
  · have h3 : xs.length ≤ left := by simp at ht; omega
    exact Need.mk ⟨[], _, .same, fin (by rw [cut_pos h3]; omega), rfl⟩ trivial
  · have h3 : ¬ xs.length ≤ left := by simp at ht; omega
    exact Need.mk ⟨[], _, .same, fin (by rw [cut_neg h3]), rfl⟩ trivial
theorem laws_szTree (t : Tre) (left : Nat) (he : t.Ok) (hl : left ≤ 1048576) : AFn Try.prog 33 [.agg (t.enc.map .c), av (.int .i64 left)] [] (.one (vi (cut t.size left))) [] := by
  refine AFn.introX (E := En 0 md0) (en_ok 0 md0) Try.func33 rfl rfl rfl fun _ _ => ?_
  have hz : t.size = sizeE t.mem + sizeRR t.levels + t.snaps.length := rfl
  have fin : ∀ {z : Int}, z = cut t.size left → RV.one (vi z) = RV.one (vi (cut t.size left)) := fun h => by rw [h]
  by_cases h1 : sizeE t.mem ≤ left
  · refine ACall.mk (.one (vi ((left - sizeE t.mem : Nat) : Int))) [] (by rw [← cut_pos h1]; exact laws_szEntryS t.mem left he.1 hl) ?_
    refine Split.mk fun b hb => ?_
    cases b
    · by_cases h2 : sizeRR t.levels ≤ left - sizeE t.mem
      · refine ACall.mk (.one (vi ((left - sizeE t.mem - sizeRR t.levels : Nat) : Int))) [] (by rw [← cut_pos h2]; exact laws_szRunSS t.levels (left - sizeE t.mem) he.2 (by omega)) ?_
        refine Split.mk fun b hb => ?_
        cases b
        · by_cases h3 : t.snaps.length ≤ left - sizeE t.mem - sizeRR t.levels
          · refine ACall.mk (.one (vi ((left - sizeE t.mem - sizeRR t.levels - t.snaps.length : Nat) : Int))) [] (by rw [← cut_pos h3]; exact laws_szIntS t.snaps _ (by omega)) ?_
            refine Split.mk fun b hb => ?_
            cases b
            · exact Need.mk ⟨[], _, .same, fin (by rw [cut_pos (by omega)]; omega), rfl⟩ trivial
            · simp at hb <;> omega
          · refine ACall.mk (.one (vi (-1))) [] (by rw [← cut_neg h3]; exact laws_szIntS t.snaps _ (by omega)) ?_
            refine Split.mk fun b hb => ?_
            cases b
            · simp at hb
            · exact Need.mk ⟨[], _, .same, fin (by rw [cut_neg (by omega)]), rfl⟩ trivial
        · simp at hb <;> omega
      · refine ACall.mk (.one (vi (-1))) [] (by rw [← cut_neg h2]; exact laws_szRunSS t.levels (left - sizeE t.mem) he.2 (by omega)) ?_
        refine Split.mk fun b hb => ?_
        cases b
        · simp at hb
        · exact Need.mk ⟨[], _, .same, fin (by rw [cut_neg (by omega)]), rfl⟩ trivial
    · simp at hb <;> omega
  · refine ACall.mk (.one (vi (-1))) [] (by rw [← cut_neg h1]; exact laws_szEntryS t.mem left he.1 hl) ?_
    refine Split.mk fun b hb => ?_
    cases b
    · simp at hb
    · exact Need.mk ⟨[], _, .same, fin (by rw [cut_neg (by omega)]), rfl⟩ trivial
end Go.Proofs.Ytlmdheeammfihaa

namespace Go.Proofs.Ytlmdheeammfihaa
open Go Go.Proofs Ev
set_option maxRecDepth 100000
set_option linter.unusedSimpArgs false
set_option linter.unusedVariables false
theorem laws_toEntry (e : Ent) : AFn Try.prog 142 [.agg (e.enc.map .c)] [] (.agg e.enc) [] := by
  refine AFn.introX (E := En 0 md0) (en_ok 0 md0) Try.func142 rfl rfl rfl fun _ _ => ?_
  exact Need.mk ⟨[], _, .same, rfl, rfl⟩ trivial
theorem laws_toEntryS (xs : List Ent) (hx : xs.length ≤ 1048576) : AFn Try.prog 92 [sl (xs.map Ent.enc)] [] (.one (.us 32 (xs.map Ent.enc))) [] := by
  refine AFn.introX (E := En 0 md0) (en_ok 0 md0) Try.func92 rfl rfl rfl fun _ _ => ?_
  have hn : (xs.map Ent.enc).length = xs.length := List.length_map ..
  refine Need.mk ⟨by omega, by omega, by simp only [hn]; omega, by omega⟩ ?_
  let S : List (List C) → Nat → St := fun rows i => ⟨some (sl (xs.map Ent.enc)) :: none :: none :: some (.one (.ref 3 0 (.cell 0))) :: some (av (.int .i64 i)) :: List.replicate 18 none, absent :: absent :: absent :: ⟨0, 1, some [.us 32 rows]⟩ :: List.replicate 19 absent⟩
  refine ALoop.mk (fun m s => ∃ i : Nat, i ≤ xs.length ∧ m = xs.length - i ∧ s = S ((xs.take i ++ List.replicate (xs.length - i) ent0).map Ent.enc) i)
    ⟨xs.length, _, Weak.nrm [true, false, false, true, true] [(7, 3)] rfl rfl rfl, 0, Nat.zero_le _, rfl, ?_⟩ ?_
  · refine Eq.trans (b := S (List.replicate (xs.map Ent.enc).length (Ent.enc ent0)) 0) rfl ?_
    rw [hn, List.take_zero, List.nil_append, List.map_replicate, Nat.sub_zero]
  rintro m s ⟨i, hi, rfl, rfl⟩
  refine Split.mk fun t ht => ?_
  rw [hn] at ht
  cases t
  · have hin : i = xs.length := by simp at ht; omega
    subst hin
    refine Need.mk ⟨[], _, .same, ?_, rfl⟩ trivial
    rw [List.take_length, Nat.sub_self, List.replicate_zero, List.append_nil]; rfl
  · have hia : i < xs.length := by simpa using ht
    refine Need.mk (by omega) ?_
    refine Row.mk _ (map_get _ xs i hia) ?_
    refine ACall.mk _ _ (laws_toEntry xs[i]) ?_
    refine Need.mk ⟨by omega, by rw [List.length_map, to_len _ _ hi]; omega⟩ ?_
    refine Row.mk _ (to_get _ xs ent0 hia) ?_
    refine Num.mk _ (wrapS (by omega)) ?_
    refine ⟨xs.length - (i + 1), _, by omega, Weak.nrm [true, false, false, true, true] [(3, 3)] rfl rfl rfl, i + 1, by omega, rfl, ?_⟩
    refine Eq.trans (b := S (((xs.take i ++ List.replicate (xs.length - i) ent0).map Ent.enc).set i (Ent.enc xs[i])) (i + 1)) rfl ?_
    rw [← List.map_set, to_step xs ent0 hia]
end Go.Proofs.Ytlmdheeammfihaa

namespace Go.Proofs.Ytlmdheeammfihaa
open Go Go.Proofs Ev
set_option maxRecDepth 100000
set_option linter.unusedSimpArgs false
set_option linter.unusedVariables false
theorem laws_toRun (r : Rn) (hr : r.ents.length ≤ 1048576) : AFn Try.prog 167 [.agg (r.enc.map .c)] [] (.agg (encO r)) [] := by
  refine AFn.introX (E := En 0 md0) (en_ok 0 md0) Try.func167 rfl rfl rfl fun _ _ => ?_
  refine ACall.mk _ _ (laws_toEntryS r.ents hr) ?_
  exact Need.mk ⟨[], _, .same, rfl, rfl⟩ trivial
theorem laws_toRunS (xs : List Rn) (hx : xs.length ≤ 1048576) (hr : ∀ r ∈ xs, r.ents.length ≤ 1048576) : AFn Try.prog 143 [sl (xs.map Rn.enc)] [] (.one (.us 25 (xs.map encO))) [] := by
  refine AFn.introX (E := En 0 md0) (en_ok 0 md0) Try.func143 rfl rfl rfl fun _ _ => ?_
  have hn : (xs.map Rn.enc).length = xs.length := List.length_map ..
  refine Need.mk ⟨by omega, by omega, by simp only [hn]; omega, by omega⟩ ?_
  let S : List (List C) → Nat → St := fun rows i => ⟨some (sl (xs.map Rn.enc)) :: none :: none :: some (.one (.ref 3 0 (.cell 0))) :: some (av (.int .i64 i)) :: List.replicate 18 none, absent :: absent :: absent :: ⟨0, 1, some [.us 25 rows]⟩ :: List.replicate 19 absent⟩
  refine ALoop.mk (fun m s => ∃ i : Nat, i ≤ xs.length ∧ m = xs.length - i ∧ s = S ((xs.take i ++ List.replicate (xs.length - i) (⟨[], 0⟩ : Rn)).map encO) i)
    ⟨xs.length, _, Weak.nrm [true, false, false, true, true] [(7, 3)] rfl rfl rfl, 0, Nat.zero_le _, rfl, ?_⟩ ?_
  · refine Eq.trans (b := S (List.replicate (xs.map Rn.enc).length (encO (⟨[], 0⟩ : Rn))) 0) rfl ?_
    rw [hn, List.take_zero, List.nil_append, List.map_replicate, Nat.sub_zero]
  rintro m s ⟨i, hi, rfl, rfl⟩
  refine Split.mk fun t ht => ?_
  rw [hn] at ht
  cases t
  · have hin : i = xs.length := by simp at ht; omega
    subst hin
    refine Need.mk ⟨[], _, .same, ?_, rfl⟩ trivial
    rw [List.take_length, Nat.sub_self, List.replicate_zero, List.append_nil]; rfl
  · have hia : i < xs.length := by simpa using ht
    refine Need.mk (by omega) ?_
    refine Row.mk _ (map_get _ xs i hia) ?_
    refine ACall.mk _ _ (laws_toRun xs[i] (hr _ (List.getElem_mem _))) ?_
    refine Need.mk ⟨by omega, by rw [List.length_map, to_len _ _ hi]; omega⟩ ?_
    refine Row.mk _ (to_get _ xs (⟨[], 0⟩ : Rn) hia) ?_
    refine Num.mk _ (wrapS (by omega)) ?_
    refine ⟨xs.length - (i + 1), _, by omega, Weak.nrm [true, false, false, true, true] [(3, 3)] rfl rfl rfl, i + 1, by omega, rfl, ?_⟩
    refine Eq.trans (b := S (((xs.take i ++ List.replicate (xs.length - i) (⟨[], 0⟩ : Rn)).map encO).set i (encO xs[i])) (i + 1)) rfl ?_
    rw [← List.map_set, to_step xs (⟨[], 0⟩ : Rn) hia]
end Go.Proofs.Ytlmdheeammfihaa

namespace Go.Proofs.Ytlmdheeammfihaa
open Go Go.Proofs Ev
set_option maxRecDepth 100000
set_option linter.unusedSimpArgs false
set_option linter.unusedVariables false
theorem laws_toRunSS (xs : List (List Rn)) (hx : xs.length ≤ 1048576) (hr : ∀ l ∈ xs, l.length ≤ 1048576 ∧ ∀ r ∈ l, r.ents.length ≤ 1048576) : AFn Try.prog 93 [sl (xs.map encL)] [] (.one (.us 112 (xs.map encLO))) [] := by
  refine AFn.introX (E := En 0 md0) (en_ok 0 md0) Try.func93 rfl rfl rfl fun _ _ => ?_
  have hn : (xs.map encL).length = xs.length := List.length_map ..
  refine Need.mk ⟨by omega, by omega, by simp only [hn]; omega, by omega⟩ ?_
  let S : List (List C) → Nat → St := fun rows i => ⟨some (sl (xs.map encL)) :: none :: none :: some (.one (.ref 3 0 (.cell 0))) :: some (av (.int .i64 i)) :: List.replicate 18 none, absent :: absent :: absent :: ⟨0, 1, some [.us 112 rows]⟩ :: List.replicate 19 absent⟩
  refine ALoop.mk (fun m s => ∃ i : Nat, i ≤ xs.length ∧ m = xs.length - i ∧ s = S ((xs.take i ++ List.replicate (xs.length - i) ([] : List Rn)).map encLO) i)
    ⟨xs.length, _, Weak.nrm [true, false, false, true, true] [(7, 3)] rfl rfl rfl, 0, Nat.zero_le _, rfl, ?_⟩ ?_
  · refine Eq.trans (b := S (List.replicate (xs.map encL).length (encLO ([] : List Rn))) 0) rfl ?_
    rw [hn, List.take_zero, List.nil_append, List.map_replicate, Nat.sub_zero]
  rintro m s ⟨i, hi, rfl, rfl⟩
  refine Split.mk fun t ht => ?_
  rw [hn] at ht
  cases t
  · have hin : i = xs.length := by simp at ht; omega
    subst hin
    refine Need.mk ⟨[], _, .same, ?_, rfl⟩ trivial
    rw [List.take_length, Nat.sub_self, List.replicate_zero, List.append_nil]; rfl
  · have hia : i < xs.length := by simpa using ht
    refine Need.mk (by omega) ?_
    refine Row.mk _ (map_get _ xs i hia) ?_
    refine ACall.mk _ _ (laws_toRunS xs[i] (hr _ (List.getElem_mem _)).1 (hr _ (List.getElem_mem _)).2) ?_
    refine Need.mk ⟨by omega, by rw [List.length_map, to_len _ _ hi]; omega⟩ ?_
    refine Row.mk _ (to_get _ xs ([] : List Rn) hia) ?_
    refine Num.mk _ (wrapS (by omega)) ?_
    refine ⟨xs.length - (i + 1), _, by omega, Weak.nrm [true, false, false, true, true] [(3, 3)] rfl rfl rfl, i + 1, by omega, rfl, ?_⟩
    refine Eq.trans (b := S (((xs.take i ++ List.replicate (xs.length - i) ([] : List Rn)).map encLO).set i (encLO xs[i])) (i + 1)) rfl ?_
    rw [← List.map_set, to_step xs ([] : List Rn) hia]
end Go.Proofs.Ytlmdheeammfihaa

namespace Go.Proofs.Ytlmdheeammfihaa
open Go Go.Proofs Ev
set_option maxRecDepth 100000
set_option linter.unusedSimpArgs false
set_option linter.unusedVariables false
theorem laws_toIntS (xs : List Int) (hx : xs.length ≤ 1048576) : AFn Try.prog 94 [sl (xs.map encI)] [] (.one (.us 3 (xs.map encI))) [] := by
  refine AFn.introX (E := En 0 md0) (en_ok 0 md0) Try.func94 rfl rfl rfl fun _ _ => ?_
  have hn : (xs.map encI).length = xs.length := List.length_map ..
  refine Need.mk ⟨by omega, by omega, by simp only [hn]; omega, by omega⟩ ?_
  let S : List (List C) → Nat → St := fun rows i => ⟨some (sl (xs.map encI)) :: none :: none :: some (.one (.ref 3 0 (.cell 0))) :: some (av (.int .i64 i)) :: List.replicate 17 none, absent :: absent :: absent :: ⟨0, 1, some [.us 3 rows]⟩ :: List.replicate 18 absent⟩
  refine ALoop.mk (fun m s => ∃ i : Nat, i ≤ xs.length ∧ m = xs.length - i ∧ s = S ((xs.take i ++ List.replicate (xs.length - i) (0 : Int)).map encI) i)
    ⟨xs.length, _, Weak.nrm [true, false, false, true, true] [(7, 3)] rfl rfl rfl, 0, Nat.zero_le _, rfl, ?_⟩ ?_
  · refine Eq.trans (b := S (List.replicate (xs.map encI).length (encI (0 : Int))) 0) rfl ?_
    rw [hn, List.take_zero, List.nil_append, List.map_replicate, Nat.sub_zero]
  rintro m s ⟨i, hi, rfl, rfl⟩
  refine Split.mk fun t ht => ?_
  rw [hn] at ht
  cases t
  · have hin : i = xs.length := by simp at ht; omega
    subst hin
    refine Need.mk ⟨[], _, .same, ?_, rfl⟩ trivial
    rw [List.take_length, Nat.sub_self, List.replicate_zero, List.append_nil]; rfl
  · have hia : i < xs.length := by simpa using ht
    refine Need.mk (by omega) ?_
    refine Row.mk _ (map_get _ xs i hia) ?_
    refine Need.mk ⟨by omega, by rw [List.length_map, to_len _ _ hi]; omega⟩ ?_
    refine Row.mk _ (to_get _ xs (0 : Int) hia) ?_
    refine Num.mk _ (wrapS (by omega)) ?_
    refine ⟨xs.length - (i + 1), _, by omega, Weak.nrm [true, false, false, true, true] [(3, 3)] rfl rfl rfl, i + 1, by omega, rfl, ?_⟩
    refine Eq.trans (b := S (((xs.take i ++ List.replicate (xs.length - i) (0 : Int)).map encI).set i (encI xs[i])) (i + 1)) rfl ?_
    rw [← List.map_set, to_step xs (0 : Int) hia]
end Go.Proofs.Ytlmdheeammfihaa

namespace Go.Proofs.Ytlmdheeammfihaa
open Go Go.Proofs Ev
set_option maxRecDepth 100000
set_option linter.unusedSimpArgs false
set_option linter.unusedVariables false
def encTO (t : Tre) : List C := [vi t.seq, .us 32 (t.mem.map Ent.enc), .us 112 (t.levels.map encLO), .us 3 (t.snaps.map encI)]
theorem laws_toTree (t : Tre) (ht : Tre.Small t) : AFn Try.prog 35 [.agg (t.enc.map .c)] [] (.agg (encTO t)) [] := by
  refine AFn.introX (E := En 0 md0) (en_ok 0 md0) Try.func35 rfl rfl rfl fun _ _ => ?_
  refine ACall.mk _ _ (laws_toEntryS t.mem ht.1) ?_
  refine ACall.mk _ _ (laws_toRunSS t.levels ht.2.1 ht.2.2.1) ?_
  refine ACall.mk _ _ (laws_toIntS t.snaps ht.2.2.2) ?_
  exact Need.mk ⟨[], _, .same, rfl, rfl⟩ trivial
end Go.Proofs.Ytlmdheeammfihaa

namespace Go.Proofs.Ytlmdheeammfihaa
open Go Go.Proofs Ev
set_option maxRecDepth 100000
set_option linter.unusedSimpArgs false
set_option linter.unusedVariables false
theorem laws_eqEntry (a b : Ent) : AFn Try.prog 102 [.agg (a.enc.map .c), .agg (b.enc.map .c)] [] (rb (decide (a = b))) [] := by
  refine AFn.introX (E := En 0 md0) (en_ok 0 md0) Try.func102 rfl rfl rfl fun _ _ => ?_
  have fin : ∀ {c : Bool}, c = decide (a = b) → rb c = rb (decide (a = b)) := fun h => by rw [h]
  refine Split.mk fun t ht => ?_
  rw [bytes_beq] at ht
  cases t
  · refine Split.mk fun t ht1 => ?_
    cases t
    · refine Split.mk fun t ht2 => ?_
      cases t
      · refine Split.mk fun t ht3 => ?_
        rw [bytes_beq] at ht3
        cases t
        · refine Split.mk fun t ht4 => ?_
          cases t
          · exact Need.mk ⟨[], _, .same, fin (by cases a; cases b; simp_all), rfl⟩ trivial
          · exact Need.mk ⟨[], _, .same, fin (by cases a; cases b; simp_all), rfl⟩ trivial
        · exact Need.mk ⟨[], _, .same, fin (by cases a; cases b; simp_all), rfl⟩ trivial
      · exact Need.mk ⟨[], _, .same, fin (by cases a; cases b; simp_all), rfl⟩ trivial
    · exact Need.mk ⟨[], _, .same, fin (by cases a; cases b; simp_all), rfl⟩ trivial
  · exact Need.mk ⟨[], _, .same, fin (by cases a; cases b; simp_all), rfl⟩ trivial
end Go.Proofs.Ytlmdheeammfihaa

namespace Go.Proofs.Ytlmdheeammfihaa
open Go Go.Proofs Ev
set_option maxRecDepth 100000
set_option linter.unusedSimpArgs false
set_option linter.unusedVariables false
theorem laws_eqEntryS (a b : List Ent) : AFn Try.prog 40 [sl (a.map Ent.enc), sl (b.map Ent.enc)] [] (rb (decide (a = b))) [] := by
  refine AFn.introX (E := En 0 md0) (en_ok 0 md0) Try.func40 rfl rfl rfl fun hs _ => ?_
  have ha := Small.len (hs _ (List.mem_cons_self ..))
  rw [List.length_map] at ha
  have fin : ∀ {c : Bool}, c = decide (a = b) → rb c = rb (decide (a = b)) := fun h => by rw [h]
  refine Split.mk fun t ht => ?_
  cases t
  · have hl : a.length = b.length := Int.ofNat_inj.1 (by simpa using ht)
    refine ALoop.mk (fun n s => ∃ i : Nat, i ≤ a.length ∧ n = a.length - i ∧ a.take i = b.take i ∧
      s = ⟨some (sl (a.map Ent.enc)) :: some (sl (b.map Ent.enc)) :: none :: none :: some (av (.bool false)) :: some (av (.int .i64 i)) :: List.replicate 21 none, List.replicate 27 absent⟩)
      ⟨a.length, _, Weak.nrm [true, true, false, false, true, true] [] rfl rfl rfl, 0, Nat.zero_le _, rfl, rfl, rfl⟩ ?_
    rintro n s ⟨i, hi, rfl, hp, rfl⟩
    refine Split.mk fun t ht => ?_
    cases t
    · have hia : i = a.length := by simp at ht; omega
      refine Need.mk ⟨[], _, .same, fin ?_, rfl⟩ trivial
      subst hia
      rw [List.take_length, hl, List.take_length] at hp
      simp [hp]
    · have hia : i < a.length := by simpa using ht
      refine Need.mk (by omega) ?_
      refine Row.mk _ (map_get _ a i hia) ?_
      refine Need.mk (by omega) ?_
      refine Row.mk _ (map_get _ b i (by omega)) ?_
      refine ACall.mk _ _ (laws_eqEntry a[i] (b[i]'(by omega))) ?_
      refine Split.mk fun t ht2 => ?_
      cases t
      · refine Need.mk rfl ?_
        refine Need.mk ⟨[], _, .same, fin ?_, rfl⟩ trivial
        have : a[i] ≠ b[i]'(by omega) := by simpa using ht2
        refine (decide_eq_false fun e => this ?_).symm
        subst e; rfl
      · refine Need.mk rfl ?_
        refine Num.mk _ (wrapS (by omega)) ?_
        refine ⟨a.length - (i + 1), _, by omega, Weak.nrm [true, true, false, false, true, true] [] rfl rfl rfl, i + 1, by omega, rfl, ?_, rfl⟩
        have : a[i] = b[i]'(by omega) := by simpa using ht2
        rw [List.take_succ_eq_append_getElem hia, List.take_succ_eq_append_getElem (by omega), hp, this]
  · refine Need.mk ⟨[], _, .same, fin ?_, rfl⟩ trivial
    have : a.length ≠ b.length := by
      intro e; simp [e] at ht
    exact (decide_eq_false fun e => this (by rw [e])).symm
end Go.Proofs.Ytlmdheeammfihaa

namespace Go.Proofs.Ytlmdheeammfihaa
open Go Go.Proofs Ev
set_option maxRecDepth 100000
set_option linter.unusedSimpArgs false
set_option linter.unusedVariables false
theorem laws_eqRun (a b : Rn) : AFn Try.prog 168 [.agg (a.enc.map .c), .agg (b.enc.map .c)] [] (rb (decide (a = b))) [] := by
  refine AFn.introX (E := En 0 md0) (en_ok 0 md0) Try.func168 rfl rfl rfl fun _ _ => ?_
  have fin : ∀ {c : Bool}, c = decide (a = b) → rb c = rb (decide (a = b)) := fun h => by rw [h]
  refine ACall.mk _ _ (laws_eqEntryS a.ents b.ents) ?_
  refine Split.mk fun t ht => ?_
  cases t
  · exact Need.mk ⟨[], _, .same, fin (by cases a; cases b; simp_all), rfl⟩ trivial
  · refine Split.mk fun t ht1 => ?_
    cases t
    · exact Need.mk ⟨[], _, .same, fin (by cases a; cases b; simp_all), rfl⟩ trivial
    · exact Need.mk ⟨[], _, .same, fin (by cases a; cases b; simp_all), rfl⟩ trivial
end Go.Proofs.Ytlmdheeammfihaa

namespace Go.Proofs.Ytlmdheeammfihaa
open Go Go.Proofs Ev
set_option maxRecDepth 100000
set_option linter.unusedSimpArgs false
set_option linter.unusedVariables false
theorem laws_eqRunS (a b : List Rn) : AFn Try.prog 145 [sl (a.map Rn.enc), sl (b.map Rn.enc)] [] (rb (decide (a = b))) [] := by
  refine AFn.introX (E := En 0 md0) (en_ok 0 md0) Try.func145 rfl rfl rfl fun hs _ => ?_
  have ha := Small.len (hs _ (List.mem_cons_self ..))
  rw [List.length_map] at ha
  have fin : ∀ {c : Bool}, c = decide (a = b) → rb c = rb (decide (a = b)) := fun h => by rw [h]
  refine Split.mk fun t ht => ?_
  cases t
  · have hl : a.length = b.length := Int.ofNat_inj.1 (by simpa using ht)
    refine ALoop.mk (fun n s => ∃ i : Nat, i ≤ a.length ∧ n = a.length - i ∧ a.take i = b.take i ∧
      s = ⟨some (sl (a.map Rn.enc)) :: some (sl (b.map Rn.enc)) :: none :: none :: some (av (.bool false)) :: some (av (.int .i64 i)) :: List.replicate 21 none, List.replicate 27 absent⟩)
      ⟨a.length, _, Weak.nrm [true, true, false, false, true, true] [] rfl rfl rfl, 0, Nat.zero_le _, rfl, rfl, rfl⟩ ?_
    rintro n s ⟨i, hi, rfl, hp, rfl⟩
    refine Split.mk fun t ht => ?_
    cases t
    · have hia : i = a.length := by simp at ht; omega
      refine Need.mk ⟨[], _, .same, fin ?_, rfl⟩ trivial
      subst hia
      rw [List.take_length, hl, List.take_length] at hp
      simp [hp]
    · have hia : i < a.length := by simpa using ht
      refine Need.mk (by omega) ?_
      refine Row.mk _ (map_get _ a i hia) ?_
      refine Need.mk (by omega) ?_
      refine Row.mk _ (map_get _ b i (by omega)) ?_
      refine ACall.mk _ _ (laws_eqRun a[i] (b[i]'(by omega))) ?_
      refine Split.mk fun t ht2 => ?_
      cases t
      · refine Need.mk rfl ?_
        refine Need.mk ⟨[], _, .same, fin ?_, rfl⟩ trivial
        have : a[i] ≠ b[i]'(by omega) := by simpa using ht2
        refine (decide_eq_false fun e => this ?_).symm
        subst e; rfl
      · refine Need.mk rfl ?_
        refine Num.mk _ (wrapS (by omega)) ?_
        refine ⟨a.length - (i + 1), _, by omega, Weak.nrm [true, true, false, false, true, true] [] rfl rfl rfl, i + 1, by omega, rfl, ?_, rfl⟩
        have : a[i] = b[i]'(by omega) := by simpa using ht2
        rw [List.take_succ_eq_append_getElem hia, List.take_succ_eq_append_getElem (by omega), hp, this]
  · refine Need.mk ⟨[], _, .same, fin ?_, rfl⟩ trivial
    have : a.length ≠ b.length := by
      intro e; simp [e] at ht
    exact (decide_eq_false fun e => this (by rw [e])).symm
end Go.Proofs.Ytlmdheeammfihaa

namespace Go.Proofs.Ytlmdheeammfihaa
open Go Go.Proofs Ev
set_option maxRecDepth 100000
set_option linter.unusedSimpArgs false
set_option linter.unusedVariables false
theorem laws_eqRunSS (a b : List (List Rn)) : AFn Try.prog 99 [sl (a.map encL), sl (b.map encL)] [] (rb (decide (a = b))) [] := by
  refine AFn.introX (E := En 0 md0) (en_ok 0 md0) Try.func99 rfl rfl rfl fun hs _ => ?_
  have ha := Small.len (hs _ (List.mem_cons_self ..))
  rw [List.length_map] at ha
  have fin : ∀ {c : Bool}, c = decide (a = b) → rb c = rb (decide (a = b)) := fun h => by rw [h]
  refine Split.mk fun t ht => ?_
  cases t
  · have hl : a.length = b.length := Int.ofNat_inj.1 (by simpa using ht)
    refine ALoop.mk (fun n s => ∃ i : Nat, i ≤ a.length ∧ n = a.length - i ∧ a.take i = b.take i ∧
      s = ⟨some (sl (a.map encL)) :: some (sl (b.map encL)) :: none :: none :: some (av (.bool false)) :: some (av (.int .i64 i)) :: List.replicate 21 none, List.replicate 27 absent⟩)
      ⟨a.length, _, Weak.nrm [true, true, false, false, true, true] [] rfl rfl rfl, 0, Nat.zero_le _, rfl, rfl, rfl⟩ ?_
    rintro n s ⟨i, hi, rfl, hp, rfl⟩
    refine Split.mk fun t ht => ?_
    cases t
    · have hia : i = a.length := by simp at ht; omega
      refine Need.mk ⟨[], _, .same, fin ?_, rfl⟩ trivial
      subst hia
      rw [List.take_length, hl, List.take_length] at hp
      simp [hp]
    · have hia : i < a.length := by simpa using ht
      refine Need.mk (by omega) ?_
      refine Row.mk _ (map_get _ a i hia) ?_
      refine Need.mk (by omega) ?_
      refine Row.mk _ (map_get _ b i (by omega)) ?_
      refine ACall.mk _ _ (laws_eqRunS a[i] (b[i]'(by omega))) ?_
      refine Split.mk fun t ht2 => ?_
      cases t
      · refine Need.mk rfl ?_
        refine Need.mk ⟨[], _, .same, fin ?_, rfl⟩ trivial
        have : a[i] ≠ b[i]'(by omega) := by simpa using ht2
        refine (decide_eq_false fun e => this ?_).symm
        subst e; rfl
      · refine Need.mk rfl ?_
        refine Num.mk _ (wrapS (by omega)) ?_
        refine ⟨a.length - (i + 1), _, by omega, Weak.nrm [true, true, false, false, true, true] [] rfl rfl rfl, i + 1, by omega, rfl, ?_, rfl⟩
        have : a[i] = b[i]'(by omega) := by simpa using ht2
        rw [List.take_succ_eq_append_getElem hia, List.take_succ_eq_append_getElem (by omega), hp, this]
  · refine Need.mk ⟨[], _, .same, fin ?_, rfl⟩ trivial
    have : a.length ≠ b.length := by
      intro e; simp [e] at ht
    exact (decide_eq_false fun e => this (by rw [e])).symm
end Go.Proofs.Ytlmdheeammfihaa

namespace Go.Proofs.Ytlmdheeammfihaa
open Go Go.Proofs Ev
set_option maxRecDepth 100000
set_option linter.unusedSimpArgs false
set_option linter.unusedVariables false
theorem laws_eqIntS (a b : List Int) : AFn Try.prog 100 [sl (a.map encI), sl (b.map encI)] [] (rb (decide (a = b))) [] := by
  refine AFn.introX (E := En 0 md0) (en_ok 0 md0) Try.func100 rfl rfl rfl fun hs _ => ?_
  have ha := Small.len (hs _ (List.mem_cons_self ..))
  rw [List.length_map] at ha
  have fin : ∀ {c : Bool}, c = decide (a = b) → rb c = rb (decide (a = b)) := fun h => by rw [h]
  refine Split.mk fun t ht => ?_
  cases t
  · have hl : a.length = b.length := Int.ofNat_inj.1 (by simpa using ht)
    refine ALoop.mk (fun n s => ∃ i : Nat, i ≤ a.length ∧ n = a.length - i ∧ a.take i = b.take i ∧
      s = ⟨some (sl (a.map encI)) :: some (sl (b.map encI)) :: none :: none :: some (av (.bool false)) :: some (av (.int .i64 i)) :: List.replicate 20 none, List.replicate 26 absent⟩)
      ⟨a.length, _, Weak.nrm [true, true, false, false, true, true] [] rfl rfl rfl, 0, Nat.zero_le _, rfl, rfl, rfl⟩ ?_
    rintro n s ⟨i, hi, rfl, hp, rfl⟩
    refine Split.mk fun t ht => ?_
    cases t
    · have hia : i = a.length := by simp at ht; omega
      refine Need.mk ⟨[], _, .same, fin ?_, rfl⟩ trivial
      subst hia
      rw [List.take_length, hl, List.take_length] at hp
      simp [hp]
    · have hia : i < a.length := by simpa using ht
      refine Need.mk (by omega) ?_
      refine Row.mk _ (map_get _ a i hia) ?_
      refine Need.mk (by omega) ?_
      refine Row.mk _ (map_get _ b i (by omega)) ?_
      refine Split.mk fun t ht2 => ?_
      cases t
      · refine Need.mk rfl ?_
        refine Num.mk _ (wrapS (by omega)) ?_
        refine ⟨a.length - (i + 1), _, by omega, Weak.nrm [true, true, false, false, true, true] [] rfl rfl rfl, i + 1, by omega, rfl, ?_, rfl⟩
        have : a[i] = b[i]'(by omega) := by simpa using ht2
        rw [List.take_succ_eq_append_getElem hia, List.take_succ_eq_append_getElem (by omega), hp, this]
      · refine Need.mk rfl ?_
        refine Need.mk ⟨[], _, .same, fin ?_, rfl⟩ trivial
        have : a[i] ≠ b[i]'(by omega) := by simpa using ht2
        refine (decide_eq_false fun e => this ?_).symm
        subst e; rfl
  · refine Need.mk ⟨[], _, .same, fin ?_, rfl⟩ trivial
    have : a.length ≠ b.length := by
      intro e; simp [e] at ht
    exact (decide_eq_false fun e => this (by rw [e])).symm
end Go.Proofs.Ytlmdheeammfihaa

namespace Go.Proofs.Ytlmdheeammfihaa
open Go Go.Proofs Ev
set_option maxRecDepth 100000
set_option linter.unusedSimpArgs false
set_option linter.unusedVariables false
theorem laws_eqTree (a b : Tre) : AFn Try.prog 37 [.agg (a.enc.map .c), .agg (b.enc.map .c)] [] (rb (decide (a = b))) [] := by
  refine AFn.introX (E := En 0 md0) (en_ok 0 md0) Try.func37 rfl rfl rfl fun _ _ => ?_
  have fin : ∀ {c : Bool}, c = decide (a = b) → rb c = rb (decide (a = b)) := fun h => by rw [h]
  refine Split.mk fun t ht => ?_
  cases t
  · refine ACall.mk _ _ (laws_eqEntryS a.mem b.mem) ?_
    refine Split.mk fun t ht1 => ?_
    cases t
    · exact Need.mk ⟨[], _, .same, fin (by cases a; cases b; simp_all), rfl⟩ trivial
    · refine ACall.mk _ _ (laws_eqRunSS a.levels b.levels) ?_
      refine Split.mk fun t ht2 => ?_
      cases t
      · exact Need.mk ⟨[], _, .same, fin (by cases a; cases b; simp_all), rfl⟩ trivial
      · refine ACall.mk _ _ (laws_eqIntS a.snaps b.snaps) ?_
        refine Split.mk fun t ht3 => ?_
        cases t
        · exact Need.mk ⟨[], _, .same, fin (by cases a; cases b; simp_all), rfl⟩ trivial
        · exact Need.mk ⟨[], _, .same, fin (by cases a; cases b; simp_all), rfl⟩ trivial
  · exact Need.mk ⟨[], _, .same, fin (by cases a; cases b; simp_all), rfl⟩ trivial
end Go.Proofs.Ytlmdheeammfihaa

namespace Go.Proofs.Ytlmdheeammfihaa
open Go Go.Proofs Ev
set_option maxRecDepth 100000
set_option linter.unusedSimpArgs false
set_option linter.unusedVariables false
theorem laws_markText (k : Nat) (hk : k ≤ 4611686018427387904) : AFn Try.prog 105 [av (.int .i64 k)] [] (.one (vs (markT k))) [] := by
  refine AFn.introX (E := En 0 md0) (en_ok 0 md0) Try.func105 rfl rfl rfl fun _ _ => ?_
  refine Split.mk fun t ht => ?_
  cases t
  · have h0 : 0 < k := by simp at ht; omega
    refine ALoop.mk (fun n s => ∃ (j : Nat) (out : ByteArray), n = j ∧ j + out.size ≤ 4611686018427387904 ∧ digs j out = digs k ⟨#[]⟩ ∧
      s = ⟨some (av (.int .i64 j)) :: none :: some (av (.string ⟨#[]⟩)) :: some (av (.string out)) :: List.replicate 16 none, List.replicate 20 absent⟩)
      ⟨k, _, Weak.nrm [true, false, true, true] [] rfl rfl rfl, k, ⟨#[]⟩, rfl, hk, rfl, rfl⟩ ?_
    rintro j s ⟨_, out, rfl, hb, hd, rfl⟩
    refine Split.mk fun t ht => ?_
    cases t
    · have hj : j = 0 := by simp at ht; omega
      subst hj
      refine Need.mk (strFits1 (by omega)) ?_
      refine Need.mk ⟨[], _, .same, ?_, rfl⟩ trivial
      have : markT k = ⟨#[109]⟩ ++ digs k ⟨#[]⟩ := by simp [markT]; omega
      rw [this, ← hd, digs_zero]; rfl
    · have hj : 0 < j := by simpa using ht
      refine Need.mk (by decide) ?_
      refine Num.mk ((48 + j % 10 : Nat) : Int) (by rw [show ((j : Int).tmod 10) = ((j % 10 : Nat) : Int) from rfl, wrapI] <;> omega) ?_
      refine Num.mk ((48 + j % 10 : Nat) : Int) (by rw [wrapU8] <;> omega) ?_
      refine Need.mk (strFits1 (by omega)) ?_
      refine Need.mk (by decide) ?_
      refine Num.mk ((j / 10 : Nat) : Int) (by rw [show ((j : Int).tdiv 10) = ((j / 10 : Nat) : Int) from rfl, wrapI] <;> omega) ?_
      refine ⟨j / 10, _, by omega, Weak.nrm [true, false, true, true] [] rfl rfl rfl, j / 10, dig j ++ out, rfl, ?_, ?_, rfl⟩
      · rw [ByteArray.size_append, show (dig j).size = 1 from rfl]; omega
      · rw [← digs_succ hj]; exact hd
  · have h0 : k = 0 := by simp at ht; omega
    subst h0
    exact Need.mk ⟨[], _, .same, rfl, rfl⟩ trivial
end Go.Proofs.Ytlmdheeammfihaa

namespace Go.Proofs.Ytlmdheeammfihaa
open Go Go.Proofs Ev
set_option maxRecDepth 100000
set_option linter.unusedSimpArgs false
set_option linter.unusedVariables false
theorem laws_markEntryS (xs : List Ent) (k : Nat) (hk : k + 5 * xs.length ≤ 4611686018427387904) : AFn Try.prog 42 [.one (.ref 0 0 (.cell 0)), av (.int .i64 k)] [[.us 32 (xs.map Ent.enc)]] (.one (vi ((k + 5 * xs.length : Nat) : Int))) [[.us 32 ((markL k xs.length).map Ent.enc)]] := by
  refine AFn.introX (E := En 1 md0) (en_ok 1 md0) Try.func42 rfl rfl rfl fun _ _ => ?_
  let S : List (List C) → Nat → Nat → St := fun rows i m => ⟨some (.one (.ref 0 0 (.cell 0))) :: some (av (.int .i64 m)) :: none :: none :: none :: some (av (.int .i64 i)) :: List.replicate 44 none, ⟨0, 1, some [.us 32 rows]⟩ :: List.replicate 50 absent⟩
  refine ALoop.mk (fun n s => ∃ (i : Nat) (ys : List Ent), i ≤ xs.length ∧ n = xs.length - i ∧ ys.length = xs.length ∧ (∀ j : Nat, j < i → ys[j]? = some (markE (k + 5 * j))) ∧ s = S (ys.map Ent.enc) i (k + 5 * i))
    ⟨xs.length, _, Weak.nrm [true, true, false, false, false, true] [(0, 0)] rfl rfl rfl, 0, xs, Nat.zero_le _, rfl, rfl, by intro j hj; omega, rfl⟩ ?_
  rintro n s ⟨i, ys, hi, rfl, hl, hm, rfl⟩
  refine Split.mk fun t ht => ?_
  rw [List.length_map] at ht
  cases t
  · have hia : i = xs.length := by simp at ht; omega
    subst hia
    refine Need.mk ⟨[], _, .same, rfl, ?_⟩ trivial
    rw [← markL_of hl hm]; rfl
  · have hia : i < ys.length := by simpa using ht
    have hlen : i < (ys.map Ent.enc).length := by rw [List.length_map]; exact hia
    refine ACall.mk _ _ (laws_markText (k + 5 * i) (by omega)) ?_
    refine Need.mk ⟨by omega, by simpa using hia⟩ ?_
    refine Row.mk _ (map_get _ ys i hia) ?_
    refine Num.mk _ (wrapS (by omega)) ?_
    refine Need.mk ⟨by omega, by simpa using hia⟩ ?_
    refine Row.mk _ (set_get _ _ _ hlen) ?_
    refine Num.mk _ (wrapS (by omega)) ?_
    refine Need.mk ⟨by omega, by simpa using hia⟩ ?_
    refine Row.mk _ (set_get _ _ _ (by simpa using hia)) ?_
    refine Num.mk _ (wrapS (by omega)) ?_
    refine ACall.mk _ _ (laws_markText (k + 5 * i + 1 + 1 + 1) (by omega)) ?_
    refine Need.mk ⟨by omega, by simpa using hia⟩ ?_
    refine Row.mk _ (set_get _ _ _ (by simpa using hia)) ?_
    refine Num.mk _ (wrapS (by omega)) ?_
    refine Need.mk ⟨by omega, by simpa using hia⟩ ?_
    refine Row.mk _ (set_get _ _ _ (by simpa using hia)) ?_
    refine Num.mk _ (wrapS (by omega)) ?_
    refine Num.mk _ (wrapS (by omega)) ?_
    refine ⟨xs.length - (i + 1), _, by omega, Weak.nrm [true, true, false, false, false, true] [(0, 0)] rfl rfl rfl, i + 1, ys.set i (markE (k + 5 * i)), by omega, rfl, by simpa using hl, fun j hj => ?_, ?_⟩
    · by_cases hji : j = i
      · subst hji; exact List.getElem?_set_self hia
      · rw [List.getElem?_set_ne (Ne.symm hji)]; exact hm j (by omega)
    · refine Eq.trans (b := S ((((((ys.map Ent.enc).set i _).set i _).set i _).set i _).set i (markE (k + 5 * i)).enc) (i + 1) (k + 5 * i + 1 + 1 + 1 + 1 + 1)) rfl ?_
      simp only [List.set_set, List.map_set]
      rfl
end Go.Proofs.Ytlmdheeammfihaa

namespace Go.Proofs.Ytlmdheeammfihaa
open Go Go.Proofs Ev
set_option maxRecDepth 100000
set_option linter.unusedSimpArgs false
set_option linter.unusedVariables false
theorem laws_markRunS (xs : List Rn) (k : Nat) (hk : posR k xs ≤ 4611686018427387904) : AFn Try.prog 146 [.one (.ref 0 0 (.cell 0)), av (.int .i64 k)] [[.us 25 (xs.map encO)]] (.one (vi (posR k xs : Nat))) [[.us 25 ((mkRs k xs).map encO)]] := by
  refine AFn.introX (E := En 1 (md1 [42])) (en_ok 1 _) Try.func146 rfl rfl rfl fun _ _ => ?_
  let S : List (List C) → Nat → Nat → St := fun rows i m => ⟨some (.one (.ref 0 0 (.cell 0))) :: some (av (.int .i64 m)) :: none :: none :: none :: some (av (.int .i64 i)) :: List.replicate 21 none, ⟨0, 1, some [.us 25 rows]⟩ :: List.replicate 27 absent⟩
  refine ALoop.mk (fun n s => ∃ i : Nat, i ≤ xs.length ∧ n = xs.length - i ∧ s = S ((mkRs k (xs.take i) ++ xs.drop i).map encO) i (posR k (xs.take i)))
    ⟨xs.length, _, Weak.nrm [true, true, false, false, false, true] [(0, 0)] rfl rfl rfl, 0, Nat.zero_le _, rfl, rfl⟩ ?_
  rintro n s ⟨i, hi, rfl, rfl⟩
  have hlen : (mkRs k (xs.take i) ++ xs.drop i).length = xs.length := by rw [List.length_append, mkRs_len, List.length_take, List.length_drop]; omega
  refine Split.mk fun t ht => ?_
  rw [List.length_map, hlen] at ht
  cases t
  · have hia : i = xs.length := by simp at ht; omega
    subst hia
    refine Need.mk ⟨[], _, .same, ?_, ?_⟩ trivial
    · rw [List.take_length]; rfl
    · rw [List.take_length, List.drop_length, List.append_nil]; rfl
  · have hia : i < xs.length := by simpa using ht
    have hget : (mkRs k (xs.take i) ++ xs.drop i)[i]? = some xs[i] := by
      rw [List.getElem?_append_right (by rw [mkRs_len, List.length_take]; omega), mkRs_len, List.length_take, Nat.min_eq_left (by omega), Nat.sub_self, List.getElem?_drop, Nat.add_zero, List.getElem?_eq_getElem hia]
    have hpos : posR k (xs.take (i + 1)) = posR k (xs.take i) + 5 * xs[i].ents.length + 1 := by rw [List.take_succ_eq_append_getElem hia, posR_app]; rfl
    have hle : posR k (xs.take (i + 1)) ≤ 4611686018427387904 := by
      have : posR k xs = posR (posR k (xs.take (i + 1))) (xs.drop (i + 1)) := by rw [← posR_app, List.take_append_drop]
      have h2 := posR_le (xs.drop (i + 1)) (posR k (xs.take (i + 1)))
      omega
    have hrow : ((mkRs k (xs.take i) ++ xs.drop i).map encO)[i]? = some (encO xs[i]) := by rw [List.getElem?_map, hget]; rfl
    have hlt : i < ((mkRs k (xs.take i) ++ xs.drop i).map encO).length := by rw [List.length_map, hlen]; exact hia
    have hxl := posR_len xs k
    refine Need.mk ⟨by omega, by omega⟩ ?_
    refine Row.mk _ hrow ?_
    refine Row.mk _ hrow ?_
    refine ACall.mk _ _ (laws_markEntryS xs[i].ents (posR k (xs.take i)) (by omega)) ?_
    refine Row.mk _ hrow ?_
    refine Need.mk ⟨by omega, by rw [List.length_set]; omega⟩ ?_
    refine Row.mk _ (set_get _ _ _ hlt) ?_
    refine Num.mk _ (wrapS (by omega)) ?_
    refine Num.mk _ (wrapS (by omega)) ?_
    refine ⟨xs.length - (i + 1), _, by omega, Weak.nrm [true, true, false, false, false, true] [(0, 0)] rfl rfl rfl, i + 1, by omega, rfl, ?_⟩
    refine Eq.trans (b := S ((((mkRs k (xs.take i) ++ xs.drop i).map encO).set i _).set i (encO (mkR (posR k (xs.take i)) xs[i]))) (i + 1) (posR k (xs.take i) + 5 * xs[i].ents.length + 1)) rfl ?_
    rw [hpos, List.set_set, ← List.map_set, mkRs_step hia]
end Go.Proofs.Ytlmdheeammfihaa

namespace Go.Proofs.Ytlmdheeammfihaa
open Go Go.Proofs Ev
set_option maxRecDepth 100000
set_option linter.unusedSimpArgs false
set_option linter.unusedVariables false
theorem laws_markRunSS (xs : List (List Rn)) (k : Nat) (hk : posL k xs ≤ 4611686018427387904) : AFn Try.prog 103 [.one (.ref 0 0 (.cell 0)), av (.int .i64 k)] [[.us 112 (xs.map encLO)]] (.one (vi (posL k xs : Nat))) [[.us 112 ((mkLs k xs).map encLO)]] := by
  refine AFn.introX (E := En 1 (md1 [146])) (en_ok 1 _) Try.func103 rfl rfl rfl fun _ hs => ?_
  have hxl := Small.lenU (hs _ (List.mem_cons_self ..) _ (List.mem_cons_self ..))
  rw [List.length_map] at hxl
  let S : List (List C) → Nat → Nat → St := fun rows i m => ⟨some (.one (.ref 0 0 (.cell 0))) :: some (av (.int .i64 m)) :: none :: none :: none :: some (av (.int .i64 i)) :: List.replicate 13 none, ⟨0, 1, some [.us 112 rows]⟩ :: List.replicate 19 absent⟩
  refine ALoop.mk (fun n s => ∃ i : Nat, i ≤ xs.length ∧ n = xs.length - i ∧ s = S ((mkLs k (xs.take i) ++ xs.drop i).map encLO) i (posL k (xs.take i)))
    ⟨xs.length, _, Weak.nrm [true, true, false, false, false, true] [(0, 0)] rfl rfl rfl, 0, Nat.zero_le _, rfl, rfl⟩ ?_
  rintro n s ⟨i, hi, rfl, rfl⟩
  have hlen : (mkLs k (xs.take i) ++ xs.drop i).length = xs.length := by rw [List.length_append, mkLs_len, List.length_take, List.length_drop]; omega
  refine Split.mk fun t ht => ?_
  rw [List.length_map, hlen] at ht
  cases t
  · have hia : i = xs.length := by simp at ht; omega
    subst hia
    refine Need.mk ⟨[], _, .same, ?_, ?_⟩ trivial
    · rw [List.take_length]; rfl
    · rw [List.take_length, List.drop_length, List.append_nil]; rfl
  · have hia : i < xs.length := by simpa using ht
    have hget : (mkLs k (xs.take i) ++ xs.drop i)[i]? = some xs[i] := by
      rw [List.getElem?_append_right (by rw [mkLs_len, List.length_take]; omega), mkLs_len, List.length_take, Nat.min_eq_left (by omega), Nat.sub_self, List.getElem?_drop, Nat.add_zero, List.getElem?_eq_getElem hia]
    have hpos : posL k (xs.take (i + 1)) = posR (posL k (xs.take i)) xs[i] := by rw [List.take_succ_eq_append_getElem hia, posL_app]; rfl
    have hle : posL k (xs.take (i + 1)) ≤ 4611686018427387904 := by
      have : posL k xs = posL (posL k (xs.take (i + 1))) (xs.drop (i + 1)) := by rw [← posL_app, List.take_append_drop]
      have h2 := posL_le (xs.drop (i + 1)) (posL k (xs.take (i + 1)))
      omega
    have hrow : ((mkLs k (xs.take i) ++ xs.drop i).map encLO)[i]? = some (encLO xs[i]) := by rw [List.getElem?_map, hget]; rfl
    have hlt : i < ((mkLs k (xs.take i) ++ xs.drop i).map encLO).length := by rw [List.length_map, hlen]; exact hia
    refine Need.mk ⟨by omega, by omega⟩ ?_
    refine Row.mk _ hrow ?_
    refine Row.mk _ hrow ?_
    refine ACall.mk _ _ (laws_markRunS xs[i] (posL k (xs.take i)) (by omega)) ?_
    refine Row.mk _ hrow ?_
    refine Num.mk _ (wrapS (by omega)) ?_
    refine ⟨xs.length - (i + 1), _, by omega, Weak.nrm [true, true, false, false, false, true] [(0, 0)] rfl rfl rfl, i + 1, by omega, rfl, ?_⟩
    refine Eq.trans (b := S (((mkLs k (xs.take i) ++ xs.drop i).map encLO).set i (encLO (mkRs (posL k (xs.take i)) xs[i]))) (i + 1) (posR (posL k (xs.take i)) xs[i])) rfl ?_
    rw [hpos, ← List.map_set, mkLs_step hia]
end Go.Proofs.Ytlmdheeammfihaa

namespace Go.Proofs.Ytlmdheeammfihaa
open Go Go.Proofs Ev
set_option maxRecDepth 100000
set_option linter.unusedSimpArgs false
set_option linter.unusedVariables false
theorem laws_markIntS (xs : List Int) (k : Nat) (hk : k + xs.length ≤ 4611686018427387904) : AFn Try.prog 104 [.one (.ref 0 0 (.cell 0)), av (.int .i64 k)] [[.us 3 (xs.map encI)]] (.one (vi ((k + xs.length : Nat) : Int))) [[.us 3 ((markI k xs.length).map encI)]] := by
  refine AFn.introX (E := En 1 md0) (en_ok 1 md0) Try.func104 rfl rfl rfl fun _ _ => ?_
  let S : List (List C) → Nat → Nat → St := fun rows i m => ⟨some (.one (.ref 0 0 (.cell 0))) :: some (av (.int .i64 m)) :: none :: none :: none :: some (av (.int .i64 i)) :: List.replicate 13 none, ⟨0, 1, some [.us 3 rows]⟩ :: List.replicate 19 absent⟩
  refine ALoop.mk (fun n s => ∃ (i : Nat) (ys : List Int), i ≤ xs.length ∧ n = xs.length - i ∧ ys.length = xs.length ∧ (∀ j : Nat, j < i → ys[j]? = some ((k + j : Nat) : Int)) ∧ s = S (ys.map encI) i (k + i))
    ⟨xs.length, _, Weak.nrm [true, true, false, false, false, true] [(0, 0)] rfl rfl rfl, 0, xs, Nat.zero_le _, rfl, rfl, by intro j hj; omega, rfl⟩ ?_
  rintro n s ⟨i, ys, hi, rfl, hl, hm, rfl⟩
  refine Split.mk fun t ht => ?_
  rw [List.length_map] at ht
  cases t
  · have hia : i = xs.length := by simp at ht; omega
    subst hia
    refine Need.mk ⟨[], _, .same, rfl, ?_⟩ trivial
    rw [← markI_of hl hm]; rfl
  · have hia : i < ys.length := by simpa using ht
    refine Need.mk ⟨by omega, by simpa using hia⟩ ?_
    refine Row.mk _ (map_get _ ys i hia) ?_
    refine Num.mk _ (wrapS (by omega)) ?_
    refine Num.mk _ (wrapS (by omega)) ?_
    refine ⟨xs.length - (i + 1), _, by omega, Weak.nrm [true, true, false, false, false, true] [(0, 0)] rfl rfl rfl, i + 1, ys.set i ((k + i : Nat) : Int), by omega, rfl, by simpa using hl, fun j hj => ?_, ?_⟩
    · by_cases hji : j = i
      · subst hji; exact List.getElem?_set_self hia
      · rw [List.getElem?_set_ne (Ne.symm hji)]; exact hm j (by omega)
    · refine Eq.trans (b := S ((ys.map encI).set i (encI ((k + i : Nat) : Int))) (i + 1) (k + i + 1)) rfl ?_
      simp only [List.map_set]
      rfl
end Go.Proofs.Ytlmdheeammfihaa

namespace Go.Proofs.Ytlmdheeammfihaa
open Go Go.Proofs Ev
set_option maxRecDepth 100000
set_option linter.unusedSimpArgs false
set_option linter.unusedVariables false
def posT (k : Nat) (t : Tre) : Nat := posL (k + 5 * t.mem.length) t.levels + t.snaps.length
def mkT (k : Nat) (t : Tre) : Tre := ⟨t.seq, markL k t.mem.length, mkLs (k + 5 * t.mem.length) t.levels, markI (posL (k + 5 * t.mem.length) t.levels) t.snaps.length⟩
def argT (t : Tre) : AV := .agg [.c (vi t.seq), .ref 0 0 (.cell 0), .ref 1 0 (.cell 0), .ref 2 0 (.cell 0)]
def obsT (t : Tre) : List (List C) := [[.us 32 (t.mem.map Ent.enc)], [.us 112 (t.levels.map encLO)], [.us 3 (t.snaps.map encI)]]
theorem laws_markTree (t : Tre) (k : Nat) (hk : posT k t ≤ 4611686018427387904) : AFn Try.prog 41 [argT t, av (.int .i64 k)] (obsT t) (.one (vi (posT k t : Nat))) (obsT (mkT k t)) := by
  refine AFn.introX (E := En 3 (md1 [42, 103, 104]) [2]) (en_ok 3 _ _) Try.func41 rfl rfl rfl fun _ hs => ?_
  have h1 := posL_le t.levels (k + 5 * t.mem.length)
  unfold posT at hk
  refine ACall.mk _ _ (laws_markEntryS t.mem k (by omega)) ?_
  refine ACall.mk _ _ (laws_markRunSS t.levels (k + 5 * t.mem.length) (by omega)) ?_
  refine ACall.mk _ _ (laws_markIntS t.snaps (posL (k + 5 * t.mem.length) t.levels) (by omega)) ?_
  exact Need.mk ⟨[], _, .same, rfl, rfl⟩ trivial
end Go.Proofs.Ytlmdheeammfihaa

namespace Go.Proofs.Ytlmdheeammfihaa
open Go Go.Proofs Ev
set_option maxRecDepth 100000
set_option linter.unusedSimpArgs false
set_option linter.unusedVariables false
theorem laws_heldEntryS (k n : Nat) (hk : k + 5 * n ≤ 4611686018427387904) : AFn Try.prog 43 [sl ((markL k n).map Ent.enc), av (.int .i64 k)] [] (.one (vi ((k + 5 * n : Nat) : Int))) [] := by
  refine AFn.introX (E := En 0 md0) (en_ok 0 md0) Try.func43 rfl rfl rfl fun _ _ => ?_
  have hn : ((markL k n).map Ent.enc).length = n := by rw [List.length_map, markL_len]
  refine ALoop.mk (fun m s => ∃ i : Nat, i ≤ n ∧ m = n - i ∧
      s = ⟨some (sl ((markL k n).map Ent.enc)) :: some (av (.int .i64 ((k + 5 * i : Nat) : Int))) :: none :: none :: none :: some (av (.int .i64 i)) :: List.replicate 54 none, List.replicate 60 absent⟩)
    ⟨n, _, Weak.nrm [true, true, false, false, false, true] [] rfl rfl rfl, 0, Nat.zero_le _, rfl, rfl⟩ ?_
  rintro m s ⟨i, hi, rfl, rfl⟩
  refine Split.mk fun t ht => ?_
  rw [hn] at ht
  cases t
  · have hin : i = n := by simp at ht; omega
    subst hin
    exact Need.mk ⟨[], _, .same, rfl, rfl⟩ trivial
  · have hin : i < n := by simpa using ht
    have hget : ((markL k n).map Ent.enc)[i]? = some (markE (k + 5 * i)).enc := by rw [List.getElem?_map, markL_get hin]; rfl
    refine Need.mk (by omega) ?_
    refine Row.mk _ hget ?_
    refine ACall.mk _ _ (laws_markText (k + 5 * i) (by omega)) ?_
    refine Split.mk fun t ht => ?_
    rw [bytes_beq] at ht
    cases t
    · refine Need.mk rfl ?_
      refine Num.mk _ (wrapS (by omega)) ?_
      refine Need.mk (by omega) ?_
      refine Row.mk _ hget ?_
      refine Split.mk fun t ht => ?_
      cases t
      · refine Num.mk _ (wrapS (by omega)) ?_
        refine Need.mk (by omega) ?_
        refine Row.mk _ hget ?_
        refine Split.mk fun t ht => ?_
        cases t
        · refine Num.mk _ (wrapS (by omega)) ?_
          refine Need.mk (by omega) ?_
          refine Row.mk _ hget ?_
          refine ACall.mk _ _ (laws_markText (k + 5 * i + 1 + 1 + 1) (by omega)) ?_
          refine Split.mk fun t ht => ?_
          rw [bytes_beq] at ht
          cases t
          · refine Need.mk rfl ?_
            refine Num.mk _ (wrapS (by omega)) ?_
            refine Need.mk (by omega) ?_
            refine Row.mk _ hget ?_
            refine Split.mk fun t ht => ?_
            cases t
            · refine Num.mk _ (wrapS (by omega)) ?_
              refine Num.mk _ (wrapS (by omega)) ?_
              exact ⟨n - (i + 1), _, by omega, Weak.nrm [true, true, false, false, false, true] [] rfl rfl rfl, i + 1, by omega, rfl, rfl⟩
            · simp [markE] at ht <;> omega
          · simp [markE] at ht <;> omega
        · simp [markE] at ht <;> omega
      · simp [markE] at ht <;> omega
    · simp [markE] at ht <;> omega
end Go.Proofs.Ytlmdheeammfihaa

namespace Go.Proofs.Ytlmdheeammfihaa
open Go Go.Proofs Ev
set_option maxRecDepth 100000
set_option linter.unusedSimpArgs false
set_option linter.unusedVariables false
set_option maxHeartbeats 4000000
theorem laws_FnExactTreeAll (a : Tre) (ha : a.Ok) : AFn Try.prog 11 [.agg (a.enc.map .c)] [] (rb true) [] := by
  have hSz := laws_szTree a 1048576 ha (Nat.le_refl _)
  by_cases h1 : a.size ≤ 1048576
  · rw [cut_pos h1] at hSz
    have sa : a.Small := Tre.small h1
    have hz : ∀ l ∈ a.levels, ∀ r ∈ l, r.ents.length ≤ 1099511627776 := fun l hl r hr => Nat.le_trans ((sa.2.2.1 l hl).2 r hr) (by decide)
    have hT := laws_toTree a sa
    have hS := spec_TreeAll a ha (Nat.le_trans sa.2.2.2 (by decide)) hz
    have hI := impl_TreeAll a ha hz
    have hE := laws_eqTree a a
    rw [decide_eq_true rfl] at hE
    have hF1 := frzE (e := 32) a.mem
    have hF2 := frzRR a.levels
    have hF3 := frzI (e := 3) a.snaps
    have hle := treeAll_le a
    have hex : ∃ zs, treeAll a = zs := ⟨_, rfl⟩
    obtain ⟨zs, hb⟩ := hex
    rw [hb] at hS hI hle
    have hC := laws_eqEntryS zs zs
    rw [decide_eq_true rfl] at hC
    have hps : posT 1 a ≤ 6000000 := by
      have := posL_sz a.levels (1 + 5 * a.mem.length)
      have hz : a.size = sizeE a.mem + sizeRR a.levels + a.snaps.length := rfl
      have : a.mem.length ≤ sizeE a.mem := by unfold sizeE; omega
      unfold posT; omega
    have hM := laws_markTree a 1 (by omega)
    have hM2 := laws_markEntryS zs 1 (by omega)
    have hH := laws_heldEntryS 1 zs.length (by omega)
    have hex : ∃ p, posT 1 a = p := ⟨_, rfl⟩
    obtain ⟨p, hp⟩ := hex
    rw [hp] at hM hps
    refine AFn.introX (E := En 0 (mdv [41, 42] [])) (en_ok 0 _) Try.func11 rfl rfl rfl fun _ _ => ?_
    refine ACall.mk _ _ hSz ?_
    refine Split.mk fun t h1 => ?_
    cases t
    case true => cases h1
    refine ACall.mk _ _ hT ?_
    refine Fz.mk _ hF1 ?_
    refine Fz.mk _ hF2 ?_
    refine Fz.mk _ hF3 ?_
    refine ACall.mk _ _ hS ?_
    refine Need.mk (⟨ClL.mem (.us (clE _) .nil), no_objs⟩) ?_
    refine ACall.mk _ _ hT ?_
    refine Fz.mk _ hF1 ?_
    refine Fz.mk _ hF2 ?_
    refine Fz.mk _ hF3 ?_
    refine ACall.mk _ _ hI ?_
    refine Need.mk (⟨ClL.mem (.us (clE _) .nil), no_objs⟩) ?_
    refine Fz.mk _ (frzE _) ?_
    refine Fz.mk _ (frzE _) ?_
    refine ACall.mk _ _ hC ?_
    refine Need.mk (⟨ClL.mem (.v .nil), no_objs⟩) ?_
    refine Split.mk fun t h2 => ?_
    cases t
    case false => cases h2
    refine ACall.mk _ _ hT ?_
    refine Fz.mk _ hF1 ?_
    refine Fz.mk _ hF2 ?_
    refine Fz.mk _ hF3 ?_
    refine Fz.mk _ hF1 ?_
    refine Fz.mk _ hF2 ?_
    refine Fz.mk _ hF3 ?_
    refine ACall.mk _ _ hE ?_
    refine Need.mk (⟨ClL.mem (.v .nil), no_objs⟩) ?_
    refine Split.mk fun t h3 => ?_
    cases t
    case false => cases h3
    refine Need.mk (rfl) ?_
    refine ACall.mk _ _ hM ?_
    refine Split.mk fun t h4 => ?_
    cases t
    case true => cases h4
    refine Fz.mk _ (frzE _) ?_
    refine Fz.mk _ (frzE _) ?_
    refine ACall.mk _ _ hC ?_
    refine Need.mk (⟨ClL.mem (.v .nil), no_objs⟩) ?_
    refine Split.mk fun t h5 => ?_
    cases t
    case false => cases h5
    refine ACall.mk _ _ hM2 ?_
    refine Fz.mk _ (frzE _) ?_
    refine ACall.mk _ _ hH ?_
    refine Need.mk (⟨ClL.mem (.v .nil), no_objs⟩) ?_
    refine Split.mk fun t h6 => ?_
    cases t
    case true => cases h6
    refine Split.mk fun t h7 => ?_
    cases t
    case true => (exfalso; rw [bne_iff_ne] at h7; omega)
    rw [bne_eq_false_iff_eq] at h7
    refine ACall.mk _ _ hT ?_
    refine Fz.mk _ hF1 ?_
    refine Fz.mk _ hF2 ?_
    refine Fz.mk _ hF3 ?_
    refine ACall.mk _ _ hI ?_
    refine Need.mk (⟨ClL.mem (.us (clE _) .nil), no_objs⟩) ?_
    refine Fz.mk _ (frzE _) ?_
    refine Fz.mk _ (frzE _) ?_
    refine ACall.mk _ _ hC ?_
    refine Need.mk (⟨ClL.mem (.v .nil), no_objs⟩) ?_
    refine Split.mk fun t h8 => ?_
    cases t
    case false => cases h8
    refine Fz.mk _ (frzE _) ?_
    refine ACall.mk _ _ hH ?_
    refine Need.mk (⟨ClL.mem (.v .nil), no_objs⟩) ?_
    refine Split.mk fun t h9 => ?_
    cases t
    case true => cases h9
    refine Split.mk fun t h10 => ?_
    cases t
    case true => (exfalso; rw [bne_iff_ne] at h10; omega)
    rw [bne_eq_false_iff_eq] at h10
    exact Need.mk ⟨[], _, .same, rfl, rfl⟩ trivial
  · rw [cut_neg h1] at hSz
    refine AFn.introX (E := En 0 (mdv [41, 42] [])) (en_ok 0 _) Try.func11 rfl rfl rfl fun _ _ => ?_
    refine ACall.mk _ _ hSz ?_
    refine Split.mk fun t h1 => ?_
    cases t
    case false => cases h1
    exact Need.mk ⟨[], _, .same, rfl, rfl⟩ trivial
theorem laws_FnExactTreeAll_any (r0 : List C) (h0 : ShL tyTre r0) : AFn Try.prog 11 [.agg (r0.map .c)] [] (rb true) [] := by
  obtain ⟨a, rfl, wa⟩ := dec_tre h0
  exact laws_FnExactTreeAll a wa.ok
end Go.Proofs.Ytlmdheeammfihaa
