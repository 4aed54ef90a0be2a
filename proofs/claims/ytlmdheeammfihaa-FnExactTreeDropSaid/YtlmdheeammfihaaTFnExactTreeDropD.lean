/-
  Contracts of functions, part 4.
-/
import Derived.Test.YtlmdheeammfihaaTFnExactTreeDropC
namespace Go.Proofs.Ytlmdheeammfihaa
open Go Go.Proofs Ev
set_option maxRecDepth 100000
set_option linter.unusedSimpArgs false
set_option linter.unusedVariables false
set_option maxHeartbeats 4000000
def encXI (l : List Int) : List C := [.sl (l.map encI)]
def growI_ren : Go.Shelf.Ren := ⟨fun | 4 => 150 | n => n, fun | 22 => 48 | 25 => 3 | n => n, fun | n => n⟩
theorem growI_lays : Go.Proofs.Lays8.n4 Try.prog growI_ren := {
  mixed := by kernel_rfl
  f4 := ⟨Try.f150.name, by decide, Try.func150.trans (congrArg some (by kernel_rfl))⟩
  t0 := Try.underlying0
  a0 := Try.isAgg0
  z0 := Try.sizeOf0
  v0 := Try.zeroValue0
  t3 := Try.underlying3
  a3 := Try.isAgg3
  z3 := Try.sizeOf3
  v3 := Try.zeroValue3
  t4 := Try.underlying4
  a4 := Try.isAgg4
  z4 := Try.sizeOf4
  v4 := Try.zeroValue4
  t9 := Try.underlying9
  a9 := Try.isAgg9
  z9 := Try.sizeOf9
  v9 := Try.zeroValue9
  t20 := Try.underlying20
  a20 := Try.isAgg20
  z20 := Try.sizeOf20
  v20 := Try.zeroValue20
  t22 := Try.underlying48
  a22 := Try.isAgg48
  z22 := Try.sizeOf48
  v22 := Try.zeroValue48 }
theorem growI_info : (Try.prog.info? 3).map (fun i => (i.zero, i.size, i.bytes)) = some (some (.int .i64 0), 1, 8) := by kernel_rfl
theorem slices_GrowI (n : Nat) (hn : n ≤ 1099511627776) : AFn Try.prog 150 [.one (.c (.v nilV)), av (.int .i64 n)] [] (.one (.us 3 [])) [] := by
  cases hi : Try.prog.info? 3 with
  | none => have h := growI_info; rw [hi] at h; cases h
  | some i0 =>
    have h := growI_info
    rw [hi] at h
    simp only [Option.map_some, Option.some.injEq, Prod.mk.injEq] at h
    obtain ⟨h1, h2, h3⟩ := h
    exact grow_ok growI_lays rfl rfl hi h1 (by omega) (by kernel_rfl) (pos_of tab_ok (t := 3) rfl) n (by rw [h3]; omega) (by omega)
theorem slices_ConcatI (L : List (List Int)) (hL : L.length ≤ 1000000) (hl : ∀ l ∈ L, l.length ≤ 1000000) (hf : L.flatten.length ≤ 1000000) : AFn Try.prog 111 [sl (L.map encXI)] [] (.one (.us 3 (L.flatten.map encI))) [] := by
  have hn : (L.map encXI).length = L.length := List.length_map ..
  have hsum : ∀ i, (L.take i).flatten.length ≤ 1000000 := fun i => Nat.le_trans (flat_take_le L i) hf
  refine AFn.introX (E := En 0 (fun f => if f = 150 then 3 else 0)) (en_ok 0 _) Try.func111 rfl rfl rfl fun _ _ => ?_
  let S : Nat → Nat → St := fun n i => ⟨some (sl (L.map encXI)) :: none :: none :: some (av (.int .i64 n)) :: none :: none :: none :: none :: none :: some (sl (L.map encXI)) :: some (av (.int .i64 (L.map encXI).length)) :: some (av (.int .i64 i)) :: List.replicate 24 none, List.replicate 36 absent⟩
  refine ALoop.mk (fun m s => ∃ i : Nat, i ≤ L.length ∧ m = L.length - i ∧ s = S (L.take i).flatten.length i)
    ⟨_, _, Weak.nrm [true, false, false, true, false, false, false, false, false, true, true, true] [] rfl rfl rfl, 0, Nat.zero_le _, rfl, rfl⟩ ?_
  rintro m s ⟨i, hi, rfl, hs⟩
  by_cases hin : i = L.length
  · rw [hin, List.take_length] at hs
    have hG := slices_GrowI L.flatten.length (by omega)
    have hex : ∃ n, L.flatten.length = n := ⟨_, rfl⟩
    obtain ⟨n, hN⟩ := hex
    rw [hN] at hs hG
    subst hs
    refine Split.mk fun t h1 => ?_
    cases t
    case true => (exfalso; rw [decide_eq_true_iff] at h1; omega)
    rw [decide_eq_false_iff_not] at h1
    refine ACall.mk _ _ hG ?_
    let S2 : List (List C) → Nat → St := fun R i => ⟨none :: none :: none :: none :: none :: none :: some (.one (.ref 6 0 (.cell 0))) :: none :: none :: none :: none :: none :: none :: none :: none :: none :: none :: none :: none :: none :: none :: none :: none :: none :: none :: some (sl (L.map encXI)) :: some (av (.int .i64 (L.map encXI).length)) :: some (av (.int .i64 i)) :: List.replicate 8 none, absent :: absent :: absent :: absent :: absent :: absent :: ⟨0, 1, some [.us 3 R]⟩ :: List.replicate 29 absent⟩
    refine ALoop.mk (fun m s => ∃ i : Nat, i ≤ L.length ∧ m = L.length - i ∧ s = S2 ((L.take i).flatten.map encI) i)
      ⟨_, _, Weak.nrm [false, false, false, false, false, false, true, false, false, false, false, false, false, false, false, false, false, false, false, false, false, false, false, false, false, true, true, true] [(24, 6)] rfl rfl rfl, 0, Nat.zero_le _, rfl, rfl⟩ ?_
    rintro m s ⟨i, hi, hm2, hs⟩
    by_cases hin : i = L.length
    · rw [hin, List.take_length] at hs
      subst hs
      refine Split.mk fun t h1 => ?_
      cases t
      case true => (exfalso; rw [decide_eq_true_iff] at h1; omega)
      rw [decide_eq_false_iff_not] at h1
      exact Need.mk ⟨[], _, .same, rfl, rfl⟩ trivial
    · have hia : i < L.length := by omega
      have hft := flat_take L hia
      have hs1 := hsum i
      have hx := hl _ (List.getElem_mem hia)
      have hex : ∃ xs, L[i] = xs := ⟨_, rfl⟩
      obtain ⟨xs, hxs⟩ := hex
      have hrow : (L.map encXI)[i]? = some (encXI xs) := by rw [map_get _ L i hia, hxs]
      rw [hxs] at hft hx
      have hex : ∃ G, (L.take i).flatten = G := ⟨_, rfl⟩
      obtain ⟨G, hG2⟩ := hex
      rw [hG2] at hs hs1 hft
      subst hs
      refine Split.mk fun t h1 => ?_
      cases t
      case false => (exfalso; rw [decide_eq_false_iff_not] at h1; omega)
      rw [decide_eq_true_iff] at h1
      refine Need.mk (by omega) ?_
      refine Row.mk _ hrow ?_
      refine Need.mk (⟨(plainI _), (lenI _)⟩) ?_
      refine Need.mk (appEq (A' := _) (B' := _) rfl rfl (by simp only [List.length_append, List.length_map, List.length_take, List.length_drop, List.length_cons, List.length_nil, List.length_reverse, List.length_replicate, List.length_set]; omega) (by decide)) ?_
      refine Num.mk _ (wrapS (by omega)) ?_
      exact ⟨_, _, by omega, Weak.nrm [false, false, false, false, false, false, true, false, false, false, false, false, false, false, false, false, false, false, false, false, false, false, false, false, false, true, true, true] [(33, 6)] rfl rfl rfl, i + 1, by omega, rfl, Eq.trans (b := S2 (G.map encI ++ xs.map encI) (i + 1)) rfl (by rw [hft, List.map_append])⟩
  · have hia : i < L.length := by omega
    have hft := flat_take L hia
    have hs1 := hsum i
    have hx := hl _ (List.getElem_mem hia)
    have hex : ∃ xs, L[i] = xs := ⟨_, rfl⟩
    obtain ⟨xs, hxs⟩ := hex
    have hrow : (L.map encXI)[i]? = some (encXI xs) := by rw [map_get _ L i hia, hxs]
    rw [hxs] at hft hx
    have hfl : (L.take (i + 1)).flatten.length = (L.take i).flatten.length + xs.length := by rw [hft, List.length_append]
    have hxn : (xs.map encI).length = xs.length := List.length_map ..
    have hex : ∃ n, (L.take i).flatten.length = n := ⟨_, rfl⟩
    obtain ⟨n, hN⟩ := hex
    rw [hN] at hs hs1 hfl
    have hwr : IntKind.i64.wrap ((n : Int) + ((xs.map encI).length : Nat)) = ((n + xs.length : Nat) : Int) := wrapI' (by omega) (by omega)
    subst hs
    refine Split.mk fun t h1 => ?_
    cases t
    case false => (exfalso; rw [decide_eq_false_iff_not] at h1; omega)
    rw [decide_eq_true_iff] at h1
    refine Need.mk (by omega) ?_
    refine Row.mk _ hrow ?_
    refine Num.mk _ hwr ?_
    refine Split.mk fun t h2 => ?_
    cases t
    case true => cases h2
    refine Num.mk _ (wrapS (by omega)) ?_
    exact ⟨_, _, by omega, Weak.nrm [true, false, false, true, false, false, false, false, false, true, true, true] [] rfl rfl rfl, i + 1, by omega, rfl, Eq.trans (b := S (n + xs.length) (i + 1)) rfl (by rw [hfl])⟩
end Go.Proofs.Ytlmdheeammfihaa

namespace Go.Proofs.Ytlmdheeammfihaa
open Go Go.Proofs Ev
set_option maxRecDepth 100000
set_option linter.unusedSimpArgs false
set_option linter.unusedVariables false
set_option maxHeartbeats 8000000
theorem impl_treeCopy (t : Tre) (ht : t.Small) : AFn Try.prog 149 [.agg (t.enc.map .c)] [] (.agg (encTO t)) [] := by
  have h1 := ht.1
  have h2 := ht.2.2.2
  have hL := impl_levelsCopy t.levels ht.2.1 ht.2.2.1
  refine AFn.introX (E := En 0 md0) (en_ok 0 _) Try.func149 rfl rfl rfl fun _ _ => ?_
  refine Need.mk (⟨(plainE _), (lenE _)⟩) ?_
  refine Need.mk (appEq (A' := []) (B' := _) rfl rfl (by simp only [List.length_append, List.length_map, List.length_take, List.length_drop, List.length_cons, List.length_nil, List.length_reverse, List.length_replicate, List.length_set]; omega) (by decide)) ?_
  refine ACall.mk _ _ hL ?_
  refine Need.mk (⟨(plainI _), (lenI _)⟩) ?_
  refine Need.mk (appEq (A' := []) (B' := _) rfl rfl (by simp only [List.length_append, List.length_map, List.length_take, List.length_drop, List.length_cons, List.length_nil, List.length_reverse, List.length_replicate, List.length_set]; omega) (by decide)) ?_
  refine Need.mk (rfl) ?_
  exact Need.mk ⟨[], _, .same, rfl, rfl⟩ trivial
theorem spec_l5Copy (t : Tre) (ht : t.Small) : AFn Try.prog 107 [.agg (t.enc.map .c)] [] (.agg (encTO t)) [] := by
  have h1 := ht.1
  have h2 := ht.2.2.2
  have hL := spec_l5CopyLevels t.levels ht.2.1 ht.2.2.1
  refine AFn.introX (E := En 0 md0) (en_ok 0 _) Try.func107 rfl rfl rfl fun _ _ => ?_
  refine Need.mk (⟨(plainE _), (lenE _)⟩) ?_
  refine Need.mk (appEq (A' := []) (B' := _) rfl rfl (by simp only [List.length_append, List.length_map, List.length_take, List.length_drop, List.length_cons, List.length_nil, List.length_reverse, List.length_replicate, List.length_set]; omega) (by decide)) ?_
  refine ACall.mk _ _ hL ?_
  refine Need.mk (⟨(plainI _), (lenI _)⟩) ?_
  refine Need.mk (appEq (A' := []) (B' := _) rfl rfl (by simp only [List.length_append, List.length_map, List.length_take, List.length_drop, List.length_cons, List.length_nil, List.length_reverse, List.length_replicate, List.length_set]; omega) (by decide)) ?_
  refine Need.mk (rfl) ?_
  exact Need.mk ⟨[], _, .same, rfl, rfl⟩ trivial
end Go.Proofs.Ytlmdheeammfihaa

namespace Go.Proofs.Ytlmdheeammfihaa
open Go Go.Proofs Ev
set_option maxRecDepth 100000
set_option linter.unusedSimpArgs false
set_option linter.unusedVariables false
set_option maxHeartbeats 8000000
theorem slices_ContainsI (xs : List Int) (z : Int) (hl : xs.length ≤ 1048576) : AFn Try.prog 152 [sl (xs.map encI), av (.int .i64 z)] [] (rb (decide (idxV xs z ≥ 0))) [] := by
  have hI := slices_IndexI xs z hl
  refine AFn.introX (E := En 0 md0) (en_ok 0 _) Try.func152 rfl rfl rfl fun _ _ => ?_
  refine ACall.mk _ _ hI ?_
  refine Split.mk fun t h1 => ?_
  cases t
  · skip
    rw [decide_eq_false_iff_not] at h1
    exact Need.mk ⟨[], _, .same, congrArg rb (decide_eq_false h1).symm, rfl⟩ trivial
  · skip
    rw [decide_eq_true_iff] at h1
    exact Need.mk ⟨[], _, .same, congrArg rb (decide_eq_true h1).symm, rfl⟩ trivial
theorem impl_treeSnap (t : Tre) (hs : t.snaps.length ≤ 1048576) : AFn Try.prog 115 [.agg (t.enc.map .c)] [] (.tup [.agg (snapD t).1.enc, .one (vb (snapD t).2)]) [] := by
  have hC := slices_ContainsI t.snaps t.seq hs
  have hn : (t.snaps.map encI).length = t.snaps.length := List.length_map ..
  by_cases h0 : 0 ≤ idxV t.snaps t.seq
  · rw [decide_eq_true h0] at hC
    rw [show snapD t = (t, false) by unfold snapD; rw [if_pos (.inl h0)]]
    refine AFn.introX (E := En 0 md0) (en_ok 0 _) Try.func115 rfl rfl rfl fun _ _ => ?_
    refine ACall.mk _ _ hC ?_
    refine Split.mk fun t h1 => ?_
    cases t
    case false => cases h1
    exact Need.mk ⟨[], _, .same, rfl, rfl⟩ trivial
  · rw [decide_eq_false h0] at hC
    by_cases h4 : 4 ≤ t.snaps.length
    · rw [show snapD t = (t, false) by unfold snapD; rw [if_pos (.inr h4)]]
      refine AFn.introX (E := En 0 md0) (en_ok 0 _) Try.func115 rfl rfl rfl fun _ _ => ?_
      refine ACall.mk _ _ hC ?_
      refine Split.mk fun t h1 => ?_
      cases t
      case true => cases h1
      refine Split.mk fun t h2 => ?_
      cases t
      case false => (exfalso; rw [decide_eq_false_iff_not] at h2; omega)
      rw [decide_eq_true_iff] at h2
      exact Need.mk ⟨[], _, .same, rfl, rfl⟩ trivial
    · rw [show snapD t = ({ t with snaps := t.snaps ++ [t.seq] }, true) by unfold snapD; rw [if_neg (fun h => h.elim h0 h4)]]
      have hF := frzI (e := 3) [t.seq]
      have hK := slices_ConcatI [t.snaps, [t.seq]] (by simp) (by simp; omega) (by simp; omega)
      rw [show [t.snaps, [t.seq]].flatten = t.snaps ++ [t.seq] by simp] at hK
      refine AFn.introX (E := En 0 md0 (fb := [4])) (en_ok 0 _ _ _ _ _) Try.func115 rfl rfl rfl fun _ _ => ?_
      refine ACall.mk _ _ hC ?_
      refine Split.mk fun t h1 => ?_
      cases t
      case true => cases h1
      refine Split.mk fun t h2 => ?_
      cases t
      case true => (exfalso; rw [decide_eq_true_iff] at h2; omega)
      rw [decide_eq_false_iff_not] at h2
      refine Fz.mk _ (FrzLL.frz (.cons (.cons .sl .nil) (.cons (.cons (FrzLL.frz (.cons (.cons .v .nil) .nil)) .nil) .nil))) ?_
      refine ACall.mk _ _ hK ?_
      refine Need.mk (⟨ClL.mem (.us (clI _) .nil), no_objs⟩) ?_
      refine Fz.mk _ (frzI _) ?_
      exact Need.mk ⟨[], _, .same, rfl, rfl⟩ trivial
theorem treeDo_f (f : FuncId) (d : Tre → Tre × Bool) (t : Tre) (ht : t.Ok) (hsm : t.Small) (hd : treeOk t = true → AFn Try.prog f [.agg (t.enc.map .c)] [] (.tup [.agg (d t).1.enc, .one (vb (d t).2)]) []) (hds : treeOk t = true → (d t).1.Small) :
    AFn Try.prog 108 [.agg (t.enc.map .c), av (.func (.func f) #[] #[])] [] (.tup [.agg (encTO (treeDo t d).1), .one (vb (treeDo t d).2)]) [] := by
  have hO := impl_TreeOk t ht fun l hl r hr => Nat.le_trans ((hsm.2.2.1 l hl).2 r hr) (by decide)
  cases hb : treeOk t with
  | false =>
    rw [hb] at hO
    rw [show treeDo t d = (tre00, false) by unfold treeDo; rw [hb]; rfl]
    refine AFn.introX (E := En 0 md0) (en_ok 0 _ _ _ _ _) Try.func108 rfl rfl rfl fun _ _ => ?_
    refine ACall.mk _ _ hO ?_
    refine Split.mk fun t h1 => ?_
    cases t
    case true => cases h1
    exact Need.mk ⟨[], _, .same, rfl, rfl⟩ trivial
  | true =>
    rw [hb] at hO
    have hd := hd hb
    have hds := hds hb
    have hc1 := impl_treeCopy t hsm
    have hc2 := impl_treeCopy (d t).1 hds
    cases hb2 : (d t).2 with
    | false =>
      rw [hb2] at hd
      rw [show treeDo t d = (t, false) by unfold treeDo; rw [if_pos hb, if_neg (by rw [hb2]; simp)]]
      refine AFn.introX (E := En 0 md0) (en_ok 0 _ _ _ _ _) Try.func108 rfl rfl rfl fun _ _ => ?_
      refine ACall.mk _ _ hO ?_
      refine Split.mk fun t h1 => ?_
      cases t
      case false => cases h1
      refine ACall.mk _ _ hd ?_
      refine Split.mk fun t h2 => ?_
      cases t
      case true => cases h2
      refine ACall.mk _ _ hc1 ?_
      exact Need.mk ⟨[], _, .same, rfl, rfl⟩ trivial
    | true =>
      rw [hb2] at hd
      rw [show treeDo t d = ((d t).1, true) by unfold treeDo; rw [if_pos hb, if_pos hb2]; exact Prod.ext rfl hb2]
      have hex : ∃ x, (d t).1 = x := ⟨_, rfl⟩
      obtain ⟨x, hx⟩ := hex
      rw [hx] at hd hc2
      rw [hx]
      refine AFn.introX (E := En 0 md0) (en_ok 0 _ _ _ _ _) Try.func108 rfl rfl rfl fun _ _ => ?_
      refine ACall.mk _ _ hO ?_
      refine Split.mk fun t h1 => ?_
      cases t
      case false => cases h1
      refine ACall.mk _ _ hd ?_
      refine Split.mk fun t h2 => ?_
      cases t
      case false => cases h2
      refine ACall.mk _ _ hc2 ?_
      exact Need.mk ⟨[], _, .same, rfl, rfl⟩ trivial
theorem treeDo_c1 (f : FuncId) (o : C) (d : Tre → Tre × Bool) (t : Tre) (ht : t.Ok) (hsm : t.Small) (hd : treeOk t = true → AFnK Try.prog f [.agg (t.enc.map .c), .bx 0 0] [[o]] [0] (.tup [.agg (d t).1.enc, .one (vb (d t).2)]) [[o]]) (hds : treeOk t = true → (d t).1.Small) :
    AFnK Try.prog 108 [.agg (t.enc.map .c), .clo f [.bx 0 0]] [[o]] [0] (.tup [.agg (encTO (treeDo t d).1), .one (vb (treeDo t d).2)]) [[o]] := by
  have hO := impl_TreeOk t ht fun l hl r hr => Nat.le_trans ((hsm.2.2.1 l hl).2 r hr) (by decide)
  cases hb : treeOk t with
  | false =>
    rw [hb] at hO
    rw [show treeDo t d = (tre00, false) by unfold treeDo; rw [hb]; rfl]
    refine AFnK.introX (E := En 1 md0) (en_ok 1 _ _ _ _ _) Try.func108 rfl rfl rfl fun _ _ => ?_
    refine ACall.mk _ _ hO ?_
    refine Split.mk fun t h1 => ?_
    cases t
    case true => cases h1
    exact Need.mk ⟨[], _, .same, rfl, rfl⟩ trivial
  | true =>
    rw [hb] at hO
    have hd := hd hb
    have hds := hds hb
    have hc1 := impl_treeCopy t hsm
    have hc2 := impl_treeCopy (d t).1 hds
    cases hb2 : (d t).2 with
    | false =>
      rw [hb2] at hd
      rw [show treeDo t d = (t, false) by unfold treeDo; rw [if_pos hb, if_neg (by rw [hb2]; simp)]]
      refine AFnK.introX (E := En 1 md0) (en_ok 1 _ _ _ _ _) Try.func108 rfl rfl rfl fun _ _ => ?_
      refine ACall.mk _ _ hO ?_
      refine Split.mk fun t h1 => ?_
      cases t
      case false => cases h1
      refine ACall.mk _ _ hd ?_
      refine Split.mk fun t h2 => ?_
      cases t
      case true => cases h2
      refine ACall.mk _ _ hc1 ?_
      exact Need.mk ⟨[], _, .same, rfl, rfl⟩ trivial
    | true =>
      rw [hb2] at hd
      rw [show treeDo t d = ((d t).1, true) by unfold treeDo; rw [if_pos hb, if_pos hb2]; exact Prod.ext rfl hb2]
      have hex : ∃ x, (d t).1 = x := ⟨_, rfl⟩
      obtain ⟨x, hx⟩ := hex
      rw [hx] at hd hc2
      rw [hx]
      refine AFnK.introX (E := En 1 md0) (en_ok 1 _ _ _ _ _) Try.func108 rfl rfl rfl fun _ _ => ?_
      refine ACall.mk _ _ hO ?_
      refine Split.mk fun t h1 => ?_
      cases t
      case false => cases h1
      refine ACall.mk _ _ hd ?_
      refine Split.mk fun t h2 => ?_
      cases t
      case false => cases h2
      refine ACall.mk _ _ hc2 ?_
      exact Need.mk ⟨[], _, .same, rfl, rfl⟩ trivial
theorem snapD_small {t : Tre} (h : t.Small) : (snapD t).1.Small := by
  unfold snapD
  split
  · exact h
  · rename_i hh
    exact ⟨h.1, h.2.1, h.2.2.1, by show (t.snaps ++ [t.seq]).length ≤ _; rw [List.length_append]; have : ¬ 4 ≤ t.snaps.length := fun h4 => hh (.inr h4); simp; omega⟩
theorem impl_TreeSnap (t : Tre) (ht : t.Ok) (hsm : t.Small) : AFn Try.prog 51 [.agg (t.enc.map .c)] [] (.tup [.agg (encTO (treeDo t snapD).1), .one (vb (treeDo t snapD).2)]) [] := by
  have hD := treeDo_f 115 snapD t ht hsm (fun _ => impl_treeSnap t hsm.2.2.2) (fun _ => snapD_small hsm)
  have hex : ∃ x, treeDo t snapD = x := ⟨_, rfl⟩
  obtain ⟨x, hx⟩ := hex
  rw [hx] at hD
  rw [hx]
  refine AFn.introX (E := En 0 md0) (en_ok 0 _ _ _ _ _) Try.func51 rfl rfl rfl fun _ _ => ?_
  refine ACall.mk _ _ hD ?_
  refine Split.mk fun t h1 => ?_
  cases t
  · skip
    exact Need.mk ⟨[], _, .same, by rw [h1]; rfl, rfl⟩ trivial
  · skip
    exact Need.mk ⟨[], _, .same, by rw [h1]; rfl, rfl⟩ trivial
theorem spec_l5Has (t : Tre) (seq : Int) (hs : t.snaps.length ≤ 1048576) : AFn Try.prog 114 [.agg (t.enc.map .c), av (.int .i64 seq)] [] (rb (decide (0 ≤ idxV t.snaps seq))) [] := by
  have hn : (t.snaps.map encI).length = t.snaps.length := List.length_map ..
  refine AFn.introX (E := En 0 md0) (en_ok 0 _ _ _ _ _) Try.func114 rfl rfl rfl fun _ _ => ?_
  let S : Nat → St := fun i => ⟨none :: some (av (.int .i64 seq)) :: some (.bx 2 0) :: none :: none :: some (av (.int .i64 i)) :: List.replicate 14 none, absent :: absent :: ⟨0, 0, some t.enc⟩ :: List.replicate 17 absent⟩
  refine ALoop.mk (fun m s => ∃ i : Nat, i ≤ t.snaps.length ∧ m = t.snaps.length - i ∧ (∀ j, j < i → ∀ h : j < t.snaps.length, t.snaps[j] ≠ seq) ∧ s = S i)
    ⟨_, _, Weak.nrm [false, true, true, false, false, true] [(2, 2)] rfl rfl rfl, 0, Nat.zero_le _, rfl, fun j h => absurd h (by omega), rfl⟩ ?_
  rintro m s ⟨i, hi, rfl, hall, hs⟩
  by_cases hin : i = t.snaps.length
  · have hres : decide (0 ≤ idxV t.snaps seq) = false := by rw [idxV_none fun j hj => hall j (by omega)]; rfl
    subst hs
    refine Split.mk fun t h1 => ?_
    cases t
    case true => (exfalso; rw [decide_eq_true_iff] at h1; omega)
    rw [decide_eq_false_iff_not] at h1
    exact Need.mk ⟨[], _, .same, congrArg rb hres.symm, rfl⟩ trivial
  · have hia : i < t.snaps.length := by omega
    by_cases hz : t.snaps[i] = seq
    · have hres : decide (0 ≤ idxV t.snaps seq) = true := by rw [idxV_some hia hz hall]; exact decide_eq_true (by omega)
      subst hs
      refine Split.mk fun t h1 => ?_
      cases t
      case false => (exfalso; rw [decide_eq_false_iff_not] at h1; omega)
      rw [decide_eq_true_iff] at h1
      refine Need.mk (by omega) ?_
      refine Row.mk _ (map_get _ t.snaps i (by omega)) ?_
      refine Split.mk fun t h2 => ?_
      cases t
      case false => (exfalso; rw [beq_eq_false_iff_ne] at h2; omega)
      rw [beq_iff_eq] at h2
      exact Need.mk ⟨[], _, .same, congrArg rb hres.symm, rfl⟩ trivial
    · have hok : ∀ h : i < t.snaps.length, t.snaps[i] ≠ seq := fun _ h => hz h
      subst hs
      refine Split.mk fun t h1 => ?_
      cases t
      case false => (exfalso; rw [decide_eq_false_iff_not] at h1; omega)
      rw [decide_eq_true_iff] at h1
      refine Need.mk (by omega) ?_
      refine Row.mk _ (map_get _ t.snaps i (by omega)) ?_
      refine Split.mk fun t h2 => ?_
      cases t
      case true => (exfalso; rw [beq_iff_eq] at h2; omega)
      rw [beq_eq_false_iff_ne] at h2
      refine Num.mk _ (wrapS (by omega)) ?_
      exact ⟨_, _, by omega, Weak.nrm [false, true, true, false, false, true] [(2, 2)] rfl rfl rfl, i + 1, by omega, rfl, allS hall hok, rfl⟩
theorem spec_TreeSnap (t : Tre) (ht : t.Ok) (hsm : t.Small) : AFn Try.prog 50 [.agg (t.enc.map .c)] [] (.tup [.agg (encTO (treeDo t snapD).1), .one (vb (treeDo t snapD).2)]) [] := by
  have hO := spec_TreeOk t ht (Nat.le_trans hsm.2.2.2 (by decide)) fun l hl r hr => Nat.le_trans ((hsm.2.2.1 l hl).2 r hr) (by decide)
  cases hb : treeOk t with
  | false =>
    rw [hb] at hO
    rw [show treeDo t snapD = (tre00, false) by unfold treeDo; rw [hb]; rfl]
    refine AFn.introX (E := En 0 md0) (en_ok 0 _ _ _ _ _) Try.func50 rfl rfl rfl fun _ _ => ?_
    refine ACall.mk _ _ hO ?_
    refine Split.mk fun t h1 => ?_
    cases t
    case true => cases h1
    exact Need.mk ⟨[], _, .same, rfl, rfl⟩ trivial
  | true =>
    rw [hb] at hO
    have hC := spec_l5Copy t hsm
    have hH := spec_l5Has t t.seq hsm.2.2.2
    have hn : (t.snaps.map encI).length = t.snaps.length := List.length_map ..
    by_cases h0 : 0 ≤ idxV t.snaps t.seq
    · rw [decide_eq_true h0] at hH
      have e1 : snapD t = (t, false) := by unfold snapD; rw [if_pos (.inl h0)]
      rw [show treeDo t snapD = (t, false) by unfold treeDo; rw [if_pos hb, e1]; rfl]
      refine AFn.introX (E := En 0 md0) (en_ok 0 _ _ _ _ _) Try.func50 rfl rfl rfl fun _ _ => ?_
      refine ACall.mk _ _ hO ?_
      refine Split.mk fun t h1 => ?_
      cases t
      case false => cases h1
      refine ACall.mk _ _ hC ?_
      refine ACall.mk _ _ hH ?_
      refine Split.mk fun t h2 => ?_
      cases t
      case false => cases h2
      exact Need.mk ⟨[], _, .same, rfl, rfl⟩ trivial
    · rw [decide_eq_false h0] at hH
      by_cases h4 : 4 ≤ t.snaps.length
      · have e1 : snapD t = (t, false) := by unfold snapD; rw [if_pos (.inr h4)]
        rw [show treeDo t snapD = (t, false) by unfold treeDo; rw [if_pos hb, e1]; rfl]
        refine AFn.introX (E := En 0 md0) (en_ok 0 _ _ _ _ _) Try.func50 rfl rfl rfl fun _ _ => ?_
        refine ACall.mk _ _ hO ?_
        refine Split.mk fun t h1 => ?_
        cases t
        case false => cases h1
        refine ACall.mk _ _ hC ?_
        refine ACall.mk _ _ hH ?_
        refine Split.mk fun t h2 => ?_
        cases t
        case true => cases h2
        refine Split.mk fun t h3 => ?_
        cases t
        case false => (exfalso; rw [decide_eq_false_iff_not] at h3; omega)
        rw [decide_eq_true_iff] at h3
        exact Need.mk ⟨[], _, .same, rfl, rfl⟩ trivial
      · have e1 : snapD t = ({ t with snaps := t.snaps ++ [t.seq] }, true) := by unfold snapD; rw [if_neg (fun h => h.elim h0 h4)]
        rw [show treeDo t snapD = ({ t with snaps := t.snaps ++ [t.seq] }, true) by unfold treeDo; rw [if_pos hb, e1]; rfl]
        have hres : RV.tup [.agg [vi t.seq, .us 32 (t.mem.map Ent.enc), .us 112 (t.levels.map encLO), .us 3 (t.snaps.map encI ++ [encI t.seq])], .one (vb true)] = .tup [.agg (encTO { t with snaps := t.snaps ++ [t.seq] }), .one (vb true)] := by unfold encTO; rw [List.map_append]; rfl
        refine AFn.introX (E := En 0 md0) (en_ok 0 _ _ _ _ _) Try.func50 rfl rfl rfl fun _ _ => ?_
        refine ACall.mk _ _ hO ?_
        refine Split.mk fun t h1 => ?_
        cases t
        case false => cases h1
        refine ACall.mk _ _ hC ?_
        refine ACall.mk _ _ hH ?_
        refine Split.mk fun t h2 => ?_
        cases t
        case true => cases h2
        refine Split.mk fun t h3 => ?_
        cases t
        case true => (exfalso; rw [decide_eq_true_iff] at h3; omega)
        rw [decide_eq_false_iff_not] at h3
        refine Need.mk (appEq (A' := _) (B' := [[vi t.seq]]) rfl rfl (by simp only [List.length_append, List.length_map, List.length_take, List.length_drop, List.length_cons, List.length_nil, List.length_reverse, List.length_replicate, List.length_set]; omega) (by decide)) ?_
        exact Need.mk ⟨[], _, .same, hres, rfl⟩ trivial
end Go.Proofs.Ytlmdheeammfihaa

namespace Go.Proofs.Ytlmdheeammfihaa
open Go Go.Proofs Ev
set_option maxRecDepth 100000
set_option linter.unusedSimpArgs false
set_option linter.unusedVariables false
set_option maxHeartbeats 8000000
theorem dropD_none {t : Tre} {seq : Int} (h : idxI t.snaps seq = none) : dropD seq t = (t, false) := by unfold dropD; rw [h]
theorem dropD_some {t : Tre} {seq : Int} {i : Nat} (h : idxI t.snaps seq = some i) : dropD seq t = ({ t with snaps := t.snaps.take i ++ t.snaps.drop (i + 1) }, true) := by unfold dropD; rw [h]
theorem idxI_lt {xs : List Int} {z : Int} {i : Nat} (h : idxI xs z = some i) : i < xs.length ∧ idxV xs z = (i : Int) := by
  have h0 := h
  unfold idxI at h
  rw [List.findIdx?_eq_some_iff_getElem] at h
  obtain ⟨h1, _⟩ := h
  refine ⟨h1, ?_⟩
  unfold idxV
  rw [h0]
theorem impl_TreeDrop1 (t : Tre) (seq : Int) (hs : t.snaps.length ≤ 999999) : AFnK Try.prog 109 [.agg (t.enc.map .c), .bx 0 0] [[vi seq]] [0] (.tup [.agg (dropD seq t).1.enc, .one (vb (dropD seq t).2)]) [[vi seq]] := by
  have hI := slices_IndexI t.snaps seq (by omega)
  have hn : (t.snaps.map encI).length = t.snaps.length := List.length_map ..
  cases hi : idxI t.snaps seq with
  | none =>
    rw [dropD_none hi]
    rw [show idxV t.snaps seq = -1 by unfold idxV; rw [hi]] at hI
    refine AFnK.introX (E := En 1 md0) (en_ok 1 _ _ _ _ _) Try.func109 rfl rfl rfl fun _ _ => ?_
    refine ACall.mk _ _ hI ?_
    refine Split.mk fun t h1 => ?_
    cases t
    case false => cases h1
    exact Need.mk ⟨[], _, .same, rfl, rfl⟩ trivial
  | some i =>
    rw [dropD_some hi]
    obtain ⟨hlt, hv⟩ := idxI_lt hi
    rw [hv] at hI
    have e1 : ((t.snaps.map encI).drop (0 : Int).toNat).take ((i : Int) - 0).toNat = (t.snaps.take i).map encI := by
      rw [show ((i : Int) - 0).toNat = i by omega, show (0 : Int).toNat = 0 from rfl, List.drop_zero, List.map_take]
    have e2 : ((t.snaps.map encI).drop ((i + 1 : Nat) : Int).toNat).take (((t.snaps.map encI).length : Int) - ((i + 1 : Nat) : Int)).toNat = (t.snaps.drop (i + 1)).map encI := by
      rw [Int.toNat_natCast, ← List.map_drop]
      exact List.take_of_length_le (by rw [List.length_map, List.length_drop, hn]; omega)
    have hK := slices_ConcatI [t.snaps.take i, t.snaps.drop (i + 1)] (by simp) (by simp; omega) (by simp; omega)
    rw [show [t.snaps.take i, t.snaps.drop (i + 1)].flatten = t.snaps.take i ++ t.snaps.drop (i + 1) by simp] at hK
    have hK2 : AFn Try.prog 111 [sl [[.sl (((t.snaps.map encI).drop (0 : Int).toNat).take ((i : Int) - 0).toNat)], [.sl (((t.snaps.map encI).drop ((i + 1 : Nat) : Int).toNat).take (((t.snaps.map encI).length : Int) - ((i + 1 : Nat) : Int)).toNat)]]] [] (.one (.us 3 ((t.snaps.take i ++ t.snaps.drop (i + 1)).map encI))) [] := by
      rw [e1, e2]; exact hK
    refine AFnK.introX (E := En 1 md0 (fb := [7])) (en_ok 1 _ _ _ _ _) Try.func109 rfl rfl rfl fun _ _ => ?_
    refine ACall.mk _ _ hI ?_
    refine Split.mk fun t h1 => ?_
    cases t
    case true => cases h1
    refine Need.mk (⟨by omega, by omega, by omega, lenI _⟩) ?_
    refine Num.mk _ (wrapS (by omega)) ?_
    refine Need.mk (⟨by omega, by omega, by omega, lenI _⟩) ?_
    refine Fz.mk _ (FrzLL.frz (.cons (.cons .sl .nil) (.cons (.cons .sl .nil) .nil))) ?_
    refine ACall.mk _ _ hK2 ?_
    refine Need.mk (⟨ClL.mem (.us (clI _) .nil), no_objs⟩) ?_
    refine Fz.mk _ (frzI _) ?_
    refine Need.mk (rfl) ?_
    exact Need.mk ⟨[], _, .same, rfl, rfl⟩ trivial
theorem dropD_small {t : Tre} {seq : Int} (h : t.Small) : (dropD seq t).1.Small := by
  unfold dropD
  split
  · exact ⟨h.1, h.2.1, h.2.2.1, by show (t.snaps.take _ ++ t.snaps.drop _).length ≤ _; have := h.2.2.2; rw [List.length_append, List.length_take, List.length_drop]; omega⟩
  · exact h
theorem impl_TreeDrop (t : Tre) (seq : Int) (ht : t.Ok) (hsm : t.Small) : AFn Try.prog 48 [.agg (t.enc.map .c), av (.int .i64 seq)] [] (.tup [.agg (encTO (treeDo t (dropD seq)).1), .one (vb (treeDo t (dropD seq)).2)]) [] := by
  have hD := treeDo_c1 109 (vi seq) (dropD seq) t ht hsm (fun hb => impl_TreeDrop1 t seq (by have := treeOk_snaps hb; omega)) (fun _ => dropD_small hsm)
  have hex : ∃ x, treeDo t (dropD seq) = x := ⟨_, rfl⟩
  obtain ⟨x, hx⟩ := hex
  rw [hx] at hD
  rw [hx]
  refine AFn.introX (E := En 0 md0) (en_ok 0 _ _ _ _ _) Try.func48 rfl rfl rfl fun _ _ => ?_
  refine ACall.mk _ _ hD ?_
  refine Split.mk fun t h1 => ?_
  cases t
  · skip
    exact Need.mk ⟨[], _, .same, by rw [h1]; rfl, rfl⟩ trivial
  · skip
    exact Need.mk ⟨[], _, .same, by rw [h1]; rfl, rfl⟩ trivial
theorem Weak_frz {P : Program} {m : Nat} {st : St} (id : Nat) (p : Pth) (e : TypeId) (rows : List (List C)) (c' : C) (ob : Ob) (cells : List C) (ho : st.o[id]? = some ob) (hc : ob.cells = some cells) (hg : getC cells p = some (.us e rows)) (hz : Frz (.us e rows) c') : Weak P m st ⟨st.s, st.o.set id ⟨ob.g, ob.kind, some (putC cells c' p)⟩⟩ :=
  fun _ _ _ L _ _ h => ⟨L, _, (h.freeze ho hc hg hz).1⟩
theorem spec_TreeDrop_ok (t : Tre) (seq : Int) (ht : t.Ok) (hsm : t.Small) (hb : treeOk t = true) (X : List Int) (b : Bool) (hX : t.snaps.filter (fun x => decide (x ≠ seq)) = X) (hbb : decide (X.length < t.snaps.length) = b) : AFn Try.prog 47 [.agg (t.enc.map .c), av (.int .i64 seq)] [] (.tup [.agg ({ t with snaps := X } : Tre).enc, .one (vb b)]) [] := by
  have hO := spec_TreeOk t ht (Nat.le_trans hsm.2.2.2 (by decide)) fun l hl r hr => Nat.le_trans ((hsm.2.2.1 l hl).2 r hr) (by decide)
  rw [hb] at hO
  have hC := spec_l5Copy t hsm
  have hn : (t.snaps.map encI).length = t.snaps.length := List.length_map ..
  have hsn := (treeOk_snaps hb).1
  refine AFn.introX (E := En 0 md0) (en_ok 0 _ _ _ _ _) Try.func47 rfl rfl rfl fun _ _ => ?_
  refine ACall.mk _ _ hO ?_
  refine Split.mk fun t h1 => ?_
  cases t
  case false => cases h1
  refine ACall.mk _ _ hC ?_
  let G : C → C → C → Nat → St := fun c1 c2 c3 i => ⟨none :: some (av (.int .i64 seq)) :: some (.bx 2 0) :: none :: some (.bx 4 0) :: none :: some (.bx 6 0) :: some (av (.int .i64 i)) :: List.replicate 40 none, absent :: absent :: ⟨0, 0, some t.enc⟩ :: absent :: ⟨0, 0, some [vi 0, .us 32 [], .us 112 [], .us 3 []]⟩ :: absent :: ⟨0, 0, some [vi t.seq, c1, c2, c3]⟩ :: List.replicate 41 absent⟩
  let S : List (List C) → Nat → St := fun R i => G (.us 32 (t.mem.map Ent.enc)) (.us 112 (t.levels.map encLO)) (.us 3 R) i
  let S' : List (List C) → Nat → St := fun R i => G (.sl (t.mem.map Ent.enc)) (.sl (t.levels.map encL)) (.sl R) i
  have hW : ∀ (R : List Int) (i : Nat), Weak Try.prog 0 (S (R.map encI) i) (S' (R.map encI) i) := fun R i => by
    have h1 : Weak Try.prog 0 (G (.us 32 (t.mem.map Ent.enc)) (.us 112 (t.levels.map encLO)) (.us 3 (R.map encI)) i) (G (.sl (t.mem.map Ent.enc)) (.us 112 (t.levels.map encLO)) (.us 3 (R.map encI)) i) :=
      Weak_frz (st := G (.us 32 (t.mem.map Ent.enc)) (.us 112 (t.levels.map encLO)) (.us 3 (R.map encI)) i) 6 (.cell 1) 32 (t.mem.map Ent.enc) (.sl (t.mem.map Ent.enc)) ⟨0, 0, some [vi t.seq, (.us 32 (t.mem.map Ent.enc)), (.us 112 (t.levels.map encLO)), (.us 3 (R.map encI))]⟩ [vi t.seq, (.us 32 (t.mem.map Ent.enc)), (.us 112 (t.levels.map encLO)), (.us 3 (R.map encI))] rfl rfl rfl (frzE _)
    have h2 : Weak Try.prog 0 (G (.sl (t.mem.map Ent.enc)) (.us 112 (t.levels.map encLO)) (.us 3 (R.map encI)) i) (G (.sl (t.mem.map Ent.enc)) (.sl (t.levels.map encL)) (.us 3 (R.map encI)) i) :=
      Weak_frz (st := G (.sl (t.mem.map Ent.enc)) (.us 112 (t.levels.map encLO)) (.us 3 (R.map encI)) i) 6 (.cell 2) 112 (t.levels.map encLO) (.sl (t.levels.map encL)) ⟨0, 0, some [vi t.seq, (.sl (t.mem.map Ent.enc)), (.us 112 (t.levels.map encLO)), (.us 3 (R.map encI))]⟩ [vi t.seq, (.sl (t.mem.map Ent.enc)), (.us 112 (t.levels.map encLO)), (.us 3 (R.map encI))] rfl rfl rfl (frzRR _)
    have h3 : Weak Try.prog 0 (G (.sl (t.mem.map Ent.enc)) (.sl (t.levels.map encL)) (.us 3 (R.map encI)) i) (G (.sl (t.mem.map Ent.enc)) (.sl (t.levels.map encL)) (.sl (R.map encI)) i) :=
      Weak_frz (st := G (.sl (t.mem.map Ent.enc)) (.sl (t.levels.map encL)) (.us 3 (R.map encI)) i) 6 (.cell 3) 3 (R.map encI) (.sl (R.map encI)) ⟨0, 0, some [vi t.seq, (.sl (t.mem.map Ent.enc)), (.sl (t.levels.map encL)), (.us 3 (R.map encI))]⟩ [vi t.seq, (.sl (t.mem.map Ent.enc)), (.sl (t.levels.map encL)), (.us 3 (R.map encI))] rfl rfl rfl (frzI _)
    exact Weak.trans h1 (Weak.trans h2 h3)
  let F : Nat → List Int := fun i => (t.snaps.take i).filter (fun x => decide (x ≠ seq))
  have hcase : ∀ (i : Nat) (st : St), i ≤ t.snaps.length → Weak Try.prog 0 st (S ((F i).map encI) i) → ∃ s', Weak Try.prog 0 st s' ∧ ((i < t.snaps.length ∧ s' = S ((F i).map encI) i) ∨ (i = t.snaps.length ∧ s' = S' ((F i).map encI) i)) := fun i st hi hw => by
    by_cases h : i < t.snaps.length
    · exact ⟨_, hw, .inl ⟨h, rfl⟩⟩
    · exact ⟨_, Weak.trans hw (hW _ _), .inr ⟨by omega, rfl⟩⟩
  have hin0 : ∀ st : St, Weak Try.prog 0 st (S ((F 0).map encI) 0) → ∃ m s', Weak Try.prog 0 st s' ∧ ∃ i : Nat, m = t.snaps.length - i ∧ ((i < t.snaps.length ∧ s' = S ((F i).map encI) i) ∨ (i = t.snaps.length ∧ s' = S' ((F i).map encI) i)) := fun st hw => by
    obtain ⟨s', h1, h2⟩ := hcase 0 st (Nat.zero_le _) hw
    exact ⟨_, s', h1, 0, rfl, h2⟩
  refine ALoop.mk (fun m s => ∃ i : Nat, m = t.snaps.length - i ∧ ((i < t.snaps.length ∧ s = S ((F i).map encI) i) ∨ (i = t.snaps.length ∧ s = S' ((F i).map encI) i)))
    (hin0 _ (Weak.nrm [false, true, true, false, true, false, true, true] [(2, 2), (4, 4), (6, 6)] rfl rfl rfl)) ?_
  rintro m s ⟨i, rfl, hs⟩
  by_cases hin : i = t.snaps.length
  · have hs : s = S' ((F i).map encI) i := hs.elim (fun h => absurd h.1 (by omega)) fun h => h.2
    have hFX : F i = X := by show (t.snaps.take i).filter _ = X; rw [hin, List.take_length, hX]
    rw [hFX, hin] at hs
    have hXn : (X.map encI).length = X.length := List.length_map ..
    have hbb2 : decide (((X.map encI).length : Int) < ((t.snaps.map encI).length : Int)) = b := by rw [hXn, hn, ← hbb]; simp
    subst hs
    refine Split.mk fun t h1 => ?_
    cases t
    case true => (exfalso; rw [decide_eq_true_iff] at h1; omega)
    rw [decide_eq_false_iff_not] at h1
    refine Split.mk fun t h2 => ?_
    cases t
    · skip
      rw [decide_eq_false_iff_not] at h2
      refine Need.mk (rfl) ?_
      refine Need.mk ⟨[], _, .same, ?_, rfl⟩ trivial
      have hb3 : b = false := by rw [← hbb2]; exact decide_eq_false h2
      subst hb3
      rfl
    · skip
      rw [decide_eq_true_iff] at h2
      refine Need.mk (rfl) ?_
      refine Need.mk ⟨[], _, .same, ?_, rfl⟩ trivial
      have hb3 : b = true := by rw [← hbb2]; exact decide_eq_true h2
      subst hb3
      rfl
  · have hia : i < t.snaps.length := hs.elim (fun h => h.1) fun h => absurd h.1 hin
    have hs : s = S ((F i).map encI) i := hs.elim (fun h => h.2) fun h => absurd h.1 hin
    have hF : F i = (t.snaps.take i).filter (fun x => decide (x ≠ seq)) := rfl
    have hF1 : F (i + 1) = (t.snaps.take (i + 1)).filter (fun x => decide (x ≠ seq)) := rfl
    have hfl : ((t.snaps.take i).filter (fun x => decide (x ≠ seq))).length ≤ 4 := by
      have := List.length_filter_le (fun x => decide (x ≠ seq)) (t.snaps.take i)
      rw [List.length_take] at this; omega
    have hst : (t.snaps.take (i + 1)).filter (fun x => decide (x ≠ seq)) = (t.snaps.take i).filter (fun x => decide (x ≠ seq)) ++ if t.snaps[i] = seq then [] else [t.snaps[i]] := by
      rw [List.take_succ_eq_append_getElem hia, List.filter_append]
      congr 1
      by_cases h : t.snaps[i] = seq <;> simp [h]
    have hex : ∃ G0, (t.snaps.take i).filter (fun x => decide (x ≠ seq)) = G0 := ⟨_, rfl⟩
    obtain ⟨G0, hG⟩ := hex
    rw [hF, hG] at hs
    rw [hG] at hst hfl
    rw [← hF1] at hst
    by_cases hz : t.snaps[i] = seq
    · rw [if_pos hz, List.append_nil] at hst
      have hround2 : ∀ st : St, Weak Try.prog 0 st (S (G0.map encI) (i + 1)) → ∃ m' s', m' < t.snaps.length - i ∧ Weak Try.prog 0 st s' ∧ ∃ j : Nat, m' = t.snaps.length - j ∧ ((j < t.snaps.length ∧ s' = S ((F j).map encI) j) ∨ (j = t.snaps.length ∧ s' = S' ((F j).map encI) j)) := fun st hw => by
        obtain ⟨s', h1, h2⟩ := hcase (i + 1) st hia (by rw [hst]; exact hw)
        exact ⟨_, s', by omega, h1, i + 1, rfl, h2⟩
      subst hs
      refine Split.mk fun t h1 => ?_
      cases t
      case false => (exfalso; rw [decide_eq_false_iff_not] at h1; omega)
      rw [decide_eq_true_iff] at h1
      refine Need.mk (by omega) ?_
      refine Row.mk _ (map_get _ t.snaps i (by omega)) ?_
      refine Split.mk fun t h2 => ?_
      cases t
      case true => (exfalso; rw [bne_iff_ne] at h2; omega)
      rw [bne_eq_false_iff_eq] at h2
      refine Num.mk _ (wrapS (by omega)) ?_
     
      exact hround2 _ (Weak.nrm [false, true, true, false, true, false, true, true] [(2, 2), (4, 4), (6, 6)] rfl rfl rfl)
    · rw [if_neg hz] at hst
      have hround2 : ∀ st : St, Weak Try.prog 0 st (S (G0.map encI ++ [[vi t.snaps[i]]]) (i + 1)) → ∃ m' s', m' < t.snaps.length - i ∧ Weak Try.prog 0 st s' ∧ ∃ j : Nat, m' = t.snaps.length - j ∧ ((j < t.snaps.length ∧ s' = S ((F j).map encI) j) ∨ (j = t.snaps.length ∧ s' = S' ((F j).map encI) j)) := fun st hw => by
        obtain ⟨s', h1, h2⟩ := hcase (i + 1) st hia (by rw [hst, List.map_append]; exact hw)
        exact ⟨_, s', by omega, h1, i + 1, rfl, h2⟩
      subst hs
      refine Split.mk fun t h1 => ?_
      cases t
      case false => (exfalso; rw [decide_eq_false_iff_not] at h1; omega)
      rw [decide_eq_true_iff] at h1
      refine Need.mk (by omega) ?_
      refine Row.mk _ (map_get _ t.snaps i (by omega)) ?_
      refine Split.mk fun t h2 => ?_
      cases t
      case false => (exfalso; rw [bne_eq_false_iff_eq] at h2; omega)
      rw [bne_iff_ne] at h2
      refine Need.mk (by omega) ?_
      refine Row.mk _ (map_get _ t.snaps i (by omega)) ?_
      refine Need.mk (appEq (A' := _) (B' := [[vi t.snaps[i]]]) rfl rfl (by simp only [List.length_append, List.length_map, List.length_take, List.length_drop, List.length_cons, List.length_nil, List.length_reverse, List.length_replicate, List.length_set]; omega) (by decide)) ?_
      refine Need.mk (rfl) ?_
      refine Num.mk _ (wrapS (by omega)) ?_
     
      exact hround2 _ (Weak.nrm [false, true, true, false, true, false, true, true] [(2, 2), (4, 4), (6, 6)] rfl rfl rfl)
theorem spec_TreeDrop (t : Tre) (seq : Int) (ht : t.Ok) (hsm : t.Small) : AFn Try.prog 47 [.agg (t.enc.map .c), av (.int .i64 seq)] [] (.tup [.agg (treeDo t (dropD seq)).1.enc, .one (vb (treeDo t (dropD seq)).2)]) [] := by
  cases hb : treeOk t with
  | false =>
    have hO := spec_TreeOk t ht (Nat.le_trans hsm.2.2.2 (by decide)) fun l hl r hr => Nat.le_trans ((hsm.2.2.1 l hl).2 r hr) (by decide)
    rw [hb] at hO
    rw [show treeDo t (dropD seq) = (tre00, false) by unfold treeDo; rw [hb]; rfl]
    refine AFn.introX (E := En 0 md0) (en_ok 0 _ _ _ _ _) Try.func47 rfl rfl rfl fun _ _ => ?_
    refine ACall.mk _ _ hO ?_
    refine Split.mk fun t h1 => ?_
    cases t
    case true => cases h1
    exact Need.mk ⟨[false, true, true, true], _, .keep (.frz (frzE []) (.frz (frzRR []) (.frz (frzI []) .same))), rfl, rfl⟩ trivial
  | true =>
    have hfl := filter_ne (treeOk_snaps hb).2 seq
    cases hi : idxI t.snaps seq with
    | none =>
      rw [hi] at hfl
      rw [show treeDo t (dropD seq) = (t, false) by unfold treeDo; rw [if_pos hb, dropD_none hi]; rfl]
      exact spec_TreeDrop_ok t seq ht hsm hb t.snaps false hfl (by simp)
    | some i =>
      rw [hi] at hfl
      rw [show treeDo t (dropD seq) = ({ t with snaps := t.snaps.take i ++ t.snaps.drop (i + 1) }, true) by unfold treeDo; rw [if_pos hb, dropD_some hi]; rfl]
      exact spec_TreeDrop_ok t seq ht hsm hb _ true hfl (decide_eq_true (by have := (idxI_lt hi).1; rw [List.length_append, List.length_take, List.length_drop]; omega))
end Go.Proofs.Ytlmdheeammfihaa

namespace Go.Proofs.Ytlmdheeammfihaa
open Go Go.Proofs Ev
set_option maxRecDepth 100000
set_option linter.unusedSimpArgs false
set_option linter.unusedVariables false
theorem laws_markText (k : Nat) (hk : k ≤ 4611686018427387904) : AFn Try.prog 105 [av (.int .i64 k)] [] (.one (vs (markT k))) [] := by
  refine AFn.introX (E := En 0 md0) (en_ok 0 md0) Try.func105 rfl rfl rfl fun _ _ => ?_
  refine Split.mk fun t ht => ?_
  cases t
  · have h0 : 0 < k := by simp at ht; omega
    refine ALoop.mk (fun n s => ∃ (j : Nat) (out : ByteArray), n = j ∧ j + out.size ≤ 4611686018427387904 ∧ digs j out = digs k ⟨#[]⟩ ∧
      s = ⟨some (av (.int .i64 j)) :: none :: some (av (.string ⟨#[]⟩)) :: some (av (.string out)) :: List.replicate 16 none, List.replicate 20 absent⟩)
      ⟨k, _, Weak.nrm [true, false, true, true] [] rfl rfl rfl, k, ⟨#[]⟩, rfl, hk, rfl, rfl⟩ ?_
    rintro j s ⟨_, out, rfl, hb, hd, rfl⟩
    refine Split.mk fun t ht => ?_
    cases t
    · have hj : j = 0 := by simp at ht; omega
      subst hj
      refine Need.mk (strFits1 (by omega)) ?_
      refine Need.mk ⟨[], _, .same, ?_, rfl⟩ trivial
      have : markT k = ⟨#[109]⟩ ++ digs k ⟨#[]⟩ := by simp [markT]; omega
      rw [this, ← hd, digs_zero]; rfl
    · have hj : 0 < j := by simpa using ht
      refine Need.mk (by decide) ?_
      refine Num.mk ((48 + j % 10 : Nat) : Int) (by rw [show ((j : Int).tmod 10) = ((j % 10 : Nat) : Int) from rfl, wrapI] <;> omega) ?_
      refine Num.mk ((48 + j % 10 : Nat) : Int) (by rw [wrapU8] <;> omega) ?_
      refine Need.mk (strFits1 (by omega)) ?_
      refine Need.mk (by decide) ?_
      refine Num.mk ((j / 10 : Nat) : Int) (by rw [show ((j : Int).tdiv 10) = ((j / 10 : Nat) : Int) from rfl, wrapI] <;> omega) ?_
      refine ⟨j / 10, _, by omega, Weak.nrm [true, false, true, true] [] rfl rfl rfl, j / 10, dig j ++ out, rfl, ?_, ?_, rfl⟩
      · rw [ByteArray.size_append, show (dig j).size = 1 from rfl]; omega
      · rw [← digs_succ hj]; exact hd
  · have h0 : k = 0 := by simp at ht; omega
    subst h0
    exact Need.mk ⟨[], _, .same, rfl, rfl⟩ trivial
end Go.Proofs.Ytlmdheeammfihaa

namespace Go.Proofs.Ytlmdheeammfihaa
open Go Go.Proofs Ev
set_option maxRecDepth 100000
set_option linter.unusedSimpArgs false
set_option linter.unusedVariables false
theorem laws_markEntryS (xs : List Ent) (k : Nat) (hk : k + 5 * xs.length ≤ 4611686018427387904) : AFn Try.prog 42 [.one (.ref 0 0 (.cell 0)), av (.int .i64 k)] [[.us 32 (xs.map Ent.enc)]] (.one (vi ((k + 5 * xs.length : Nat) : Int))) [[.us 32 ((markL k xs.length).map Ent.enc)]] := by
  refine AFn.introX (E := En 1 md0) (en_ok 1 md0) Try.func42 rfl rfl rfl fun _ _ => ?_
  let S : List (List C) → Nat → Nat → St := fun rows i m => ⟨some (.one (.ref 0 0 (.cell 0))) :: some (av (.int .i64 m)) :: none :: none :: none :: some (av (.int .i64 i)) :: List.replicate 44 none, ⟨0, 1, some [.us 32 rows]⟩ :: List.replicate 50 absent⟩
  refine ALoop.mk (fun n s => ∃ (i : Nat) (ys : List Ent), i ≤ xs.length ∧ n = xs.length - i ∧ ys.length = xs.length ∧ (∀ j : Nat, j < i → ys[j]? = some (markE (k + 5 * j))) ∧ s = S (ys.map Ent.enc) i (k + 5 * i))
    ⟨xs.length, _, Weak.nrm [true, true, false, false, false, true] [(0, 0)] rfl rfl rfl, 0, xs, Nat.zero_le _, rfl, rfl, by intro j hj; omega, rfl⟩ ?_
  rintro n s ⟨i, ys, hi, rfl, hl, hm, rfl⟩
  refine Split.mk fun t ht => ?_
  rw [List.length_map] at ht
  cases t
  · have hia : i = xs.length := by simp at ht; omega
    subst hia
    refine Need.mk ⟨[], _, .same, rfl, ?_⟩ trivial
    rw [← markL_of hl hm]; rfl
  · have hia : i < ys.length := by simpa using ht
    have hlen : i < (ys.map Ent.enc).length := by rw [List.length_map]; exact hia
    refine ACall.mk _ _ (laws_markText (k + 5 * i) (by omega)) ?_
    refine Need.mk ⟨by omega, by simpa using hia⟩ ?_
    refine Row.mk _ (map_get _ ys i hia) ?_
    refine Num.mk _ (wrapS (by omega)) ?_
    refine Need.mk ⟨by omega, by simpa using hia⟩ ?_
    refine Row.mk _ (set_get _ _ _ hlen) ?_
    refine Num.mk _ (wrapS (by omega)) ?_
    refine Need.mk ⟨by omega, by simpa using hia⟩ ?_
    refine Row.mk _ (set_get _ _ _ (by simpa using hia)) ?_
    refine Num.mk _ (wrapS (by omega)) ?_
    refine ACall.mk _ _ (laws_markText (k + 5 * i + 1 + 1 + 1) (by omega)) ?_
    refine Need.mk ⟨by omega, by simpa using hia⟩ ?_
    refine Row.mk _ (set_get _ _ _ (by simpa using hia)) ?_
    refine Num.mk _ (wrapS (by omega)) ?_
    refine Need.mk ⟨by omega, by simpa using hia⟩ ?_
    refine Row.mk _ (set_get _ _ _ (by simpa using hia)) ?_
    refine Num.mk _ (wrapS (by omega)) ?_
    refine Num.mk _ (wrapS (by omega)) ?_
    refine ⟨xs.length - (i + 1), _, by omega, Weak.nrm [true, true, false, false, false, true] [(0, 0)] rfl rfl rfl, i + 1, ys.set i (markE (k + 5 * i)), by omega, rfl, by simpa using hl, fun j hj => ?_, ?_⟩
    · by_cases hji : j = i
      · subst hji; exact List.getElem?_set_self hia
      · rw [List.getElem?_set_ne (Ne.symm hji)]; exact hm j (by omega)
    · refine Eq.trans (b := S ((((((ys.map Ent.enc).set i _).set i _).set i _).set i _).set i (markE (k + 5 * i)).enc) (i + 1) (k + 5 * i + 1 + 1 + 1 + 1 + 1)) rfl ?_
      simp only [List.set_set, List.map_set]
      rfl
end Go.Proofs.Ytlmdheeammfihaa

namespace Go.Proofs.Ytlmdheeammfihaa
open Go Go.Proofs Ev
set_option maxRecDepth 100000
set_option linter.unusedSimpArgs false
set_option linter.unusedVariables false
theorem laws_markRunS (xs : List Rn) (k : Nat) (hk : posR k xs ≤ 4611686018427387904) : AFn Try.prog 146 [.one (.ref 0 0 (.cell 0)), av (.int .i64 k)] [[.us 25 (xs.map encO)]] (.one (vi (posR k xs : Nat))) [[.us 25 ((mkRs k xs).map encO)]] := by
  refine AFn.introX (E := En 1 (md1 [42])) (en_ok 1 _) Try.func146 rfl rfl rfl fun _ _ => ?_
  let S : List (List C) → Nat → Nat → St := fun rows i m => ⟨some (.one (.ref 0 0 (.cell 0))) :: some (av (.int .i64 m)) :: none :: none :: none :: some (av (.int .i64 i)) :: List.replicate 21 none, ⟨0, 1, some [.us 25 rows]⟩ :: List.replicate 27 absent⟩
  refine ALoop.mk (fun n s => ∃ i : Nat, i ≤ xs.length ∧ n = xs.length - i ∧ s = S ((mkRs k (xs.take i) ++ xs.drop i).map encO) i (posR k (xs.take i)))
    ⟨xs.length, _, Weak.nrm [true, true, false, false, false, true] [(0, 0)] rfl rfl rfl, 0, Nat.zero_le _, rfl, rfl⟩ ?_
  rintro n s ⟨i, hi, rfl, rfl⟩
  have hlen : (mkRs k (xs.take i) ++ xs.drop i).length = xs.length := by rw [List.length_append, mkRs_len, List.length_take, List.length_drop]; omega
  refine Split.mk fun t ht => ?_
  rw [List.length_map, hlen] at ht
  cases t
  · have hia : i = xs.length := by simp at ht; omega
    subst hia
    refine Need.mk ⟨[], _, .same, ?_, ?_⟩ trivial
    · rw [List.take_length]; rfl
    · rw [List.take_length, List.drop_length, List.append_nil]; rfl
  · have hia : i < xs.length := by simpa using ht
    have hget : (mkRs k (xs.take i) ++ xs.drop i)[i]? = some xs[i] := by
      rw [List.getElem?_append_right (by rw [mkRs_len, List.length_take]; omega), mkRs_len, List.length_take, Nat.min_eq_left (by omega), Nat.sub_self, List.getElem?_drop, Nat.add_zero, List.getElem?_eq_getElem hia]
    have hpos : posR k (xs.take (i + 1)) = posR k (xs.take i) + 5 * xs[i].ents.length + 1 := by rw [List.take_succ_eq_append_getElem hia, posR_app]; rfl
    have hle : posR k (xs.take (i + 1)) ≤ 4611686018427387904 := by
      have : posR k xs = posR (posR k (xs.take (i + 1))) (xs.drop (i + 1)) := by rw [← posR_app, List.take_append_drop]
      have h2 := posR_le (xs.drop (i + 1)) (posR k (xs.take (i + 1)))
      omega
    have hrow : ((mkRs k (xs.take i) ++ xs.drop i).map encO)[i]? = some (encO xs[i]) := by rw [List.getElem?_map, hget]; rfl
    have hlt : i < ((mkRs k (xs.take i) ++ xs.drop i).map encO).length := by rw [List.length_map, hlen]; exact hia
    have hxl := posR_len xs k
    refine Need.mk ⟨by omega, by omega⟩ ?_
    refine Row.mk _ hrow ?_
    refine Row.mk _ hrow ?_
    refine ACall.mk _ _ (laws_markEntryS xs[i].ents (posR k (xs.take i)) (by omega)) ?_
    refine Row.mk _ hrow ?_
    refine Need.mk ⟨by omega, by rw [List.length_set]; omega⟩ ?_
    refine Row.mk _ (set_get _ _ _ hlt) ?_
    refine Num.mk _ (wrapS (by omega)) ?_
    refine Num.mk _ (wrapS (by omega)) ?_
    refine ⟨xs.length - (i + 1), _, by omega, Weak.nrm [true, true, false, false, false, true] [(0, 0)] rfl rfl rfl, i + 1, by omega, rfl, ?_⟩
    refine Eq.trans (b := S ((((mkRs k (xs.take i) ++ xs.drop i).map encO).set i _).set i (encO (mkR (posR k (xs.take i)) xs[i]))) (i + 1) (posR k (xs.take i) + 5 * xs[i].ents.length + 1)) rfl ?_
    rw [hpos, List.set_set, ← List.map_set, mkRs_step hia]
end Go.Proofs.Ytlmdheeammfihaa

namespace Go.Proofs.Ytlmdheeammfihaa
open Go Go.Proofs Ev
set_option maxRecDepth 100000
set_option linter.unusedSimpArgs false
set_option linter.unusedVariables false
theorem laws_markRunSS (xs : List (List Rn)) (k : Nat) (hk : posL k xs ≤ 4611686018427387904) : AFn Try.prog 103 [.one (.ref 0 0 (.cell 0)), av (.int .i64 k)] [[.us 112 (xs.map encLO)]] (.one (vi (posL k xs : Nat))) [[.us 112 ((mkLs k xs).map encLO)]] := by
  refine AFn.introX (E := En 1 (md1 [146])) (en_ok 1 _) Try.func103 rfl rfl rfl fun _ hs => ?_
  have hxl := Small.lenU (hs _ (List.mem_cons_self ..) _ (List.mem_cons_self ..))
  rw [List.length_map] at hxl
  let S : List (List C) → Nat → Nat → St := fun rows i m => ⟨some (.one (.ref 0 0 (.cell 0))) :: some (av (.int .i64 m)) :: none :: none :: none :: some (av (.int .i64 i)) :: List.replicate 13 none, ⟨0, 1, some [.us 112 rows]⟩ :: List.replicate 19 absent⟩
  refine ALoop.mk (fun n s => ∃ i : Nat, i ≤ xs.length ∧ n = xs.length - i ∧ s = S ((mkLs k (xs.take i) ++ xs.drop i).map encLO) i (posL k (xs.take i)))
    ⟨xs.length, _, Weak.nrm [true, true, false, false, false, true] [(0, 0)] rfl rfl rfl, 0, Nat.zero_le _, rfl, rfl⟩ ?_
  rintro n s ⟨i, hi, rfl, rfl⟩
  have hlen : (mkLs k (xs.take i) ++ xs.drop i).length = xs.length := by rw [List.length_append, mkLs_len, List.length_take, List.length_drop]; omega
  refine Split.mk fun t ht => ?_
  rw [List.length_map, hlen] at ht
  cases t
  · have hia : i = xs.length := by simp at ht; omega
    subst hia
    refine Need.mk ⟨[], _, .same, ?_, ?_⟩ trivial
    · rw [List.take_length]; rfl
    · rw [List.take_length, List.drop_length, List.append_nil]; rfl
  · have hia : i < xs.length := by simpa using ht
    have hget : (mkLs k (xs.take i) ++ xs.drop i)[i]? = some xs[i] := by
      rw [List.getElem?_append_right (by rw [mkLs_len, List.length_take]; omega), mkLs_len, List.length_take, Nat.min_eq_left (by omega), Nat.sub_self, List.getElem?_drop, Nat.add_zero, List.getElem?_eq_getElem hia]
    have hpos : posL k (xs.take (i + 1)) = posR (posL k (xs.take i)) xs[i] := by rw [List.take_succ_eq_append_getElem hia, posL_app]; rfl
    have hle : posL k (xs.take (i + 1)) ≤ 4611686018427387904 := by
      have : posL k xs = posL (posL k (xs.take (i + 1))) (xs.drop (i + 1)) := by rw [← posL_app, List.take_append_drop]
      have h2 := posL_le (xs.drop (i + 1)) (posL k (xs.take (i + 1)))
      omega
    have hrow : ((mkLs k (xs.take i) ++ xs.drop i).map encLO)[i]? = some (encLO xs[i]) := by rw [List.getElem?_map, hget]; rfl
    have hlt : i < ((mkLs k (xs.take i) ++ xs.drop i).map encLO).length := by rw [List.length_map, hlen]; exact hia
    refine Need.mk ⟨by omega, by omega⟩ ?_
    refine Row.mk _ hrow ?_
    refine Row.mk _ hrow ?_
    refine ACall.mk _ _ (laws_markRunS xs[i] (posL k (xs.take i)) (by omega)) ?_
    refine Row.mk _ hrow ?_
    refine Num.mk _ (wrapS (by omega)) ?_
    refine ⟨xs.length - (i + 1), _, by omega, Weak.nrm [true, true, false, false, false, true] [(0, 0)] rfl rfl rfl, i + 1, by omega, rfl, ?_⟩
    refine Eq.trans (b := S (((mkLs k (xs.take i) ++ xs.drop i).map encLO).set i (encLO (mkRs (posL k (xs.take i)) xs[i]))) (i + 1) (posR (posL k (xs.take i)) xs[i])) rfl ?_
    rw [hpos, ← List.map_set, mkLs_step hia]
end Go.Proofs.Ytlmdheeammfihaa

namespace Go.Proofs.Ytlmdheeammfihaa
open Go Go.Proofs Ev
set_option maxRecDepth 100000
set_option linter.unusedSimpArgs false
set_option linter.unusedVariables false
theorem laws_markIntS (xs : List Int) (k : Nat) (hk : k + xs.length ≤ 4611686018427387904) : AFn Try.prog 104 [.one (.ref 0 0 (.cell 0)), av (.int .i64 k)] [[.us 3 (xs.map encI)]] (.one (vi ((k + xs.length : Nat) : Int))) [[.us 3 ((markI k xs.length).map encI)]] := by
  refine AFn.introX (E := En 1 md0) (en_ok 1 md0) Try.func104 rfl rfl rfl fun _ _ => ?_
  let S : List (List C) → Nat → Nat → St := fun rows i m => ⟨some (.one (.ref 0 0 (.cell 0))) :: some (av (.int .i64 m)) :: none :: none :: none :: some (av (.int .i64 i)) :: List.replicate 13 none, ⟨0, 1, some [.us 3 rows]⟩ :: List.replicate 19 absent⟩
  refine ALoop.mk (fun n s => ∃ (i : Nat) (ys : List Int), i ≤ xs.length ∧ n = xs.length - i ∧ ys.length = xs.length ∧ (∀ j : Nat, j < i → ys[j]? = some ((k + j : Nat) : Int)) ∧ s = S (ys.map encI) i (k + i))
    ⟨xs.length, _, Weak.nrm [true, true, false, false, false, true] [(0, 0)] rfl rfl rfl, 0, xs, Nat.zero_le _, rfl, rfl, by intro j hj; omega, rfl⟩ ?_
  rintro n s ⟨i, ys, hi, rfl, hl, hm, rfl⟩
  refine Split.mk fun t ht => ?_
  rw [List.length_map] at ht
  cases t
  · have hia : i = xs.length := by simp at ht; omega
    subst hia
    refine Need.mk ⟨[], _, .same, rfl, ?_⟩ trivial
    rw [← markI_of hl hm]; rfl
  · have hia : i < ys.length := by simpa using ht
    refine Need.mk ⟨by omega, by simpa using hia⟩ ?_
    refine Row.mk _ (map_get _ ys i hia) ?_
    refine Num.mk _ (wrapS (by omega)) ?_
    refine Num.mk _ (wrapS (by omega)) ?_
    refine ⟨xs.length - (i + 1), _, by omega, Weak.nrm [true, true, false, false, false, true] [(0, 0)] rfl rfl rfl, i + 1, ys.set i ((k + i : Nat) : Int), by omega, rfl, by simpa using hl, fun j hj => ?_, ?_⟩
    · by_cases hji : j = i
      · subst hji; exact List.getElem?_set_self hia
      · rw [List.getElem?_set_ne (Ne.symm hji)]; exact hm j (by omega)
    · refine Eq.trans (b := S ((ys.map encI).set i (encI ((k + i : Nat) : Int))) (i + 1) (k + i + 1)) rfl ?_
      simp only [List.map_set]
      rfl
end Go.Proofs.Ytlmdheeammfihaa

namespace Go.Proofs.Ytlmdheeammfihaa
open Go Go.Proofs Ev
set_option maxRecDepth 100000
set_option linter.unusedSimpArgs false
set_option linter.unusedVariables false
def posT (k : Nat) (t : Tre) : Nat := posL (k + 5 * t.mem.length) t.levels + t.snaps.length
def mkT (k : Nat) (t : Tre) : Tre := ⟨t.seq, markL k t.mem.length, mkLs (k + 5 * t.mem.length) t.levels, markI (posL (k + 5 * t.mem.length) t.levels) t.snaps.length⟩
def argT (t : Tre) : AV := .agg [.c (vi t.seq), .ref 0 0 (.cell 0), .ref 1 0 (.cell 0), .ref 2 0 (.cell 0)]
def obsT (t : Tre) : List (List C) := [[.us 32 (t.mem.map Ent.enc)], [.us 112 (t.levels.map encLO)], [.us 3 (t.snaps.map encI)]]
theorem laws_markTree (t : Tre) (k : Nat) (hk : posT k t ≤ 4611686018427387904) : AFn Try.prog 41 [argT t, av (.int .i64 k)] (obsT t) (.one (vi (posT k t : Nat))) (obsT (mkT k t)) := by
  refine AFn.introX (E := En 3 (md1 [42, 103, 104]) [2]) (en_ok 3 _ _) Try.func41 rfl rfl rfl fun _ hs => ?_
  have h1 := posL_le t.levels (k + 5 * t.mem.length)
  unfold posT at hk
  refine ACall.mk _ _ (laws_markEntryS t.mem k (by omega)) ?_
  refine ACall.mk _ _ (laws_markRunSS t.levels (k + 5 * t.mem.length) (by omega)) ?_
  refine ACall.mk _ _ (laws_markIntS t.snaps (posL (k + 5 * t.mem.length) t.levels) (by omega)) ?_
  exact Need.mk ⟨[], _, .same, rfl, rfl⟩ trivial
end Go.Proofs.Ytlmdheeammfihaa

namespace Go.Proofs.Ytlmdheeammfihaa
open Go Go.Proofs Ev
set_option maxRecDepth 100000
set_option linter.unusedSimpArgs false
set_option linter.unusedVariables false
theorem posT_sz {t : Tre} (h : t.size ≤ 1048576) : posT 1 t ≤ 6000000 := by
  have h1 := posL_sz t.levels (1 + 5 * t.mem.length)
  have hz : t.size = sizeE t.mem + sizeRR t.levels + t.snaps.length := rfl
  have h2 : t.mem.length ≤ sizeE t.mem := by unfold sizeE; omega
  unfold posT; omega
theorem posT_like {t x : Tre} (h : t.size ≤ 1048576) (hm : x.mem = t.mem) (hl : x.levels = t.levels) (hs : x.snaps.length ≤ t.snaps.length + 1) : posT 1 x ≤ 6000000 := by
  have h1 := posL_sz t.levels (1 + 5 * t.mem.length)
  have hz : t.size = sizeE t.mem + sizeRR t.levels + t.snaps.length := rfl
  have h2 : t.mem.length ≤ sizeE t.mem := by unfold sizeE; omega
  unfold posT; rw [hm, hl]; omega
theorem posT_do {t : Tre} {d : Tre → Tre × Bool} (h : t.size ≤ 1048576) (hd : (d t).2 = true → posT 1 (d t).1 ≤ 6000000) : posT 1 (treeDo t d).1 ≤ 6000000 := by
  unfold treeDo
  split
  · split
    · rename_i hh; exact hd hh
    · exact posT_sz h
  · show posT 1 tre00 ≤ _; decide
theorem pos_TreeSnap (t : Tre) (h : t.size ≤ 1048576) : posT 1 (treeDo t snapD).1 ≤ 6000000 := posT_do h fun _ => by
  unfold snapD
  split
  · exact posT_sz h
  · exact posT_like h rfl rfl (by simp)
theorem pos_TreeDrop (t : Tre) (seq : Int) (h : t.size ≤ 1048576) : posT 1 (treeDo t (dropD seq)).1 ≤ 6000000 := posT_do h fun _ => by
  unfold dropD
  split
  · exact posT_like h rfl rfl (by simp only [List.length_append, List.length_take, List.length_drop]; omega)
  · exact posT_sz h
end Go.Proofs.Ytlmdheeammfihaa

namespace Go.Proofs.Ytlmdheeammfihaa
open Go Go.Proofs Ev
set_option maxRecDepth 100000
set_option linter.unusedSimpArgs false
set_option linter.unusedVariables false
theorem laws_szEntry (e : Ent) (left : Nat) (he : e.Ok) (hl : left ≤ 1048576) : AFn Try.prog 137 [.agg (e.enc.map .c), av (.int .i64 left)] [] (.one (vi (cut e.size left))) [] := by
  refine AFn.introX (E := En 0 md0) (en_ok 0 md0) Try.func137 rfl rfl rfl fun _ _ => ?_
  obtain ⟨h1, h2⟩ := he
  have he : e.size = e.key.size + e.text.size := rfl
  unfold maxLen at h1 h2
  have fin : ∀ {z : Int}, z = cut e.size left → RV.one (vi z) = RV.one (vi (cut e.size left)) := fun h => by rw [h]
  refine Num.mk ((left : Int) - e.key.size) (by rw [IntKind.wrap_i64]; omega) ?_
  refine Split.mk fun t ht => ?_
  cases t
  · have h3 : e.key.size ≤ left := by simp at ht; omega
    refine Num.mk ((left : Int) - e.key.size - e.text.size) (by rw [IntKind.wrap_i64]; omega) ?_
    refine Split.mk fun t ht => ?_
    cases t
    · have h4 : e.size ≤ left := by simp at ht; omega
      exact Need.mk ⟨[], _, .same, fin (by rw [cut_pos h4]; omega), rfl⟩ trivial
    · have h4 : ¬ e.size ≤ left := by simp at ht; omega
      exact Need.mk ⟨[], _, .same, fin (by rw [cut_neg h4]), rfl⟩ trivial
  · have h4 : ¬ e.size ≤ left := by simp at ht; omega
    exact Need.mk ⟨[], _, .same, fin (by rw [cut_neg h4]), rfl⟩ trivial
theorem laws_szEntryS (xs : List Ent) (left : Nat) (he : OkE xs) (hl : left ≤ 1048576) : AFn Try.prog 85 [sl (xs.map Ent.enc), av (.int .i64 left)] [] (.one (vi (cut (sizeE xs) left))) [] := by
  refine AFn.introX (E := En 0 md0) (en_ok 0 md0) Try.func85 rfl rfl rfl fun hs _ => ?_
  have hn : (xs.map Ent.enc).length = xs.length := List.length_map ..
  have hx := Small.len (hs _ (List.mem_cons_self ..))
  rw [hn] at hx
  have hz : sizeE xs = xs.length + (xs.map Ent.size).sum := rfl
  have fin : ∀ {z : Int}, z = cut (sizeE xs) left → RV.one (vi z) = RV.one (vi (cut (sizeE xs) left)) := fun h => by rw [h]
  refine Num.mk ((left : Int) - xs.length) (by rw [hn, IntKind.wrap_i64]; omega) ?_
  refine Split.mk fun t ht => ?_
  cases t
  · have h3 : xs.length ≤ left := by simp at ht; omega
    refine ALoop.mk (fun m s => ∃ (i r : Nat), i ≤ xs.length ∧ m = xs.length - i ∧ xs.length + ((xs.take i).map Ent.size).sum + r = left ∧
        s = ⟨some (sl (xs.map Ent.enc)) :: some (av (.int .i64 r)) :: none :: none :: none :: some (av (.int .i64 i)) :: List.replicate 21 none, List.replicate 27 absent⟩)
      ⟨xs.length, _, Weak.nrm [true, true, false, false, false, true] [] rfl rfl rfl, 0, left - xs.length, Nat.zero_le _, rfl, by simp; omega, ?_⟩ ?_
    · rw [show ((left - xs.length : Nat) : Int) = (left : Int) - xs.length by omega]; rfl
    rintro m s ⟨i, r, hi, rfl, hr, rfl⟩
    refine Split.mk fun t ht => ?_
    rw [hn] at ht
    cases t
    · have hin : i = xs.length := by simp at ht; omega
      subst hin
      rw [List.take_length] at hr
      exact Need.mk ⟨[], _, .same, fin (by rw [cut_pos (by omega)]; omega), rfl⟩ trivial
    · have hia : i < xs.length := by simpa using ht
      have hsum := sum_take Ent.size xs hia
      have hle := sum_take_le Ent.size xs (i + 1)
      refine Need.mk (by omega) ?_
      refine Row.mk _ (map_get _ xs i hia) ?_
      refine ACall.mk _ _ (laws_szEntry xs[i] r (he _ (List.getElem_mem _)) (by omega)) ?_
      refine Split.mk fun t ht => ?_
      rw [cut_lt] at ht
      cases t
      · have h4 : xs[i].size ≤ r := by simpa using ht
        refine Num.mk _ (wrapS (by omega)) ?_
        refine ⟨xs.length - (i + 1), _, by omega, Weak.nrm [true, true, false, false, false, true] [] rfl rfl rfl, i + 1, r - xs[i].size, by omega, rfl, by omega, ?_⟩
        rw [← cut_pos h4]; rfl
      · have h4 : ¬ xs[i].size ≤ r := by simpa using ht
        exact Need.mk ⟨[], _, .same, fin (by rw [cut_neg (by omega)]), rfl⟩ trivial
  · have h4 : ¬ sizeE xs ≤ left := by simp at ht; omega
    exact Need.mk ⟨[], _, .same, fin (by rw [cut_neg h4]), rfl⟩ trivial
end Go.Proofs.Ytlmdheeammfihaa

namespace Go.Proofs.Ytlmdheeammfihaa
open Go Go.Proofs Ev
set_option maxRecDepth 100000
set_option linter.unusedSimpArgs false
set_option linter.unusedVariables false
theorem laws_szRun (r : Rn) (left : Nat) (he : OkE r.ents) (hl : left ≤ 1048576) : AFn Try.prog 166 [.agg (r.enc.map .c), av (.int .i64 left)] [] (.one (vi (cut (sizeE r.ents) left))) [] := by
  refine AFn.introX (E := En 0 md0) (en_ok 0 md0) Try.func166 rfl rfl rfl fun _ _ => ?_
  refine ACall.mk _ _ (laws_szEntryS r.ents left he hl) ?_
  refine Split.mk fun t ht => ?_
  rw [cut_lt] at ht
  cases t
  · exact Need.mk ⟨[], _, .same, rfl, rfl⟩ trivial
  · exact Need.mk ⟨[], _, .same, by rw [cut_neg (by simpa using ht)]; rfl, rfl⟩ trivial
theorem laws_szRunS (xs : List Rn) (left : Nat) (he : OkR xs) (hl : left ≤ 1048576) : AFn Try.prog 138 [sl (xs.map Rn.enc), av (.int .i64 left)] [] (.one (vi (cut (sizeR xs) left))) [] := by
  refine AFn.introX (E := En 0 md0) (en_ok 0 md0) Try.func138 rfl rfl rfl fun hs _ => ?_
  have hn : (xs.map Rn.enc).length = xs.length := List.length_map ..
  have hx := Small.len (hs _ (List.mem_cons_self ..))
  rw [hn] at hx
  have hz : sizeR xs = xs.length + (xs.map (fun r : Rn => sizeE r.ents)).sum := rfl
  have fin : ∀ {z : Int}, z = cut (sizeR xs) left → RV.one (vi z) = RV.one (vi (cut (sizeR xs) left)) := fun h => by rw [h]
  refine Num.mk ((left : Int) - xs.length) (by rw [hn, IntKind.wrap_i64]; omega) ?_
  refine Split.mk fun t ht => ?_
  cases t
  · have h3 : xs.length ≤ left := by simp at ht; omega
    refine ALoop.mk (fun m s => ∃ (i r : Nat), i ≤ xs.length ∧ m = xs.length - i ∧ xs.length + ((xs.take i).map (fun r : Rn => sizeE r.ents)).sum + r = left ∧
        s = ⟨some (sl (xs.map Rn.enc)) :: some (av (.int .i64 r)) :: none :: none :: none :: some (av (.int .i64 i)) :: List.replicate 21 none, List.replicate 27 absent⟩)
      ⟨xs.length, _, Weak.nrm [true, true, false, false, false, true] [] rfl rfl rfl, 0, left - xs.length, Nat.zero_le _, rfl, by simp; omega, ?_⟩ ?_
    · rw [show ((left - xs.length : Nat) : Int) = (left : Int) - xs.length by omega]; rfl
    rintro m s ⟨i, r, hi, rfl, hr, rfl⟩
    refine Split.mk fun t ht => ?_
    rw [hn] at ht
    cases t
    · have hin : i = xs.length := by simp at ht; omega
      subst hin
      rw [List.take_length] at hr
      exact Need.mk ⟨[], _, .same, fin (by rw [cut_pos (by omega)]; omega), rfl⟩ trivial
    · have hia : i < xs.length := by simpa using ht
      have hsum := sum_take (fun r : Rn => sizeE r.ents) xs hia
      have hle := sum_take_le (fun r : Rn => sizeE r.ents) xs (i + 1)
      refine Need.mk (by omega) ?_
      refine Row.mk _ (map_get _ xs i hia) ?_
      refine ACall.mk _ _ (laws_szRun xs[i] r (he _ (List.getElem_mem _)) (by omega)) ?_
      refine Split.mk fun t ht => ?_
      rw [cut_lt] at ht
      cases t
      · have h4 : (sizeE xs[i].ents) ≤ r := by simpa using ht
        refine Num.mk _ (wrapS (by omega)) ?_
        refine ⟨xs.length - (i + 1), _, by omega, Weak.nrm [true, true, false, false, false, true] [] rfl rfl rfl, i + 1, r - (sizeE xs[i].ents), by omega, rfl, by omega, ?_⟩
        rw [← cut_pos h4]; rfl
      · have h4 : ¬ (sizeE xs[i].ents) ≤ r := by simpa using ht
        exact Need.mk ⟨[], _, .same, fin (by rw [cut_neg (by omega)]), rfl⟩ trivial
  · have h4 : ¬ sizeR xs ≤ left := by simp at ht; omega
    exact Need.mk ⟨[], _, .same, fin (by rw [cut_neg h4]), rfl⟩ trivial
theorem laws_szRunSS (xs : List (List Rn)) (left : Nat) (he : OkRR xs) (hl : left ≤ 1048576) : AFn Try.prog 86 [sl (xs.map encL), av (.int .i64 left)] [] (.one (vi (cut (sizeRR xs) left))) [] := by
  refine AFn.introX (E := En 0 md0) (en_ok 0 md0) Try.func86 rfl rfl rfl fun hs _ => ?_
  have hn : (xs.map encL).length = xs.length := List.length_map ..
  have hx := Small.len (hs _ (List.mem_cons_self ..))
  rw [hn] at hx
  have hz : sizeRR xs = xs.length + (xs.map sizeR).sum := rfl
  have fin : ∀ {z : Int}, z = cut (sizeRR xs) left → RV.one (vi z) = RV.one (vi (cut (sizeRR xs) left)) := fun h => by rw [h]
  refine Num.mk ((left : Int) - xs.length) (by rw [hn, IntKind.wrap_i64]; omega) ?_
  refine Split.mk fun t ht => ?_
  cases t
  · have h3 : xs.length ≤ left := by simp at ht; omega
    refine ALoop.mk (fun m s => ∃ (i r : Nat), i ≤ xs.length ∧ m = xs.length - i ∧ xs.length + ((xs.take i).map sizeR).sum + r = left ∧
        s = ⟨some (sl (xs.map encL)) :: some (av (.int .i64 r)) :: none :: none :: none :: some (av (.int .i64 i)) :: List.replicate 21 none, List.replicate 27 absent⟩)
      ⟨xs.length, _, Weak.nrm [true, true, false, false, false, true] [] rfl rfl rfl, 0, left - xs.length, Nat.zero_le _, rfl, by simp; omega, ?_⟩ ?_
    · rw [show ((left - xs.length : Nat) : Int) = (left : Int) - xs.length by omega]; rfl
    rintro m s ⟨i, r, hi, rfl, hr, rfl⟩
    refine Split.mk fun t ht => ?_
    rw [hn] at ht
    cases t
    · have hin : i = xs.length := by simp at ht; omega
      subst hin
      rw [List.take_length] at hr
      exact Need.mk ⟨[], _, .same, fin (by rw [cut_pos (by omega)]; omega), rfl⟩ trivial
    · have hia : i < xs.length := by simpa using ht
      have hsum := sum_take sizeR xs hia
      have hle := sum_take_le sizeR xs (i + 1)
      refine Need.mk (by omega) ?_
      refine Row.mk _ (map_get _ xs i hia) ?_
      refine ACall.mk _ _ (laws_szRunS xs[i] r (he _ (List.getElem_mem _)) (by omega)) ?_
      refine Split.mk fun t ht => ?_
      rw [cut_lt] at ht
      cases t
      · have h4 : (sizeR xs[i]) ≤ r := by simpa using ht
        refine Num.mk _ (wrapS (by omega)) ?_
        refine ⟨xs.length - (i + 1), _, by omega, Weak.nrm [true, true, false, false, false, true] [] rfl rfl rfl, i + 1, r - (sizeR xs[i]), by omega, rfl, by omega, ?_⟩
        rw [← cut_pos h4]; rfl
      · have h4 : ¬ (sizeR xs[i]) ≤ r := by simpa using ht
        exact Need.mk ⟨[], _, .same, fin (by rw [cut_neg (by omega)]), rfl⟩ trivial
  · have h4 : ¬ sizeRR xs ≤ left := by simp at ht; omega
    exact Need.mk ⟨[], _, .same, fin (by rw [cut_neg h4]), rfl⟩ trivial
end Go.Proofs.Ytlmdheeammfihaa

namespace Go.Proofs.Ytlmdheeammfihaa
open Go Go.Proofs Ev
set_option maxRecDepth 100000
set_option linter.unusedSimpArgs false
set_option linter.unusedVariables false
theorem laws_szIntS (xs : List Int) (left : Nat) (hl : left ≤ 1048576) : AFn Try.prog 87 [sl (xs.map encI), av (.int .i64 left)] [] (.one (vi (cut xs.length left))) [] := by
  refine AFn.introX (E := En 0 md0) (en_ok 0 md0) Try.func87 rfl rfl rfl fun hs _ => ?_
  have hn : (xs.map encI).length = xs.length := List.length_map ..
  have hx := Small.len (hs _ (List.mem_cons_self ..))
  rw [hn] at hx
  have fin : ∀ {z : Int}, z = cut xs.length left → RV.one (vi z) = RV.one (vi (cut xs.length left)) := fun h => by rw [h]
  refine Num.mk ((left : Int) - xs.length) (by rw [hn, IntKind.wrap_i64]; omega) ?_
  refine Split.mk fun t ht => ?_
  cases t
  · have h3 : xs.length ≤ left := by simp at ht; omega
    exact Need.mk ⟨[], _, .same, fin (by rw [cut_pos h3]; omega), rfl⟩ trivial
  · have h3 : ¬ xs.length ≤ left := by simp at ht; omega
    exact Need.mk ⟨[], _, .same, fin (by rw [cut_neg h3]), rfl⟩ trivial
theorem laws_szTree (t : Tre) (left : Nat) (he : t.Ok) (hl : left ≤ 1048576) : AFn Try.prog 33 [.agg (t.enc.map .c), av (.int .i64 left)] [] (.one (vi (cut t.size left))) [] := by
  refine AFn.introX (E := En 0 md0) (en_ok 0 md0) Try.func33 rfl rfl rfl fun _ _ => ?_
  have hz : t.size = sizeE t.mem + sizeRR t.levels + t.snaps.length := rfl
  have fin : ∀ {z : Int}, z = cut t.size left → RV.one (vi z) = RV.one (vi (cut t.size left)) := fun h => by rw [h]
  by_cases h1 : sizeE t.mem ≤ left
  · refine ACall.mk (.one (vi ((left - sizeE t.mem : Nat) : Int))) [] (by rw [← cut_pos h1]; exact laws_szEntryS t.mem left he.1 hl) ?_
    refine Split.mk fun b hb => ?_
    cases b
    · by_cases h2 : sizeRR t.levels ≤ left - sizeE t.mem
      · refine ACall.mk (.one (vi ((left - sizeE t.mem - sizeRR t.levels : Nat) : Int))) [] (by rw [← cut_pos h2]; exact laws_szRunSS t.levels (left - sizeE t.mem) he.2 (by omega)) ?_
        refine Split.mk fun b hb => ?_
        cases b
        · by_cases h3 : t.snaps.length ≤ left - sizeE t.mem - sizeRR t.levels
          · refine ACall.mk (.one (vi ((left - sizeE t.mem - sizeRR t.levels - t.snaps.length : Nat) : Int))) [] (by rw [← cut_pos h3]; exact laws_szIntS t.snaps _ (by omega)) ?_
            refine Split.mk fun b hb => ?_
            cases b
            · exact Need.mk ⟨[], _, .same, fin (by rw [cut_pos (by omega)]; omega), rfl⟩ trivial
            · simp at hb <;> omega
          · refine ACall.mk (.one (vi (-1))) [] (by rw [← cut_neg h3]; exact laws_szIntS t.snaps _ (by omega)) ?_
            refine Split.mk fun b hb => ?_
            cases b
            · simp at hb
            · exact Need.mk ⟨[], _, .same, fin (by rw [cut_neg (by omega)]), rfl⟩ trivial
        · simp at hb <;> omega
      · refine ACall.mk (.one (vi (-1))) [] (by rw [← cut_neg h2]; exact laws_szRunSS t.levels (left - sizeE t.mem) he.2 (by omega)) ?_
        refine Split.mk fun b hb => ?_
        cases b
        · simp at hb
        · exact Need.mk ⟨[], _, .same, fin (by rw [cut_neg (by omega)]), rfl⟩ trivial
    · simp at hb <;> omega
  · refine ACall.mk (.one (vi (-1))) [] (by rw [← cut_neg h1]; exact laws_szEntryS t.mem left he.1 hl) ?_
    refine Split.mk fun b hb => ?_
    cases b
    · simp at hb
    · exact Need.mk ⟨[], _, .same, fin (by rw [cut_neg (by omega)]), rfl⟩ trivial
end Go.Proofs.Ytlmdheeammfihaa

namespace Go.Proofs.Ytlmdheeammfihaa
open Go Go.Proofs Ev
set_option maxRecDepth 100000
set_option linter.unusedSimpArgs false
set_option linter.unusedVariables false
theorem laws_toEntry (e : Ent) : AFn Try.prog 142 [.agg (e.enc.map .c)] [] (.agg e.enc) [] := by
  refine AFn.introX (E := En 0 md0) (en_ok 0 md0) Try.func142 rfl rfl rfl fun _ _ => ?_
  exact Need.mk ⟨[], _, .same, rfl, rfl⟩ trivial
theorem laws_toEntryS (xs : List Ent) (hx : xs.length ≤ 1048576) : AFn Try.prog 92 [sl (xs.map Ent.enc)] [] (.one (.us 32 (xs.map Ent.enc))) [] := by
  refine AFn.introX (E := En 0 md0) (en_ok 0 md0) Try.func92 rfl rfl rfl fun _ _ => ?_
  have hn : (xs.map Ent.enc).length = xs.length := List.length_map ..
  refine Need.mk ⟨by omega, by omega, by simp only [hn]; omega, by omega⟩ ?_
  let S : List (List C) → Nat → St := fun rows i => ⟨some (sl (xs.map Ent.enc)) :: none :: none :: some (.one (.ref 3 0 (.cell 0))) :: some (av (.int .i64 i)) :: List.replicate 18 none, absent :: absent :: absent :: ⟨0, 1, some [.us 32 rows]⟩ :: List.replicate 19 absent⟩
  refine ALoop.mk (fun m s => ∃ i : Nat, i ≤ xs.length ∧ m = xs.length - i ∧ s = S ((xs.take i ++ List.replicate (xs.length - i) ent0).map Ent.enc) i)
    ⟨xs.length, _, Weak.nrm [true, false, false, true, true] [(7, 3)] rfl rfl rfl, 0, Nat.zero_le _, rfl, ?_⟩ ?_
  · refine Eq.trans (b := S (List.replicate (xs.map Ent.enc).length (Ent.enc ent0)) 0) rfl ?_
    rw [hn, List.take_zero, List.nil_append, List.map_replicate, Nat.sub_zero]
  rintro m s ⟨i, hi, rfl, rfl⟩
  refine Split.mk fun t ht => ?_
  rw [hn] at ht
  cases t
  · have hin : i = xs.length := by simp at ht; omega
    subst hin
    refine Need.mk ⟨[], _, .same, ?_, rfl⟩ trivial
    rw [List.take_length, Nat.sub_self, List.replicate_zero, List.append_nil]; rfl
  · have hia : i < xs.length := by simpa using ht
    refine Need.mk (by omega) ?_
    refine Row.mk _ (map_get _ xs i hia) ?_
    refine ACall.mk _ _ (laws_toEntry xs[i]) ?_
    refine Need.mk ⟨by omega, by rw [List.length_map, to_len _ _ hi]; omega⟩ ?_
    refine Row.mk _ (to_get _ xs ent0 hia) ?_
    refine Num.mk _ (wrapS (by omega)) ?_
    refine ⟨xs.length - (i + 1), _, by omega, Weak.nrm [true, false, false, true, true] [(3, 3)] rfl rfl rfl, i + 1, by omega, rfl, ?_⟩
    refine Eq.trans (b := S (((xs.take i ++ List.replicate (xs.length - i) ent0).map Ent.enc).set i (Ent.enc xs[i])) (i + 1)) rfl ?_
    rw [← List.map_set, to_step xs ent0 hia]
end Go.Proofs.Ytlmdheeammfihaa

namespace Go.Proofs.Ytlmdheeammfihaa
open Go Go.Proofs Ev
set_option maxRecDepth 100000
set_option linter.unusedSimpArgs false
set_option linter.unusedVariables false
theorem laws_toRun (r : Rn) (hr : r.ents.length ≤ 1048576) : AFn Try.prog 167 [.agg (r.enc.map .c)] [] (.agg (encO r)) [] := by
  refine AFn.introX (E := En 0 md0) (en_ok 0 md0) Try.func167 rfl rfl rfl fun _ _ => ?_
  refine ACall.mk _ _ (laws_toEntryS r.ents hr) ?_
  exact Need.mk ⟨[], _, .same, rfl, rfl⟩ trivial
theorem laws_toRunS (xs : List Rn) (hx : xs.length ≤ 1048576) (hr : ∀ r ∈ xs, r.ents.length ≤ 1048576) : AFn Try.prog 143 [sl (xs.map Rn.enc)] [] (.one (.us 25 (xs.map encO))) [] := by
  refine AFn.introX (E := En 0 md0) (en_ok 0 md0) Try.func143 rfl rfl rfl fun _ _ => ?_
  have hn : (xs.map Rn.enc).length = xs.length := List.length_map ..
  refine Need.mk ⟨by omega, by omega, by simp only [hn]; omega, by omega⟩ ?_
  let S : List (List C) → Nat → St := fun rows i => ⟨some (sl (xs.map Rn.enc)) :: none :: none :: some (.one (.ref 3 0 (.cell 0))) :: some (av (.int .i64 i)) :: List.replicate 18 none, absent :: absent :: absent :: ⟨0, 1, some [.us 25 rows]⟩ :: List.replicate 19 absent⟩
  refine ALoop.mk (fun m s => ∃ i : Nat, i ≤ xs.length ∧ m = xs.length - i ∧ s = S ((xs.take i ++ List.replicate (xs.length - i) (⟨[], 0⟩ : Rn)).map encO) i)
    ⟨xs.length, _, Weak.nrm [true, false, false, true, true] [(7, 3)] rfl rfl rfl, 0, Nat.zero_le _, rfl, ?_⟩ ?_
  · refine Eq.trans (b := S (List.replicate (xs.map Rn.enc).length (encO (⟨[], 0⟩ : Rn))) 0) rfl ?_
    rw [hn, List.take_zero, List.nil_append, List.map_replicate, Nat.sub_zero]
  rintro m s ⟨i, hi, rfl, rfl⟩
  refine Split.mk fun t ht => ?_
  rw [hn] at ht
  cases t
  · have hin : i = xs.length := by simp at ht; omega
    subst hin
    refine Need.mk ⟨[], _, .same, ?_, rfl⟩ trivial
    rw [List.take_length, Nat.sub_self, List.replicate_zero, List.append_nil]; rfl
  · have hia : i < xs.length := by simpa using ht
    refine Need.mk (by omega) ?_
    refine Row.mk _ (map_get _ xs i hia) ?_
    refine ACall.mk _ _ (laws_toRun xs[i] (hr _ (List.getElem_mem _))) ?_
    refine Need.mk ⟨by omega, by rw [List.length_map, to_len _ _ hi]; omega⟩ ?_
    refine Row.mk _ (to_get _ xs (⟨[], 0⟩ : Rn) hia) ?_
    refine Num.mk _ (wrapS (by omega)) ?_
    refine ⟨xs.length - (i + 1), _, by omega, Weak.nrm [true, false, false, true, true] [(3, 3)] rfl rfl rfl, i + 1, by omega, rfl, ?_⟩
    refine Eq.trans (b := S (((xs.take i ++ List.replicate (xs.length - i) (⟨[], 0⟩ : Rn)).map encO).set i (encO xs[i])) (i + 1)) rfl ?_
    rw [← List.map_set, to_step xs (⟨[], 0⟩ : Rn) hia]
end Go.Proofs.Ytlmdheeammfihaa

namespace Go.Proofs.Ytlmdheeammfihaa
open Go Go.Proofs Ev
set_option maxRecDepth 100000
set_option linter.unusedSimpArgs false
set_option linter.unusedVariables false
theorem laws_toRunSS (xs : List (List Rn)) (hx : xs.length ≤ 1048576) (hr : ∀ l ∈ xs, l.length ≤ 1048576 ∧ ∀ r ∈ l, r.ents.length ≤ 1048576) : AFn Try.prog 93 [sl (xs.map encL)] [] (.one (.us 112 (xs.map encLO))) [] := by
  refine AFn.introX (E := En 0 md0) (en_ok 0 md0) Try.func93 rfl rfl rfl fun _ _ => ?_
  have hn : (xs.map encL).length = xs.length := List.length_map ..
  refine Need.mk ⟨by omega, by omega, by simp only [hn]; omega, by omega⟩ ?_
  let S : List (List C) → Nat → St := fun rows i => ⟨some (sl (xs.map encL)) :: none :: none :: some (.one (.ref 3 0 (.cell 0))) :: some (av (.int .i64 i)) :: List.replicate 18 none, absent :: absent :: absent :: ⟨0, 1, some [.us 112 rows]⟩ :: List.replicate 19 absent⟩
  refine ALoop.mk (fun m s => ∃ i : Nat, i ≤ xs.length ∧ m = xs.length - i ∧ s = S ((xs.take i ++ List.replicate (xs.length - i) ([] : List Rn)).map encLO) i)
    ⟨xs.length, _, Weak.nrm [true, false, false, true, true] [(7, 3)] rfl rfl rfl, 0, Nat.zero_le _, rfl, ?_⟩ ?_
  · refine Eq.trans (b := S (List.replicate (xs.map encL).length (encLO ([] : List Rn))) 0) rfl ?_
    rw [hn, List.take_zero, List.nil_append, List.map_replicate, Nat.sub_zero]
  rintro m s ⟨i, hi, rfl, rfl⟩
  refine Split.mk fun t ht => ?_
  rw [hn] at ht
  cases t
  · have hin : i = xs.length := by simp at ht; omega
    subst hin
    refine Need.mk ⟨[], _, .same, ?_, rfl⟩ trivial
    rw [List.take_length, Nat.sub_self, List.replicate_zero, List.append_nil]; rfl
  · have hia : i < xs.length := by simpa using ht
    refine Need.mk (by omega) ?_
    refine Row.mk _ (map_get _ xs i hia) ?_
    refine ACall.mk _ _ (laws_toRunS xs[i] (hr _ (List.getElem_mem _)).1 (hr _ (List.getElem_mem _)).2) ?_
    refine Need.mk ⟨by omega, by rw [List.length_map, to_len _ _ hi]; omega⟩ ?_
    refine Row.mk _ (to_get _ xs ([] : List Rn) hia) ?_
    refine Num.mk _ (wrapS (by omega)) ?_
    refine ⟨xs.length - (i + 1), _, by omega, Weak.nrm [true, false, false, true, true] [(3, 3)] rfl rfl rfl, i + 1, by omega, rfl, ?_⟩
    refine Eq.trans (b := S (((xs.take i ++ List.replicate (xs.length - i) ([] : List Rn)).map encLO).set i (encLO xs[i])) (i + 1)) rfl ?_
    rw [← List.map_set, to_step xs ([] : List Rn) hia]
end Go.Proofs.Ytlmdheeammfihaa

namespace Go.Proofs.Ytlmdheeammfihaa
open Go Go.Proofs Ev
set_option maxRecDepth 100000
set_option linter.unusedSimpArgs false
set_option linter.unusedVariables false
theorem laws_toIntS (xs : List Int) (hx : xs.length ≤ 1048576) : AFn Try.prog 94 [sl (xs.map encI)] [] (.one (.us 3 (xs.map encI))) [] := by
  refine AFn.introX (E := En 0 md0) (en_ok 0 md0) Try.func94 rfl rfl rfl fun _ _ => ?_
  have hn : (xs.map encI).length = xs.length := List.length_map ..
  refine Need.mk ⟨by omega, by omega, by simp only [hn]; omega, by omega⟩ ?_
  let S : List (List C) → Nat → St := fun rows i => ⟨some (sl (xs.map encI)) :: none :: none :: some (.one (.ref 3 0 (.cell 0))) :: some (av (.int .i64 i)) :: List.replicate 17 none, absent :: absent :: absent :: ⟨0, 1, some [.us 3 rows]⟩ :: List.replicate 18 absent⟩
  refine ALoop.mk (fun m s => ∃ i : Nat, i ≤ xs.length ∧ m = xs.length - i ∧ s = S ((xs.take i ++ List.replicate (xs.length - i) (0 : Int)).map encI) i)
    ⟨xs.length, _, Weak.nrm [true, false, false, true, true] [(7, 3)] rfl rfl rfl, 0, Nat.zero_le _, rfl, ?_⟩ ?_
  · refine Eq.trans (b := S (List.replicate (xs.map encI).length (encI (0 : Int))) 0) rfl ?_
    rw [hn, List.take_zero, List.nil_append, List.map_replicate, Nat.sub_zero]
  rintro m s ⟨i, hi, rfl, rfl⟩
  refine Split.mk fun t ht => ?_
  rw [hn] at ht
  cases t
  · have hin : i = xs.length := by simp at ht; omega
    subst hin
    refine Need.mk ⟨[], _, .same, ?_, rfl⟩ trivial
    rw [List.take_length, Nat.sub_self, List.replicate_zero, List.append_nil]; rfl
  · have hia : i < xs.length := by simpa using ht
    refine Need.mk (by omega) ?_
    refine Row.mk _ (map_get _ xs i hia) ?_
    refine Need.mk ⟨by omega, by rw [List.length_map, to_len _ _ hi]; omega⟩ ?_
    refine Row.mk _ (to_get _ xs (0 : Int) hia) ?_
    refine Num.mk _ (wrapS (by omega)) ?_
    refine ⟨xs.length - (i + 1), _, by omega, Weak.nrm [true, false, false, true, true] [(3, 3)] rfl rfl rfl, i + 1, by omega, rfl, ?_⟩
    refine Eq.trans (b := S (((xs.take i ++ List.replicate (xs.length - i) (0 : Int)).map encI).set i (encI xs[i])) (i + 1)) rfl ?_
    rw [← List.map_set, to_step xs (0 : Int) hia]
end Go.Proofs.Ytlmdheeammfihaa

namespace Go.Proofs.Ytlmdheeammfihaa
open Go Go.Proofs Ev
set_option maxRecDepth 100000
set_option linter.unusedSimpArgs false
set_option linter.unusedVariables false
theorem laws_toTree (t : Tre) (ht : Tre.Small t) : AFn Try.prog 35 [.agg (t.enc.map .c)] [] (.agg (encTO t)) [] := by
  refine AFn.introX (E := En 0 md0) (en_ok 0 md0) Try.func35 rfl rfl rfl fun _ _ => ?_
  refine ACall.mk _ _ (laws_toEntryS t.mem ht.1) ?_
  refine ACall.mk _ _ (laws_toRunSS t.levels ht.2.1 ht.2.2.1) ?_
  refine ACall.mk _ _ (laws_toIntS t.snaps ht.2.2.2) ?_
  exact Need.mk ⟨[], _, .same, rfl, rfl⟩ trivial
end Go.Proofs.Ytlmdheeammfihaa

namespace Go.Proofs.Ytlmdheeammfihaa
open Go Go.Proofs Ev
set_option maxRecDepth 100000
set_option linter.unusedSimpArgs false
set_option linter.unusedVariables false
theorem laws_eqEntry (a b : Ent) : AFn Try.prog 102 [.agg (a.enc.map .c), .agg (b.enc.map .c)] [] (rb (decide (a = b))) [] := by
  refine AFn.introX (E := En 0 md0) (en_ok 0 md0) Try.func102 rfl rfl rfl fun _ _ => ?_
  have fin : ∀ {c : Bool}, c = decide (a = b) → rb c = rb (decide (a = b)) := fun h => by rw [h]
  refine Split.mk fun t ht => ?_
  rw [bytes_beq] at ht
  cases t
  · refine Split.mk fun t ht1 => ?_
    cases t
    · refine Split.mk fun t ht2 => ?_
      cases t
      · refine Split.mk fun t ht3 => ?_
        rw [bytes_beq] at ht3
        cases t
        · refine Split.mk fun t ht4 => ?_
          cases t
          · exact Need.mk ⟨[], _, .same, fin (by cases a; cases b; simp_all), rfl⟩ trivial
          · exact Need.mk ⟨[], _, .same, fin (by cases a; cases b; simp_all), rfl⟩ trivial
        · exact Need.mk ⟨[], _, .same, fin (by cases a; cases b; simp_all), rfl⟩ trivial
      · exact Need.mk ⟨[], _, .same, fin (by cases a; cases b; simp_all), rfl⟩ trivial
    · exact Need.mk ⟨[], _, .same, fin (by cases a; cases b; simp_all), rfl⟩ trivial
  · exact Need.mk ⟨[], _, .same, fin (by cases a; cases b; simp_all), rfl⟩ trivial
end Go.Proofs.Ytlmdheeammfihaa

namespace Go.Proofs.Ytlmdheeammfihaa
open Go Go.Proofs Ev
set_option maxRecDepth 100000
set_option linter.unusedSimpArgs false
set_option linter.unusedVariables false
theorem laws_eqEntryS (a b : List Ent) : AFn Try.prog 40 [sl (a.map Ent.enc), sl (b.map Ent.enc)] [] (rb (decide (a = b))) [] := by
  refine AFn.introX (E := En 0 md0) (en_ok 0 md0) Try.func40 rfl rfl rfl fun hs _ => ?_
  have ha := Small.len (hs _ (List.mem_cons_self ..))
  rw [List.length_map] at ha
  have fin : ∀ {c : Bool}, c = decide (a = b) → rb c = rb (decide (a = b)) := fun h => by rw [h]
  refine Split.mk fun t ht => ?_
  cases t
  · have hl : a.length = b.length := Int.ofNat_inj.1 (by simpa using ht)
    refine ALoop.mk (fun n s => ∃ i : Nat, i ≤ a.length ∧ n = a.length - i ∧ a.take i = b.take i ∧
      s = ⟨some (sl (a.map Ent.enc)) :: some (sl (b.map Ent.enc)) :: none :: none :: some (av (.bool false)) :: some (av (.int .i64 i)) :: List.replicate 21 none, List.replicate 27 absent⟩)
      ⟨a.length, _, Weak.nrm [true, true, false, false, true, true] [] rfl rfl rfl, 0, Nat.zero_le _, rfl, rfl, rfl⟩ ?_
    rintro n s ⟨i, hi, rfl, hp, rfl⟩
    refine Split.mk fun t ht => ?_
    cases t
    · have hia : i = a.length := by simp at ht; omega
      refine Need.mk ⟨[], _, .same, fin ?_, rfl⟩ trivial
      subst hia
      rw [List.take_length, hl, List.take_length] at hp
      simp [hp]
    · have hia : i < a.length := by simpa using ht
      refine Need.mk (by omega) ?_
      refine Row.mk _ (map_get _ a i hia) ?_
      refine Need.mk (by omega) ?_
      refine Row.mk _ (map_get _ b i (by omega)) ?_
      refine ACall.mk _ _ (laws_eqEntry a[i] (b[i]'(by omega))) ?_
      refine Split.mk fun t ht2 => ?_
      cases t
      · refine Need.mk rfl ?_
        refine Need.mk ⟨[], _, .same, fin ?_, rfl⟩ trivial
        have : a[i] ≠ b[i]'(by omega) := by simpa using ht2
        refine (decide_eq_false fun e => this ?_).symm
        subst e; rfl
      · refine Need.mk rfl ?_
        refine Num.mk _ (wrapS (by omega)) ?_
        refine ⟨a.length - (i + 1), _, by omega, Weak.nrm [true, true, false, false, true, true] [] rfl rfl rfl, i + 1, by omega, rfl, ?_, rfl⟩
        have : a[i] = b[i]'(by omega) := by simpa using ht2
        rw [List.take_succ_eq_append_getElem hia, List.take_succ_eq_append_getElem (by omega), hp, this]
  · refine Need.mk ⟨[], _, .same, fin ?_, rfl⟩ trivial
    have : a.length ≠ b.length := by
      intro e; simp [e] at ht
    exact (decide_eq_false fun e => this (by rw [e])).symm
end Go.Proofs.Ytlmdheeammfihaa

namespace Go.Proofs.Ytlmdheeammfihaa
open Go Go.Proofs Ev
set_option maxRecDepth 100000
set_option linter.unusedSimpArgs false
set_option linter.unusedVariables false
theorem laws_eqRun (a b : Rn) : AFn Try.prog 168 [.agg (a.enc.map .c), .agg (b.enc.map .c)] [] (rb (decide (a = b))) [] := by
  refine AFn.introX (E := En 0 md0) (en_ok 0 md0) Try.func168 rfl rfl rfl fun _ _ => ?_
  have fin : ∀ {c : Bool}, c = decide (a = b) → rb c = rb (decide (a = b)) := fun h => by rw [h]
  refine ACall.mk _ _ (laws_eqEntryS a.ents b.ents) ?_
  refine Split.mk fun t ht => ?_
  cases t
  · exact Need.mk ⟨[], _, .same, fin (by cases a; cases b; simp_all), rfl⟩ trivial
  · refine Split.mk fun t ht1 => ?_
    cases t
    · exact Need.mk ⟨[], _, .same, fin (by cases a; cases b; simp_all), rfl⟩ trivial
    · exact Need.mk ⟨[], _, .same, fin (by cases a; cases b; simp_all), rfl⟩ trivial
end Go.Proofs.Ytlmdheeammfihaa

namespace Go.Proofs.Ytlmdheeammfihaa
open Go Go.Proofs Ev
set_option maxRecDepth 100000
set_option linter.unusedSimpArgs false
set_option linter.unusedVariables false
theorem laws_eqRunS (a b : List Rn) : AFn Try.prog 145 [sl (a.map Rn.enc), sl (b.map Rn.enc)] [] (rb (decide (a = b))) [] := by
  refine AFn.introX (E := En 0 md0) (en_ok 0 md0) Try.func145 rfl rfl rfl fun hs _ => ?_
  have ha := Small.len (hs _ (List.mem_cons_self ..))
  rw [List.length_map] at ha
  have fin : ∀ {c : Bool}, c = decide (a = b) → rb c = rb (decide (a = b)) := fun h => by rw [h]
  refine Split.mk fun t ht => ?_
  cases t
  · have hl : a.length = b.length := Int.ofNat_inj.1 (by simpa using ht)
    refine ALoop.mk (fun n s => ∃ i : Nat, i ≤ a.length ∧ n = a.length - i ∧ a.take i = b.take i ∧
      s = ⟨some (sl (a.map Rn.enc)) :: some (sl (b.map Rn.enc)) :: none :: none :: some (av (.bool false)) :: some (av (.int .i64 i)) :: List.replicate 21 none, List.replicate 27 absent⟩)
      ⟨a.length, _, Weak.nrm [true, true, false, false, true, true] [] rfl rfl rfl, 0, Nat.zero_le _, rfl, rfl, rfl⟩ ?_
    rintro n s ⟨i, hi, rfl, hp, rfl⟩
    refine Split.mk fun t ht => ?_
    cases t
    · have hia : i = a.length := by simp at ht; omega
      refine Need.mk ⟨[], _, .same, fin ?_, rfl⟩ trivial
      subst hia
      rw [List.take_length, hl, List.take_length] at hp
      simp [hp]
    · have hia : i < a.length := by simpa using ht
      refine Need.mk (by omega) ?_
      refine Row.mk _ (map_get _ a i hia) ?_
      refine Need.mk (by omega) ?_
      refine Row.mk _ (map_get _ b i (by omega)) ?_
      refine ACall.mk _ _ (laws_eqRun a[i] (b[i]'(by omega))) ?_
      refine Split.mk fun t ht2 => ?_
      cases t
      · refine Need.mk rfl ?_
        refine Need.mk ⟨[], _, .same, fin ?_, rfl⟩ trivial
        have : a[i] ≠ b[i]'(by omega) := by simpa using ht2
        refine (decide_eq_false fun e => this ?_).symm
        subst e; rfl
      · refine Need.mk rfl ?_
        refine Num.mk _ (wrapS (by omega)) ?_
        refine ⟨a.length - (i + 1), _, by omega, Weak.nrm [true, true, false, false, true, true] [] rfl rfl rfl, i + 1, by omega, rfl, ?_, rfl⟩
        have : a[i] = b[i]'(by omega) := by simpa using ht2
        rw [List.take_succ_eq_append_getElem hia, List.take_succ_eq_append_getElem (by omega), hp, this]
  · refine Need.mk ⟨[], _, .same, fin ?_, rfl⟩ trivial
    have : a.length ≠ b.length := by
      intro e; simp [e] at ht
    exact (decide_eq_false fun e => this (by rw [e])).symm
end Go.Proofs.Ytlmdheeammfihaa

namespace Go.Proofs.Ytlmdheeammfihaa
open Go Go.Proofs Ev
set_option maxRecDepth 100000
set_option linter.unusedSimpArgs false
set_option linter.unusedVariables false
theorem laws_eqRunSS (a b : List (List Rn)) : AFn Try.prog 99 [sl (a.map encL), sl (b.map encL)] [] (rb (decide (a = b))) [] := by
  refine AFn.introX (E := En 0 md0) (en_ok 0 md0) Try.func99 rfl rfl rfl fun hs _ => ?_
  have ha := Small.len (hs _ (List.mem_cons_self ..))
  rw [List.length_map] at ha
  have fin : ∀ {c : Bool}, c = decide (a = b) → rb c = rb (decide (a = b)) := fun h => by rw [h]
  refine Split.mk fun t ht => ?_
  cases t
  · have hl : a.length = b.length := Int.ofNat_inj.1 (by simpa using ht)
    refine ALoop.mk (fun n s => ∃ i : Nat, i ≤ a.length ∧ n = a.length - i ∧ a.take i = b.take i ∧
      s = ⟨some (sl (a.map encL)) :: some (sl (b.map encL)) :: none :: none :: some (av (.bool false)) :: some (av (.int .i64 i)) :: List.replicate 21 none, List.replicate 27 absent⟩)
      ⟨a.length, _, Weak.nrm [true, true, false, false, true, true] [] rfl rfl rfl, 0, Nat.zero_le _, rfl, rfl, rfl⟩ ?_
    rintro n s ⟨i, hi, rfl, hp, rfl⟩
    refine Split.mk fun t ht => ?_
    cases t
    · have hia : i = a.length := by simp at ht; omega
      refine Need.mk ⟨[], _, .same, fin ?_, rfl⟩ trivial
      subst hia
      rw [List.take_length, hl, List.take_length] at hp
      simp [hp]
    · have hia : i < a.length := by simpa using ht
      refine Need.mk (by omega) ?_
      refine Row.mk _ (map_get _ a i hia) ?_
      refine Need.mk (by omega) ?_
      refine Row.mk _ (map_get _ b i (by omega)) ?_
      refine ACall.mk _ _ (laws_eqRunS a[i] (b[i]'(by omega))) ?_
      refine Split.mk fun t ht2 => ?_
      cases t
      · refine Need.mk rfl ?_
        refine Need.mk ⟨[], _, .same, fin ?_, rfl⟩ trivial
        have : a[i] ≠ b[i]'(by omega) := by simpa using ht2
        refine (decide_eq_false fun e => this ?_).symm
        subst e; rfl
      · refine Need.mk rfl ?_
        refine Num.mk _ (wrapS (by omega)) ?_
        refine ⟨a.length - (i + 1), _, by omega, Weak.nrm [true, true, false, false, true, true] [] rfl rfl rfl, i + 1, by omega, rfl, ?_, rfl⟩
        have : a[i] = b[i]'(by omega) := by simpa using ht2
        rw [List.take_succ_eq_append_getElem hia, List.take_succ_eq_append_getElem (by omega), hp, this]
  · refine Need.mk ⟨[], _, .same, fin ?_, rfl⟩ trivial
    have : a.length ≠ b.length := by
      intro e; simp [e] at ht
    exact (decide_eq_false fun e => this (by rw [e])).symm
end Go.Proofs.Ytlmdheeammfihaa

namespace Go.Proofs.Ytlmdheeammfihaa
open Go Go.Proofs Ev
set_option maxRecDepth 100000
set_option linter.unusedSimpArgs false
set_option linter.unusedVariables false
theorem laws_eqIntS (a b : List Int) : AFn Try.prog 100 [sl (a.map encI), sl (b.map encI)] [] (rb (decide (a = b))) [] := by
  refine AFn.introX (E := En 0 md0) (en_ok 0 md0) Try.func100 rfl rfl rfl fun hs _ => ?_
  have ha := Small.len (hs _ (List.mem_cons_self ..))
  rw [List.length_map] at ha
  have fin : ∀ {c : Bool}, c = decide (a = b) → rb c = rb (decide (a = b)) := fun h => by rw [h]
  refine Split.mk fun t ht => ?_
  cases t
  · have hl : a.length = b.length := Int.ofNat_inj.1 (by simpa using ht)
    refine ALoop.mk (fun n s => ∃ i : Nat, i ≤ a.length ∧ n = a.length - i ∧ a.take i = b.take i ∧
      s = ⟨some (sl (a.map encI)) :: some (sl (b.map encI)) :: none :: none :: some (av (.bool false)) :: some (av (.int .i64 i)) :: List.replicate 20 none, List.replicate 26 absent⟩)
      ⟨a.length, _, Weak.nrm [true, true, false, false, true, true] [] rfl rfl rfl, 0, Nat.zero_le _, rfl, rfl, rfl⟩ ?_
    rintro n s ⟨i, hi, rfl, hp, rfl⟩
    refine Split.mk fun t ht => ?_
    cases t
    · have hia : i = a.length := by simp at ht; omega
      refine Need.mk ⟨[], _, .same, fin ?_, rfl⟩ trivial
      subst hia
      rw [List.take_length, hl, List.take_length] at hp
      simp [hp]
    · have hia : i < a.length := by simpa using ht
      refine Need.mk (by omega) ?_
      refine Row.mk _ (map_get _ a i hia) ?_
      refine Need.mk (by omega) ?_
      refine Row.mk _ (map_get _ b i (by omega)) ?_
      refine Split.mk fun t ht2 => ?_
      cases t
      · refine Need.mk rfl ?_
        refine Num.mk _ (wrapS (by omega)) ?_
        refine ⟨a.length - (i + 1), _, by omega, Weak.nrm [true, true, false, false, true, true] [] rfl rfl rfl, i + 1, by omega, rfl, ?_, rfl⟩
        have : a[i] = b[i]'(by omega) := by simpa using ht2
        rw [List.take_succ_eq_append_getElem hia, List.take_succ_eq_append_getElem (by omega), hp, this]
      · refine Need.mk rfl ?_
        refine Need.mk ⟨[], _, .same, fin ?_, rfl⟩ trivial
        have : a[i] ≠ b[i]'(by omega) := by simpa using ht2
        refine (decide_eq_false fun e => this ?_).symm
        subst e; rfl
  · refine Need.mk ⟨[], _, .same, fin ?_, rfl⟩ trivial
    have : a.length ≠ b.length := by
      intro e; simp [e] at ht
    exact (decide_eq_false fun e => this (by rw [e])).symm
end Go.Proofs.Ytlmdheeammfihaa

namespace Go.Proofs.Ytlmdheeammfihaa
open Go Go.Proofs Ev
set_option maxRecDepth 100000
set_option linter.unusedSimpArgs false
set_option linter.unusedVariables false
theorem laws_eqTree (a b : Tre) : AFn Try.prog 37 [.agg (a.enc.map .c), .agg (b.enc.map .c)] [] (rb (decide (a = b))) [] := by
  refine AFn.introX (E := En 0 md0) (en_ok 0 md0) Try.func37 rfl rfl rfl fun _ _ => ?_
  have fin : ∀ {c : Bool}, c = decide (a = b) → rb c = rb (decide (a = b)) := fun h => by rw [h]
  refine Split.mk fun t ht => ?_
  cases t
  · refine ACall.mk _ _ (laws_eqEntryS a.mem b.mem) ?_
    refine Split.mk fun t ht1 => ?_
    cases t
    · exact Need.mk ⟨[], _, .same, fin (by cases a; cases b; simp_all), rfl⟩ trivial
    · refine ACall.mk _ _ (laws_eqRunSS a.levels b.levels) ?_
      refine Split.mk fun t ht2 => ?_
      cases t
      · exact Need.mk ⟨[], _, .same, fin (by cases a; cases b; simp_all), rfl⟩ trivial
      · refine ACall.mk _ _ (laws_eqIntS a.snaps b.snaps) ?_
        refine Split.mk fun t ht3 => ?_
        cases t
        · exact Need.mk ⟨[], _, .same, fin (by cases a; cases b; simp_all), rfl⟩ trivial
        · exact Need.mk ⟨[], _, .same, fin (by cases a; cases b; simp_all), rfl⟩ trivial
  · exact Need.mk ⟨[], _, .same, fin (by cases a; cases b; simp_all), rfl⟩ trivial
end Go.Proofs.Ytlmdheeammfihaa

namespace Go.Proofs.Ytlmdheeammfihaa
open Go Go.Proofs Ev
set_option maxRecDepth 100000
set_option linter.unusedSimpArgs false
set_option linter.unusedVariables false
theorem laws_heldEntryS (k n : Nat) (hk : k + 5 * n ≤ 4611686018427387904) : AFn Try.prog 43 [sl ((markL k n).map Ent.enc), av (.int .i64 k)] [] (.one (vi ((k + 5 * n : Nat) : Int))) [] := by
  refine AFn.introX (E := En 0 md0) (en_ok 0 md0) Try.func43 rfl rfl rfl fun _ _ => ?_
  have hn : ((markL k n).map Ent.enc).length = n := by rw [List.length_map, markL_len]
  refine ALoop.mk (fun m s => ∃ i : Nat, i ≤ n ∧ m = n - i ∧
      s = ⟨some (sl ((markL k n).map Ent.enc)) :: some (av (.int .i64 ((k + 5 * i : Nat) : Int))) :: none :: none :: none :: some (av (.int .i64 i)) :: List.replicate 54 none, List.replicate 60 absent⟩)
    ⟨n, _, Weak.nrm [true, true, false, false, false, true] [] rfl rfl rfl, 0, Nat.zero_le _, rfl, rfl⟩ ?_
  rintro m s ⟨i, hi, rfl, rfl⟩
  refine Split.mk fun t ht => ?_
  rw [hn] at ht
  cases t
  · have hin : i = n := by simp at ht; omega
    subst hin
    exact Need.mk ⟨[], _, .same, rfl, rfl⟩ trivial
  · have hin : i < n := by simpa using ht
    have hget : ((markL k n).map Ent.enc)[i]? = some (markE (k + 5 * i)).enc := by rw [List.getElem?_map, markL_get hin]; rfl
    refine Need.mk (by omega) ?_
    refine Row.mk _ hget ?_
    refine ACall.mk _ _ (laws_markText (k + 5 * i) (by omega)) ?_
    refine Split.mk fun t ht => ?_
    rw [bytes_beq] at ht
    cases t
    · refine Need.mk rfl ?_
      refine Num.mk _ (wrapS (by omega)) ?_
      refine Need.mk (by omega) ?_
      refine Row.mk _ hget ?_
      refine Split.mk fun t ht => ?_
      cases t
      · refine Num.mk _ (wrapS (by omega)) ?_
        refine Need.mk (by omega) ?_
        refine Row.mk _ hget ?_
        refine Split.mk fun t ht => ?_
        cases t
        · refine Num.mk _ (wrapS (by omega)) ?_
          refine Need.mk (by omega) ?_
          refine Row.mk _ hget ?_
          refine ACall.mk _ _ (laws_markText (k + 5 * i + 1 + 1 + 1) (by omega)) ?_
          refine Split.mk fun t ht => ?_
          rw [bytes_beq] at ht
          cases t
          · refine Need.mk rfl ?_
            refine Num.mk _ (wrapS (by omega)) ?_
            refine Need.mk (by omega) ?_
            refine Row.mk _ hget ?_
            refine Split.mk fun t ht => ?_
            cases t
            · refine Num.mk _ (wrapS (by omega)) ?_
              refine Num.mk _ (wrapS (by omega)) ?_
              exact ⟨n - (i + 1), _, by omega, Weak.nrm [true, true, false, false, false, true] [] rfl rfl rfl, i + 1, by omega, rfl, rfl⟩
            · simp [markE] at ht <;> omega
          · simp [markE] at ht <;> omega
        · simp [markE] at ht <;> omega
      · simp [markE] at ht <;> omega
    · simp [markE] at ht <;> omega
end Go.Proofs.Ytlmdheeammfihaa

namespace Go.Proofs.Ytlmdheeammfihaa
open Go Go.Proofs Ev
set_option maxRecDepth 100000
set_option linter.unusedSimpArgs false
set_option linter.unusedVariables false
theorem laws_heldRunS (xs : List Rn) (k : Nat) (hk : posR k xs ≤ 4611686018427387904) : AFn Try.prog 151 [sl ((mkRs k xs).map Rn.enc), av (.int .i64 k)] [] (.one (vi (posR k xs : Nat))) [] := by
  refine AFn.introX (E := En 0 md0) (en_ok 0 md0) Try.func151 rfl rfl rfl fun _ _ => ?_
  have hn : ((mkRs k xs).map Rn.enc).length = xs.length := by rw [List.length_map, mkRs_len]
  have hxl := posR_len xs k
  refine ALoop.mk (fun m s => ∃ i : Nat, i ≤ xs.length ∧ m = xs.length - i ∧
      s = ⟨some (sl ((mkRs k xs).map Rn.enc)) :: some (av (.int .i64 ((posR k (xs.take i) : Nat) : Int))) :: none :: none :: none :: some (av (.int .i64 i)) :: List.replicate 25 none, List.replicate 31 absent⟩)
    ⟨xs.length, _, Weak.nrm [true, true, false, false, false, true] [] rfl rfl rfl, 0, Nat.zero_le _, rfl, rfl⟩ ?_
  rintro m s ⟨i, hi, rfl, rfl⟩
  refine Split.mk fun t ht => ?_
  rw [hn] at ht
  cases t
  · have hin : i = xs.length := by simp at ht; omega
    subst hin
    refine Need.mk ⟨[], _, .same, ?_, rfl⟩ trivial
    rw [List.take_length]; rfl
  · have hia : i < xs.length := by simpa using ht
    have hpos : posR k (xs.take (i + 1)) = posR k (xs.take i) + 5 * xs[i].ents.length + 1 := by rw [List.take_succ_eq_append_getElem hia, posR_app]; rfl
    have hle : posR k (xs.take (i + 1)) ≤ 4611686018427387904 := by
      have : posR k xs = posR (posR k (xs.take (i + 1))) (xs.drop (i + 1)) := by rw [← posR_app, List.take_append_drop]
      have h2 := posR_le (xs.drop (i + 1)) (posR k (xs.take (i + 1)))
      omega
    have hget : ((mkRs k xs).map Rn.enc)[i]? = some (mkR (posR k (xs.take i)) xs[i]).enc := by
      have h1 : mkRs k xs = mkRs k (xs.take i) ++ mkRs (posR k (xs.take i)) (xs.drop i) := by rw [← mkRs_app, List.take_append_drop]
      rw [List.getElem?_map, h1, List.getElem?_append_right (by rw [mkRs_len, List.length_take]; omega), mkRs_len, List.length_take, Nat.min_eq_left (by omega), Nat.sub_self, List.drop_eq_getElem_cons hia]
      rfl
    refine Need.mk (by omega) ?_
    refine Row.mk _ hget ?_
    refine ACall.mk _ _ (laws_heldEntryS (posR k (xs.take i)) xs[i].ents.length (by omega)) ?_
    refine Split.mk fun t ht => ?_
    cases t
    · refine Need.mk (by omega) ?_
      refine Row.mk _ hget ?_
      refine Split.mk fun t ht => ?_
      cases t
      · refine Num.mk _ (wrapS (by omega)) ?_
        refine Num.mk _ (wrapS (by omega)) ?_
        refine ⟨xs.length - (i + 1), _, by omega, Weak.nrm [true, true, false, false, false, true] [] rfl rfl rfl, i + 1, by omega, rfl, ?_⟩
        rw [hpos]; rfl
      · simp [mkR] at ht
    · simp at ht <;> omega
end Go.Proofs.Ytlmdheeammfihaa

namespace Go.Proofs.Ytlmdheeammfihaa
open Go Go.Proofs Ev
set_option maxRecDepth 100000
set_option linter.unusedSimpArgs false
set_option linter.unusedVariables false
theorem laws_heldRunSS (xs : List (List Rn)) (k : Nat) (hk : posL k xs ≤ 4611686018427387904) : AFn Try.prog 112 [sl ((mkLs k xs).map encL), av (.int .i64 k)] [] (.one (vi (posL k xs : Nat))) [] := by
  refine AFn.introX (E := En 0 md0) (en_ok 0 md0) Try.func112 rfl rfl rfl fun hs _ => ?_
  have hn : ((mkLs k xs).map encL).length = xs.length := by rw [List.length_map, mkLs_len]
  have hxl := Small.len (hs _ (List.mem_cons_self ..))
  rw [hn] at hxl
  refine ALoop.mk (fun m s => ∃ i : Nat, i ≤ xs.length ∧ m = xs.length - i ∧
      s = ⟨some (sl ((mkLs k xs).map encL)) :: some (av (.int .i64 ((posL k (xs.take i) : Nat) : Int))) :: none :: none :: none :: some (av (.int .i64 i)) :: List.replicate 15 none, List.replicate 21 absent⟩)
    ⟨xs.length, _, Weak.nrm [true, true, false, false, false, true] [] rfl rfl rfl, 0, Nat.zero_le _, rfl, rfl⟩ ?_
  rintro m s ⟨i, hi, rfl, rfl⟩
  refine Split.mk fun t ht => ?_
  rw [hn] at ht
  cases t
  · have hin : i = xs.length := by simp at ht; omega
    subst hin
    refine Need.mk ⟨[], _, .same, ?_, rfl⟩ trivial
    rw [List.take_length]; rfl
  · have hia : i < xs.length := by simpa using ht
    have hpos : posL k (xs.take (i + 1)) = posR (posL k (xs.take i)) xs[i] := by rw [List.take_succ_eq_append_getElem hia, posL_app]; rfl
    have hle : posL k (xs.take (i + 1)) ≤ 4611686018427387904 := by
      have : posL k xs = posL (posL k (xs.take (i + 1))) (xs.drop (i + 1)) := by rw [← posL_app, List.take_append_drop]
      have h2 := posL_le (xs.drop (i + 1)) (posL k (xs.take (i + 1)))
      omega
    have hget : ((mkLs k xs).map encL)[i]? = some (encL (mkRs (posL k (xs.take i)) xs[i])) := by
      have h1 : mkLs k xs = mkLs k (xs.take i) ++ mkLs (posL k (xs.take i)) (xs.drop i) := by rw [← mkLs_app, List.take_append_drop]
      rw [List.getElem?_map, h1, List.getElem?_append_right (by rw [mkLs_len, List.length_take]; omega), mkLs_len, List.length_take, Nat.min_eq_left (by omega), Nat.sub_self, List.drop_eq_getElem_cons hia]
      rfl
    refine Need.mk (by omega) ?_
    refine Row.mk _ hget ?_
    refine ACall.mk _ _ (laws_heldRunS xs[i] (posL k (xs.take i)) (by omega)) ?_
    refine Split.mk fun t ht => ?_
    cases t
    · refine Num.mk _ (wrapS (by omega)) ?_
      refine ⟨xs.length - (i + 1), _, by omega, Weak.nrm [true, true, false, false, false, true] [] rfl rfl rfl, i + 1, by omega, rfl, ?_⟩
      rw [hpos]; rfl
    · simp at ht <;> omega
end Go.Proofs.Ytlmdheeammfihaa

namespace Go.Proofs.Ytlmdheeammfihaa
open Go Go.Proofs Ev
set_option maxRecDepth 100000
set_option linter.unusedSimpArgs false
set_option linter.unusedVariables false
theorem laws_heldIntS (k n : Nat) (hk : k + n ≤ 4611686018427387904) : AFn Try.prog 113 [sl ((markI k n).map encI), av (.int .i64 k)] [] (.one (vi ((k + n : Nat) : Int))) [] := by
  refine AFn.introX (E := En 0 md0) (en_ok 0 md0) Try.func113 rfl rfl rfl fun _ _ => ?_
  have hn : ((markI k n).map encI).length = n := by rw [List.length_map, markI_len]
  refine ALoop.mk (fun m s => ∃ i : Nat, i ≤ n ∧ m = n - i ∧
      s = ⟨some (sl ((markI k n).map encI)) :: some (av (.int .i64 ((k + i : Nat) : Int))) :: none :: none :: none :: some (av (.int .i64 i)) :: List.replicate 15 none, List.replicate 21 absent⟩)
    ⟨n, _, Weak.nrm [true, true, false, false, false, true] [] rfl rfl rfl, 0, Nat.zero_le _, rfl, rfl⟩ ?_
  rintro m s ⟨i, hi, rfl, rfl⟩
  refine Split.mk fun t ht => ?_
  rw [hn] at ht
  cases t
  · have hin : i = n := by simp at ht; omega
    subst hin
    exact Need.mk ⟨[], _, .same, rfl, rfl⟩ trivial
  · have hin : i < n := by simpa using ht
    have hget : ((markI k n).map encI)[i]? = some (encI ((k + i : Nat) : Int)) := by rw [List.getElem?_map, markI_get hin]; rfl
    refine Need.mk (by omega) ?_
    refine Row.mk _ hget ?_
    refine Split.mk fun t ht => ?_
    cases t
    · refine Num.mk _ (wrapS (by omega)) ?_
      refine Num.mk _ (wrapS (by omega)) ?_
      exact ⟨n - (i + 1), _, by omega, Weak.nrm [true, true, false, false, false, true] [] rfl rfl rfl, i + 1, by omega, rfl, rfl⟩
    · simp at ht
end Go.Proofs.Ytlmdheeammfihaa

namespace Go.Proofs.Ytlmdheeammfihaa
open Go Go.Proofs Ev
set_option maxRecDepth 100000
set_option linter.unusedSimpArgs false
set_option linter.unusedVariables false
theorem laws_heldTree (t : Tre) (k : Nat) (hk : posT k t ≤ 4611686018427387904) : AFn Try.prog 49 [.agg ((mkT k t).enc.map .c), av (.int .i64 k)] [] (.one (vi (posT k t : Nat))) [] := by
  refine AFn.introX (E := En 0 md0) (en_ok 0 md0) Try.func49 rfl rfl rfl fun _ hs => ?_
  have h1 := posL_le t.levels (k + 5 * t.mem.length)
  unfold posT at hk
  refine ACall.mk _ _ (laws_heldEntryS k t.mem.length (by omega)) ?_
  refine Split.mk fun b hb => ?_
  cases b
  · refine ACall.mk _ _ (laws_heldRunSS t.levels (k + 5 * t.mem.length) (by omega)) ?_
    refine Split.mk fun b hb => ?_
    cases b
    · refine ACall.mk _ _ (laws_heldIntS (posL (k + 5 * t.mem.length) t.levels) t.snaps.length (by omega)) ?_
      refine Split.mk fun b hb => ?_
      cases b
      · exact Need.mk ⟨[], _, .same, rfl, rfl⟩ trivial
      · simp at hb <;> omega
    · simp at hb <;> omega
  · simp at hb <;> omega
end Go.Proofs.Ytlmdheeammfihaa
