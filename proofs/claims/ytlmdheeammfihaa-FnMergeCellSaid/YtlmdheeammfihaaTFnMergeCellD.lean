/-
  Contracts of functions, part 4.
-/
import Derived.Test.YtlmdheeammfihaaTFnMergeCellC
namespace Go.Proofs.Ytlmdheeammfihaa
open Go Go.Proofs Ev
set_option maxRecDepth 100000
set_option maxHeartbeats 4000000
theorem laws_FnMergeCell (bs ms : List Nat) (hb : ∀ b ∈ bs, b < 256) (hm : ∀ b ∈ ms, b < 256) : AFn Try.prog 5 [sl (bs.map encB), sl (ms.map encB)] [] (rb true) [] := by
  have hbl : (bs.map encB).length = bs.length := List.length_map ..
  have hml : (ms.map encB).length = ms.length := List.length_map ..
  by_cases hl : bs.length ≤ 1048576
  · by_cases hl2 : ms.length ≤ 1048576
    · obtain ⟨L, hD, hL1, hL2, hdist, hE⟩ := Draw_MergeAll bs hb hl
      obtain ⟨old, key, seq, hD2, _, _, _, hkey, hsq⟩ := Draw_CellAll ms hm hl2
      have hLn : (L.map encX).length = L.length := List.length_map ..
      have hks : key.size ≤ maxLen := Nat.le_trans (keysL_ok hkey).1 (by decide)
      have hFl := flat_le hL2
      have hF48 : L.flatten.length ≤ 48 := by omega
      have hM1 := impl_MergeAll L (by omega) (by omega)
      have hM2 := spec_MergeAll L (by omega) (by omega)
      have hex : ∃ F, L.flatten = F := ⟨_, rfl⟩
      obtain ⟨F, hF⟩ := hex
      rw [hF] at hdist hE hF48 hM1 hM2
      have hOkF : OkE F := fun e he => ((hE e he).1.de ⟨by have := (hE e he).2; omega, by have := (hE e he).2; omega⟩).ok
      have hOkS : OkE (isort eLess F) := fun e he => hOkF e ((isort_mem _ _ _).1 he)
      have hsl : (isort eLess F).length ≤ 48 := by rw [isort_len]; exact hF48
      have hW := laws_wpEnts (isort eLess F) (isort eLess F) (by omega)
      rw [decide_eq_true rfl] at hW
      have hC1 := impl_CellAll (isort eLess F) key (seq : Int) (by omega)
      rw [cellAll_sort hdist] at hC1
      have hC2 := impl_CellAll F key (seq : Int) (by omega)
      have hfn : (F.map Ent.enc).length = F.length := List.length_map ..
      by_cases h0 : F.length = 0
      · have hF0 : F = [] := List.length_eq_zero_iff.1 h0
        have hO := impl_RunOf_bad F hOkF (by rw [hF0]; rfl)
        have hil : (isort eLess F).length = 0 := by rw [isort_len]; exact h0
        have hex : ∃ zs, isort eLess F = zs := ⟨_, rfl⟩
        obtain ⟨zs, hzs⟩ := hex
        rw [hzs] at hW hC1 hM1 hM2 hil
        have hzn : (zs.map Ent.enc).length = zs.length := List.length_map ..
        refine AFn.introX (E := En 0 md0 (fz := [5, 9]) (fb := [12])) (en_ok 0 _ _ _ _ _) Try.func5 rfl rfl rfl fun _ _ => ?_
        refine Split.mk fun t h1 => ?_
        cases t
        case true => (exfalso; rw [decide_eq_true_iff] at h1; omega)
        rw [decide_eq_false_iff_not] at h1
        refine Split.mk fun t h2 => ?_
        cases t
        case true => (exfalso; rw [decide_eq_true_iff] at h2; omega)
        rw [decide_eq_false_iff_not] at h2
        refine ACall.mk _ _ hD ?_
        refine Fz.mk _ (frzX _) ?_
        refine ACall.mk _ _ hD2 ?_
        refine ACall.mk _ _ hM1 ?_
        refine Fz.mk _ (frzE _) ?_
        refine ACall.mk _ _ hM2 ?_
        refine Fz.mk _ (frzE _) ?_
        refine ACall.mk _ _ hW ?_
        refine Need.mk (⟨closed_v, no_objs⟩) ?_
        refine Split.mk fun t h3 => ?_
        cases t
        case false => cases h3
        let S0 : List (List C) → Nat → St := fun R i => ⟨none :: none :: none :: none :: none :: some (sl (L.map encX)) :: none :: some (av (.string key)) :: some (av (.int .i64 (seq : Nat))) :: some (sl (zs.map Ent.enc)) :: some (.one (.ref 10 0 (.cell 0))) :: some (av (.int .i64 i)) :: List.replicate 85 none, absent :: absent :: absent :: absent :: absent :: absent :: absent :: absent :: absent :: absent :: ⟨0, 1, some [.us 32 R]⟩ :: List.replicate 86 absent⟩
        refine ALoop.mk (fun m s => ∃ i : Nat, i ≤ L.length ∧ m = L.length - i ∧ s = S0 ((L.take i).flatten.map Ent.enc) i)
          ⟨_, _, Weak.trans (Weak.nrm [false, false, false, false, false, true, false, true, true, true, true, true] [(37, 10)] rfl rfl rfl) Weak.one, 0, Nat.zero_le _, rfl, rfl⟩ ?_
        rintro m s ⟨i, hi, rfl, hs⟩
        by_cases hin : i = L.length
        · rw [hin, List.take_length, hF] at hs
          subst hs
          refine Split.mk fun t h1 => ?_
          cases t
          case true => (exfalso; rw [decide_eq_true_iff] at h1; omega)
          rw [decide_eq_false_iff_not] at h1
          refine Fz.mk _ (frzE _) ?_
          refine ACall.mk _ _ hO ?_
          refine Need.mk (⟨ClL.mem (.us (clN) (.v (.v .nil))), no_objs⟩) ?_
          refine Split.mk fun t h2 => ?_
          cases t
          case true => cases h2
          refine Fz.mk _ (frzN) ?_
          refine Split.mk fun t h3 => ?_
          cases t
          case false => (exfalso; rw [beq_eq_false_iff_ne] at h3; omega)
          rw [beq_iff_eq] at h3
          refine Split.mk fun t h4 => ?_
          cases t
          case false => (exfalso; rw [beq_eq_false_iff_ne] at h4; omega)
          rw [beq_iff_eq] at h4
          exact Need.mk ⟨[], _, .same, rfl, rfl⟩ trivial
        · have hia : i < L.length := by omega
          have hft := flat_take L hia
          have hfl := flat_take_le L i
          have hml := hL2 _ (List.getElem_mem hia)
          rw [hF] at hfl
          have hex : ∃ G, (L.take i).flatten = G := ⟨_, rfl⟩
          obtain ⟨G, hG⟩ := hex
          rw [hG] at hft hfl hs
          subst hs
          refine Split.mk fun t h1 => ?_
          cases t
          case false => (exfalso; rw [decide_eq_false_iff_not] at h1; omega)
          rw [decide_eq_true_iff] at h1
          refine Need.mk (by omega) ?_
          refine Row.mk _ (map_get _ L i (by omega)) ?_
          refine Need.mk (⟨plainE _, lenE _⟩) ?_
          refine Need.mk (appOk (List.length_map ..) (List.length_map ..) (by omega) (by decide)) ?_
          refine Num.mk _ (wrapS (by omega)) ?_
          exact ⟨_, _, by omega, Weak.nrm [false, false, false, false, false, true, false, true, true, true, true, true] [(49, 10)] rfl rfl rfl, i + 1, by omega, rfl, Eq.trans (b := S0 (G.map Ent.enc ++ L[i].map Ent.enc) (i + 1)) rfl (by rw [hft, List.map_append])⟩
      · have hgood := good_of (l := F) (by omega) (by omega) hdist.less fun e he => entOk_DS (hE e he).1 (hE e he).2.1 (by have := (hE e he).2.2; omega)
        have hO := impl_RunOf_ok F hOkF hgood
        have hR := impl_RunFind (runOfE F) key (seq : Int) hOkS hks
        have hrf : cellAll (runFind (runOfE F) key (seq : Int)) key (seq : Int) = cellAll F key (seq : Int) := by
          unfold runFind
          rw [runOfE_ok hgood, cond_true, cellAll_find]
          exact cellAll_sort hdist _ _
        have hrl : (runFind (runOfE F) key (seq : Int)).length ≤ 48 := by
          unfold runFind
          rw [runOfE_ok hgood, cond_true]
          exact Nat.le_trans (findE_len _ _ _) hsl
        have hC3 := impl_CellAll (runFind (runOfE F) key (seq : Int)) key (seq : Int) (by omega)
        rw [hrf] at hC3
        unfold runOfE at hR hC3 hrl
        have hex : ∃ zs, isort eLess F = zs := ⟨_, rfl⟩
        obtain ⟨zs, hzs⟩ := hex
        rw [hzs] at hW hC1 hM1 hM2 hO hR hC3 hrl
        have hex : ∃ us, runFind ⟨zs, (rmask zs : Nat)⟩ key (seq : Int) = us := ⟨_, rfl⟩
        obtain ⟨us, hus⟩ := hex
        rw [hus] at hR hC3
        have hex : ∃ c, cellAll F key (seq : Int) = c := ⟨_, rfl⟩
        obtain ⟨c, hc⟩ := hex
        rw [hc] at hC1 hC2 hC3
        have hcr : c = c := rfl
        have hzn : (zs.map Ent.enc).length = zs.length := List.length_map ..
        refine AFn.introX (E := En 0 md0 (fz := [5, 9]) (fb := [12])) (en_ok 0 _ _ _ _ _) Try.func5 rfl rfl rfl fun _ _ => ?_
        refine Split.mk fun t h1 => ?_
        cases t
        case true => (exfalso; rw [decide_eq_true_iff] at h1; omega)
        rw [decide_eq_false_iff_not] at h1
        refine Split.mk fun t h2 => ?_
        cases t
        case true => (exfalso; rw [decide_eq_true_iff] at h2; omega)
        rw [decide_eq_false_iff_not] at h2
        refine ACall.mk _ _ hD ?_
        refine Fz.mk _ (frzX _) ?_
        refine ACall.mk _ _ hD2 ?_
        refine ACall.mk _ _ hM1 ?_
        refine Fz.mk _ (frzE _) ?_
        refine ACall.mk _ _ hM2 ?_
        refine Fz.mk _ (frzE _) ?_
        refine ACall.mk _ _ hW ?_
        refine Need.mk (⟨closed_v, no_objs⟩) ?_
        refine Split.mk fun t h3 => ?_
        cases t
        case false => cases h3
        let S0 : List (List C) → Nat → St := fun R i => ⟨none :: none :: none :: none :: none :: some (sl (L.map encX)) :: none :: some (av (.string key)) :: some (av (.int .i64 (seq : Nat))) :: some (sl (zs.map Ent.enc)) :: some (.one (.ref 10 0 (.cell 0))) :: some (av (.int .i64 i)) :: List.replicate 85 none, absent :: absent :: absent :: absent :: absent :: absent :: absent :: absent :: absent :: absent :: ⟨0, 1, some [.us 32 R]⟩ :: List.replicate 86 absent⟩
        refine ALoop.mk (fun m s => ∃ i : Nat, i ≤ L.length ∧ m = L.length - i ∧ s = S0 ((L.take i).flatten.map Ent.enc) i)
          ⟨_, _, Weak.trans (Weak.nrm [false, false, false, false, false, true, false, true, true, true, true, true] [(37, 10)] rfl rfl rfl) Weak.one, 0, Nat.zero_le _, rfl, rfl⟩ ?_
        rintro m s ⟨i, hi, rfl, hs⟩
        by_cases hin : i = L.length
        · rw [hin, List.take_length, hF] at hs
          subst hs
          refine Split.mk fun t h1 => ?_
          cases t
          case true => (exfalso; rw [decide_eq_true_iff] at h1; omega)
          rw [decide_eq_false_iff_not] at h1
          refine Fz.mk _ (frzE _) ?_
          refine ACall.mk _ _ hO ?_
          refine Need.mk (⟨ClL.mem (.us (clE _) (.v (.v .nil))), no_objs⟩) ?_
          refine Split.mk fun t h2 => ?_
          cases t
          case false => cases h2
          refine Fz.mk _ (frzE _) ?_
          refine Split.mk fun t h3 => ?_
          cases t
          case true => (exfalso; rw [beq_iff_eq] at h3; omega)
          rw [beq_eq_false_iff_ne] at h3
          refine ACall.mk _ _ hW ?_
          refine Split.mk fun t h4 => ?_
          cases t
          case false => cases h4
          refine ACall.mk _ _ hC1 ?_
          refine Fz.mk _ (frzE _) ?_
          refine ACall.mk _ _ hC2 ?_
          refine Need.mk (⟨ClL.mem (.v (.v (.v .nil))), no_objs⟩) ?_
          refine Split.mk fun t h5 => ?_
          cases t
          case false => (exfalso; rw [cel_beq, decide_eq_false_iff_not] at h5; exact absurd ‹_› h5)
          rw [cel_beq, decide_eq_true_iff] at h5
          refine ACall.mk _ _ hR ?_
          refine Fz.mk _ (frzE _) ?_
          refine ACall.mk _ _ hC3 ?_
          refine Need.mk (⟨ClL.mem (.v (.v (.v .nil))), no_objs⟩) ?_
          refine Fz.mk _ (frzE _) ?_
          refine ACall.mk _ _ hC2 ?_
          refine Need.mk (⟨ClL.mem (.v (.v (.v .nil))), no_objs⟩) ?_
          refine Split.mk fun t h6 => ?_
          cases t
          case false => (exfalso; rw [cel_beq, decide_eq_false_iff_not] at h6; exact absurd ‹_› h6)
          rw [cel_beq, decide_eq_true_iff] at h6
          exact Need.mk ⟨[], _, .same, rfl, rfl⟩ trivial
        · have hia : i < L.length := by omega
          have hft := flat_take L hia
          have hfl := flat_take_le L i
          have hml := hL2 _ (List.getElem_mem hia)
          rw [hF] at hfl
          have hex : ∃ G, (L.take i).flatten = G := ⟨_, rfl⟩
          obtain ⟨G, hG⟩ := hex
          rw [hG] at hft hfl hs
          subst hs
          refine Split.mk fun t h1 => ?_
          cases t
          case false => (exfalso; rw [decide_eq_false_iff_not] at h1; omega)
          rw [decide_eq_true_iff] at h1
          refine Need.mk (by omega) ?_
          refine Row.mk _ (map_get _ L i (by omega)) ?_
          refine Need.mk (⟨plainE _, lenE _⟩) ?_
          refine Need.mk (appOk (List.length_map ..) (List.length_map ..) (by omega) (by decide)) ?_
          refine Num.mk _ (wrapS (by omega)) ?_
          exact ⟨_, _, by omega, Weak.nrm [false, false, false, false, false, true, false, true, true, true, true, true] [(49, 10)] rfl rfl rfl, i + 1, by omega, rfl, Eq.trans (b := S0 (G.map Ent.enc ++ L[i].map Ent.enc) (i + 1)) rfl (by rw [hft, List.map_append])⟩
    · refine AFn.introX (E := En 0 md0 (fz := [5, 9]) (fb := [12])) (en_ok 0 _ _ _ _ _) Try.func5 rfl rfl rfl fun _ _ => ?_
      refine Split.mk fun t h1 => ?_
      cases t
      case true => (exfalso; rw [decide_eq_true_iff] at h1; omega)
      rw [decide_eq_false_iff_not] at h1
      refine Split.mk fun t h2 => ?_
      cases t
      case false => (exfalso; rw [decide_eq_false_iff_not] at h2; omega)
      rw [decide_eq_true_iff] at h2
      exact Need.mk ⟨[], _, .same, rfl, rfl⟩ trivial
  · refine AFn.introX (E := En 0 md0 (fz := [5, 9]) (fb := [12])) (en_ok 0 _ _ _ _ _) Try.func5 rfl rfl rfl fun _ _ => ?_
    refine Split.mk fun t h1 => ?_
    cases t
    case false => (exfalso; rw [decide_eq_false_iff_not] at h1; omega)
    rw [decide_eq_true_iff] at h1
    exact Need.mk ⟨[], _, .same, rfl, rfl⟩ trivial
theorem laws_FnMergeCell_any (c0 : C) (h0 : Sh (.slice tyB) c0) (c1 : C) (h1 : Sh (.slice tyB) c1) : AFn Try.prog 5 [.one (.c c0), .one (.c c1)] [] (rb true) [] := by
  obtain ⟨bs, rfl, hb⟩ := dec_bytes h0
  obtain ⟨ms, rfl, hm⟩ := dec_bytes h1
  exact laws_FnMergeCell bs ms hb hm
end Go.Proofs.Ytlmdheeammfihaa
