/-
  Contracts of functions, part 4.
-/
import Derived.Test.YtlmdheeammfihaaTFnExactTreeCellC
namespace Go.Proofs.Ytlmdheeammfihaa
open Go Go.Proofs Ev
set_option maxRecDepth 100000
set_option linter.unusedSimpArgs false
set_option linter.unusedVariables false
set_option maxHeartbeats 4000000
theorem heads_Len (hs : List Hd1) : AFn Try.prog 192 [sl (hs.map encH)] [] (.one (vi (hs.length : Nat))) [] := by
  refine AFn.introX (E := En 0 md0) (en_ok 0 md0) Try.func192 rfl rfl rfl fun _ _ => ?_
  refine Need.mk ⟨[], _, .same, ?_, rfl⟩ trivial
  exact congrArg (fun n : Nat => RV.one (vi (n : Int))) (List.length_map encH : (hs.map encH).length = hs.length)
theorem heads_Less (hs : List Hd1) (i j : Nat) (a b : Hd1) (hA : hs[i]? = some a) (hB : hs[j]? = some b) (ha : a.1 ≠ []) (hb : b.1 ≠ []) :
    AFn Try.prog 193 [sl (hs.map encH), av (.int .i64 i), av (.int .i64 j)] [] (rb (hl a b)) [] := by
  refine AFn.introX (E := En 0 md0) (en_ok 0 md0) Try.func193 rfl rfl rfl fun _ _ => ?_
  have r1 : (hs.map encH)[i]? = some (encH a) := by rw [List.getElem?_map, hA]; rfl
  have r2 : (hs.map encH)[j]? = some (encH b) := by rw [List.getElem?_map, hB]; rfl
  have r3 := hdE_get ha
  have r4 := hdE_get hb
  have hq := hl_eq a b
  have hO := impl_entryOrder (hdE a) (hdE b)
  have fin : ∀ {c : Bool}, c = hl a b → rb c = rb (hl a b) := fun h => by rw [h]
  refine Need.mk (by omega) ?_
  refine Row.mk _ r1 ?_
  refine Need.mk (by omega) ?_
  refine Row.mk _ r2 ?_
  refine Need.mk rfl ?_
  refine Need.mk (by decide) ?_
  refine Row.mk _ r3 ?_
  refine Need.mk (by decide) ?_
  refine Row.mk _ r4 ?_
  refine ACall.mk _ _ hO ?_
  refine Need.mk rfl ?_
  refine Split.mk fun t ht => ?_
  cases t
  · refine Split.mk fun t ht2 => ?_
    refine Need.mk ⟨[], _, .same, fin ?_, rfl⟩ trivial
    have h0 : eord (hdE a) (hdE b) = 0 := by simpa using ht
    rw [hq, if_pos h0, ← ht2]
    exact decide_eq_decide.2 Int.ofNat_lt
  · refine Split.mk fun t ht2 => ?_
    refine Need.mk ⟨[], _, .same, fin ?_, rfl⟩ trivial
    have h0 : ¬ eord (hdE a) (hdE b) = 0 := by simpa using ht
    rw [hq, if_neg h0, ← ht2]
theorem heads_Swap (hs : List Hd1) (i j : Nat) (hi : i < hs.length) (hj : j < hs.length) :
    AFn Try.prog 194 [.one (.ref 0 0 (.cell 0)), av (.int .i64 i), av (.int .i64 j)] [[.us 96 (hs.map encH)]] (.tup []) [[.us 96 ((swapL hd0 hs i j).map encH)]] := by
  refine AFn.introX (E := En 1 md0) (en_ok 1 md0) Try.func194 rfl rfl rfl fun _ _ => ?_
  have hl : (hs.map encH).length = hs.length := List.length_map ..
  have r1 : (hs.map encH)[i]? = some (encH (hs.getD i hd0)) := by rw [List.getElem?_map, getH hi]; rfl
  have r2 : (hs.map encH)[j]? = some (encH (hs.getD j hd0)) := by rw [List.getElem?_map, getH hj]; rfl
  have hsl : (hs.set i (hs.getD j hd0)).length = hs.length := List.length_set ..
  have r3 : ((hs.map encH).set i (encH (hs.getD j hd0)))[j]? = some (encH ((hs.set i (hs.getD j hd0)).getD j hd0)) := by
    rw [← List.map_set, List.getElem?_map, getH (by rw [hsl]; exact hj)]; rfl
  have hl3 : ((hs.map encH).set i (encH (hs.getD j hd0))).length = hs.length := by rw [List.length_set, hl]
  have e2 : ((hs.map encH).set i (encH (hs.getD j hd0))).set j (encH (hs.getD i hd0)) = (swapL hd0 hs i j).map encH := by rw [← List.map_set, ← List.map_set]; rfl
  refine Need.mk ⟨by omega, by rw [hl]; omega⟩ ?_
  refine Row.mk _ r2 ?_
  refine Need.mk ⟨by omega, by rw [hl]; omega⟩ ?_
  refine Row.mk _ r1 ?_
  refine Need.mk ⟨by omega, by rw [hl]; omega⟩ ?_
  refine Row.mk _ r1 ?_
  refine Need.mk ⟨by omega, show ((j : Nat) : Int) < ((((hs.map encH).set i (encH (hs.getD j hd0))).length : Nat) : Int) from by rw [hl3]; omega⟩ ?_
  refine Row.mk _ r3 ?_
  refine Need.mk rfl ?_
  refine Need.mk ⟨[], _, .same, rfl, ?_⟩ trivial
  exact congrArg (fun R => [[C.us 96 R]]) e2
theorem heads_Pop (hs : List Hd1) (h0 : 0 < hs.length) (hx : hs.length ≤ 1099511627776) :
    AFnK Try.prog 195 [.bx 0 0] [[.us 96 (hs.map encH)]] [0] (.one .x) [[.us 96 ((hs.take (hs.length - 1)).map encH)]] := by
  refine AFnK.introX (E := En 1 md0) (en_ok 1 md0) Try.func195 rfl rfl rfl fun _ _ => ?_
  have hl : (hs.map encH).length = hs.length := List.length_map ..
  have r1 : (hs.map encH)[hs.length - 1]? = some (encH (hs.getD (hs.length - 1) hd0)) := by rw [List.getElem?_map, getH (by omega)]; rfl
  have e1 : (hs.map encH).take (((hs.length - 1 : Nat) : Int) - 0).toNat = (hs.take (hs.length - 1)).map encH := by
    rw [Int.sub_zero, Int.toNat_natCast, List.map_take]
  refine Num.mk ((hs.length - 1 : Nat) : Int) (wrapI' (by rw [hl]; omega) (by omega)) ?_
  refine Need.mk ⟨by omega, by rw [hl]; omega⟩ ?_
  refine Row.mk _ r1 ?_
  refine Num.mk ((hs.length - 1 : Nat) : Int) (wrapI' (by rw [hl]; omega) (by omega)) ?_
  refine Need.mk ⟨by omega, by omega, by rw [hl]; omega⟩ ?_
  refine Need.mk ?_ trivial
  exact congrArg (fun R => [[C.us 96 R]]) e1
theorem heap_down (hs0 : List Hd1) (i0 n : Nat) (hnl : n ≤ hs0.length) (hll : hs0.length ≤ 1099511627776) (hi0 : i0 ≤ n) (hne : ∀ k, k < n → (hs0.getD k hd0).1 ≠ []) :
    AFnK Try.prog 127 [.ifc 98 (.bx 0 0), av (.int .i64 i0), av (.int .i64 n)] [[.us 96 (hs0.map encH)]] [0] (rb (decide (i0 < downJ hl hd0 (n - i0) hs0 i0 n))) [[.us 96 ((downF hl hd0 (n - i0) hs0 i0 n).map encH)]] := by
  refine AFnK.introX (E := En 1 (md1 [194])) (en_ok 1 _) Try.func127 rfl rfl rfl fun _ _ => ?_
  have hex : ∃ R, downF hl hd0 (n - i0) hs0 i0 n = R := ⟨_, rfl⟩
  obtain ⟨R, hR0⟩ := hex
  rw [hR0]
  have hex : ∃ J, downJ hl hd0 (n - i0) hs0 i0 n = J := ⟨_, rfl⟩
  obtain ⟨J, hJ00⟩ := hex
  rw [hJ00]
  have fin : ∀ {c : Bool}, c = decide (i0 < J) → rb c = rb (decide (i0 < J)) := fun h => by rw [h]
  let S : List Hd1 → Nat → St := fun hs i => ⟨some (.ifc 98 (.bx 0 0)) :: some (av (.int .i64 i0)) :: some (av (.int .i64 n)) :: none :: none :: none :: none :: some (av (.int .i64 i)) :: List.replicate 40 none, ⟨0, 0, some [.us 96 (hs.map encH)]⟩ :: List.replicate 48 absent⟩
  refine ALoop.mk (fun m s => ∃ (f i : Nat) (hs : List Hd1), m = f ∧ n ≤ i + f ∧ i ≤ n ∧ n ≤ hs.length ∧ hs.length ≤ 1099511627776 ∧ (∀ k, k < n → (hs.getD k hd0).1 ≠ []) ∧ downF hl hd0 f hs i n = R ∧ downJ hl hd0 f hs i n = J ∧ s = S hs i)
    ⟨n - i0, _, Weak.nrm [true, true, true, false, false, false, false, true] [(0, 0)] rfl rfl rfl, n - i0, i0, hs0, rfl, by omega, hi0, hnl, hll, hne, hR0, hJ00, rfl⟩ ?_
  clear hR0 hJ00 hne hll hnl hi0
  rintro m s ⟨f, i, hs, rfl, hf, hin, hnl, hll, hne, hR, hJ0, hs0⟩
  by_cases hn1 : n ≤ 2 * i + 1
  · have hF : hs = R := by rw [← hR]; cases m with
      | zero => rfl
      | succ f => rw [downF, if_pos hn1]
    have hJ : i = J := by rw [← hJ0]; cases m with
      | zero => rfl
      | succ f => rw [downJ, if_pos hn1]
    subst hs0
    refine Num.mk ((2 * i : Nat) : Int) (wrapI' (by omega) (by omega)) ?_
    refine Num.mk ((2 * i + 1 : Nat) : Int) (wrapI' (by omega) (by omega)) ?_
    refine Split.mk fun t ht => ?_
    cases t
    case false => rw [decide_eq_false_iff_not] at ht; omega
    refine Split.mk fun t ht => ?_
    refine Need.mk ⟨[], _, .same, fin ?_, congrArg (fun x : List Hd1 => [[C.us 96 (x.map encH)]]) hF⟩ trivial
    rw [← hJ, ← ht]
    exact decide_eq_decide.2 Int.ofNat_lt
  · have hex : ∃ g, m = g + 1 := ⟨m - 1, by omega⟩
    obtain ⟨g, hg⟩ := hex
    subst hg
    rw [downF, if_neg hn1] at hR
    rw [downJ, if_neg hn1] at hJ0
    have hi : i < hs.length := by omega
    have h1 : 2 * i + 1 < hs.length := by omega
    have m1 := hne (2 * i + 1) (by omega)
    have m0 := hne i (by omega)
    by_cases hc : 2 * i + 2 < n ∧ hl (hs.getD (2 * i + 2) hd0) (hs.getD (2 * i + 1) hd0) = true
    · skip
      have hb : best hl hd0 hs i n = 2 * i + 2 := by rw [best, if_pos hc]
      rw [hb] at hR hJ0
      have h2 : 2 * i + 2 < hs.length := by omega
      have m2 := hne (2 * i + 2) (by omega)
      have hL := heads_Less hs (2 * i + 2) (2 * i + 1) _ _ (getH h2) (getH h1) m2 m1
      rw [hc.2] at hL
      have hL2 := heads_Less hs (2 * i + 2) i _ _ (getH h2) (getH hi) m2 m0
      by_cases hq : hl (hs.getD (2 * i + 2) hd0) (hs.getD i hd0) = true
      · rw [hq] at hL2
        rw [if_pos hq] at hR hJ0
        have hS := heads_Swap hs i (2 * i + 2) hi (by omega)
        have hmem : ∀ k, k < n → ((swapL hd0 hs i (2 * i + 2)).getD k hd0).1 ≠ [] := fun k hk => by
          rw [swapL_get hi (by omega)]
          split
          · exact hne i (by omega)
          · split
            · exact hne _ (by omega)
            · exact hne k hk
        subst hs0
        refine Num.mk ((2 * i : Nat) : Int) (wrapI' (by omega) (by omega)) ?_
        refine Num.mk ((2 * i + 1 : Nat) : Int) (wrapI' (by omega) (by omega)) ?_
        refine Split.mk fun t ht => ?_
        cases t
        case true => rw [decide_eq_true_iff] at ht; omega
        refine Split.mk fun t ht => ?_
        cases t
        case true => rw [decide_eq_true_iff] at ht; omega
        refine Num.mk ((2 * i + 2 : Nat) : Int) (wrapI' (by omega) (by omega)) ?_
        refine Split.mk fun t ht => ?_
        cases t
        case false => rw [decide_eq_false_iff_not] at ht; omega
        refine Fz.mk _ (frzH hs) ?_
        refine ACall.mk _ _ hL ?_
        refine Need.mk ⟨closed_v, no_objs⟩ ?_
        refine Split.mk fun t h => ?_
        cases t
        case false => cases h
        refine Fz.mk _ (frzH hs) ?_
        refine ACall.mk _ _ hL2 ?_
        refine Need.mk ⟨closed_v, no_objs⟩ ?_
        refine Split.mk fun t h => ?_
        cases t
        case false => cases h
        refine ACall.mk _ _ hS ?_
        exact ⟨g, _, by omega, Weak.nrm [true, true, true, false, false, false, false, true] [(0, 0)] rfl rfl rfl, g, 2 * i + 2, swapL hd0 hs i (2 * i + 2), rfl, by omega, by omega, by rw [swapL_len]; exact hnl, by rw [swapL_len]; exact hll, hmem, hR, hJ0, rfl⟩
      · have hq : hl (hs.getD (2 * i + 2) hd0) (hs.getD i hd0) = false := by simpa using hq
        have hF : hs = R := by rw [← hR, if_neg (by rw [hq]; simp)]
        have hJ : i = J := by rw [← hJ0, if_neg (by rw [hq]; simp)]
        rw [hq] at hL2
        subst hs0
        refine Num.mk ((2 * i : Nat) : Int) (wrapI' (by omega) (by omega)) ?_
        refine Num.mk ((2 * i + 1 : Nat) : Int) (wrapI' (by omega) (by omega)) ?_
        refine Split.mk fun t ht => ?_
        cases t
        case true => rw [decide_eq_true_iff] at ht; omega
        refine Split.mk fun t ht => ?_
        cases t
        case true => rw [decide_eq_true_iff] at ht; omega
        refine Num.mk ((2 * i + 2 : Nat) : Int) (wrapI' (by omega) (by omega)) ?_
        refine Split.mk fun t ht => ?_
        cases t
        case false => rw [decide_eq_false_iff_not] at ht; omega
        refine Fz.mk _ (frzH hs) ?_
        refine ACall.mk _ _ hL ?_
        refine Need.mk ⟨closed_v, no_objs⟩ ?_
        refine Split.mk fun t h => ?_
        cases t
        case false => cases h
        refine Fz.mk _ (frzH hs) ?_
        refine ACall.mk _ _ hL2 ?_
        refine Need.mk ⟨closed_v, no_objs⟩ ?_
        refine Split.mk fun t h => ?_
        cases t
        case true => cases h
        refine Split.mk fun t ht => ?_
        refine Need.mk ⟨[], _, .same, fin ?_, congrArg (fun x : List Hd1 => [[C.us 96 (x.map encH)]]) hF⟩ trivial
        rw [← hJ, ← ht]
        exact decide_eq_decide.2 Int.ofNat_lt
    · by_cases hc2 : 2 * i + 2 < n
      · skip
        have hb : best hl hd0 hs i n = 2 * i + 1 := by rw [best, if_neg hc]
        rw [hb] at hR hJ0
        have h2 : 2 * i + 2 < hs.length := by omega
        have m2 := hne (2 * i + 2) (by omega)
        have hL := heads_Less hs (2 * i + 2) (2 * i + 1) _ _ (getH h2) (getH h1) m2 m1
        have hlf : hl (hs.getD (2 * i + 2) hd0) (hs.getD (2 * i + 1) hd0) = false := by
          cases hx : hl (hs.getD (2 * i + 2) hd0) (hs.getD (2 * i + 1) hd0) with
          | false => rfl
          | true => exact absurd ⟨hc2, hx⟩ hc
        rw [hlf] at hL
        have hL2 := heads_Less hs (2 * i + 1) i _ _ (getH h1) (getH hi) m1 m0
        by_cases hq : hl (hs.getD (2 * i + 1) hd0) (hs.getD i hd0) = true
        · rw [hq] at hL2
          rw [if_pos hq] at hR hJ0
          have hS := heads_Swap hs i (2 * i + 1) hi (by omega)
          have hmem : ∀ k, k < n → ((swapL hd0 hs i (2 * i + 1)).getD k hd0).1 ≠ [] := fun k hk => by
            rw [swapL_get hi (by omega)]
            split
            · exact hne i (by omega)
            · split
              · exact hne _ (by omega)
              · exact hne k hk
          subst hs0
          refine Num.mk ((2 * i : Nat) : Int) (wrapI' (by omega) (by omega)) ?_
          refine Num.mk ((2 * i + 1 : Nat) : Int) (wrapI' (by omega) (by omega)) ?_
          refine Split.mk fun t ht => ?_
          cases t
          case true => rw [decide_eq_true_iff] at ht; omega
          refine Split.mk fun t ht => ?_
          cases t
          case true => rw [decide_eq_true_iff] at ht; omega
          refine Num.mk ((2 * i + 2 : Nat) : Int) (wrapI' (by omega) (by omega)) ?_
          refine Split.mk fun t ht => ?_
          cases t
          case false => rw [decide_eq_false_iff_not] at ht; omega
          refine Fz.mk _ (frzH hs) ?_
          refine ACall.mk _ _ hL ?_
          refine Need.mk ⟨closed_v, no_objs⟩ ?_
          refine Split.mk fun t h => ?_
          cases t
          case true => cases h
          refine Fz.mk _ (frzH hs) ?_
          refine ACall.mk _ _ hL2 ?_
          refine Need.mk ⟨closed_v, no_objs⟩ ?_
          refine Split.mk fun t h => ?_
          cases t
          case false => cases h
          refine ACall.mk _ _ hS ?_
          exact ⟨g, _, by omega, Weak.nrm [true, true, true, false, false, false, false, true] [(0, 0)] rfl rfl rfl, g, 2 * i + 1, swapL hd0 hs i (2 * i + 1), rfl, by omega, by omega, by rw [swapL_len]; exact hnl, by rw [swapL_len]; exact hll, hmem, hR, hJ0, rfl⟩
        · have hq : hl (hs.getD (2 * i + 1) hd0) (hs.getD i hd0) = false := by simpa using hq
          have hF : hs = R := by rw [← hR, if_neg (by rw [hq]; simp)]
          have hJ : i = J := by rw [← hJ0, if_neg (by rw [hq]; simp)]
          rw [hq] at hL2
          subst hs0
          refine Num.mk ((2 * i : Nat) : Int) (wrapI' (by omega) (by omega)) ?_
          refine Num.mk ((2 * i + 1 : Nat) : Int) (wrapI' (by omega) (by omega)) ?_
          refine Split.mk fun t ht => ?_
          cases t
          case true => rw [decide_eq_true_iff] at ht; omega
          refine Split.mk fun t ht => ?_
          cases t
          case true => rw [decide_eq_true_iff] at ht; omega
          refine Num.mk ((2 * i + 2 : Nat) : Int) (wrapI' (by omega) (by omega)) ?_
          refine Split.mk fun t ht => ?_
          cases t
          case false => rw [decide_eq_false_iff_not] at ht; omega
          refine Fz.mk _ (frzH hs) ?_
          refine ACall.mk _ _ hL ?_
          refine Need.mk ⟨closed_v, no_objs⟩ ?_
          refine Split.mk fun t h => ?_
          cases t
          case true => cases h
          refine Fz.mk _ (frzH hs) ?_
          refine ACall.mk _ _ hL2 ?_
          refine Need.mk ⟨closed_v, no_objs⟩ ?_
          refine Split.mk fun t h => ?_
          cases t
          case true => cases h
          refine Split.mk fun t ht => ?_
          refine Need.mk ⟨[], _, .same, fin ?_, congrArg (fun x : List Hd1 => [[C.us 96 (x.map encH)]]) hF⟩ trivial
          rw [← hJ, ← ht]
          exact decide_eq_decide.2 Int.ofNat_lt
      · skip
        have hb : best hl hd0 hs i n = 2 * i + 1 := by rw [best, if_neg hc]
        rw [hb] at hR hJ0
        have hL2 := heads_Less hs (2 * i + 1) i _ _ (getH h1) (getH hi) m1 m0
        by_cases hq : hl (hs.getD (2 * i + 1) hd0) (hs.getD i hd0) = true
        · rw [hq] at hL2
          rw [if_pos hq] at hR hJ0
          have hS := heads_Swap hs i (2 * i + 1) hi (by omega)
          have hmem : ∀ k, k < n → ((swapL hd0 hs i (2 * i + 1)).getD k hd0).1 ≠ [] := fun k hk => by
            rw [swapL_get hi (by omega)]
            split
            · exact hne i (by omega)
            · split
              · exact hne _ (by omega)
              · exact hne k hk
          subst hs0
          refine Num.mk ((2 * i : Nat) : Int) (wrapI' (by omega) (by omega)) ?_
          refine Num.mk ((2 * i + 1 : Nat) : Int) (wrapI' (by omega) (by omega)) ?_
          refine Split.mk fun t ht => ?_
          cases t
          case true => rw [decide_eq_true_iff] at ht; omega
          refine Split.mk fun t ht => ?_
          cases t
          case true => rw [decide_eq_true_iff] at ht; omega
          refine Num.mk ((2 * i + 2 : Nat) : Int) (wrapI' (by omega) (by omega)) ?_
          refine Split.mk fun t ht => ?_
          cases t
          case true => rw [decide_eq_true_iff] at ht; omega
          refine Fz.mk _ (frzH hs) ?_
          refine ACall.mk _ _ hL2 ?_
          refine Need.mk ⟨closed_v, no_objs⟩ ?_
          refine Split.mk fun t h => ?_
          cases t
          case false => cases h
          refine ACall.mk _ _ hS ?_
          exact ⟨g, _, by omega, Weak.nrm [true, true, true, false, false, false, false, true] [(0, 0)] rfl rfl rfl, g, 2 * i + 1, swapL hd0 hs i (2 * i + 1), rfl, by omega, by omega, by rw [swapL_len]; exact hnl, by rw [swapL_len]; exact hll, hmem, hR, hJ0, rfl⟩
        · have hq : hl (hs.getD (2 * i + 1) hd0) (hs.getD i hd0) = false := by simpa using hq
          have hF : hs = R := by rw [← hR, if_neg (by rw [hq]; simp)]
          have hJ : i = J := by rw [← hJ0, if_neg (by rw [hq]; simp)]
          rw [hq] at hL2
          subst hs0
          refine Num.mk ((2 * i : Nat) : Int) (wrapI' (by omega) (by omega)) ?_
          refine Num.mk ((2 * i + 1 : Nat) : Int) (wrapI' (by omega) (by omega)) ?_
          refine Split.mk fun t ht => ?_
          cases t
          case true => rw [decide_eq_true_iff] at ht; omega
          refine Split.mk fun t ht => ?_
          cases t
          case true => rw [decide_eq_true_iff] at ht; omega
          refine Num.mk ((2 * i + 2 : Nat) : Int) (wrapI' (by omega) (by omega)) ?_
          refine Split.mk fun t ht => ?_
          cases t
          case true => rw [decide_eq_true_iff] at ht; omega
          refine Fz.mk _ (frzH hs) ?_
          refine ACall.mk _ _ hL2 ?_
          refine Need.mk ⟨closed_v, no_objs⟩ ?_
          refine Split.mk fun t h => ?_
          cases t
          case true => cases h
          refine Split.mk fun t ht => ?_
          refine Need.mk ⟨[], _, .same, fin ?_, congrArg (fun x : List Hd1 => [[C.us 96 (x.map encH)]]) hF⟩ trivial
          rw [← hJ, ← ht]
          exact decide_eq_decide.2 Int.ofNat_lt
def initF (n : Nat) : Nat → List Hd1 → List Hd1
  | 0, hs => hs
  | k + 1, hs => initF n k (downF hl hd0 (n - k) hs k n)
theorem initF_ok : ∀ (k n : Nat) (hs : List Hd1), n ≤ hs.length → k ≤ n → HP hl hd0 hs n k → HP hl hd0 (initF n k hs) n 0 ∧ (initF n k hs).Perm hs := by
  intro k
  induction k with
  | zero => intro n hs _ _ h; exact ⟨h, List.Perm.refl _⟩
  | succ k ih =>
    intro n hs hn hk h
    have h1 : HP hl hd0 (downF hl hd0 (n - k) hs k n) n k := down_ok hl_wk (n - k) hs k n k hn (by omega) (Nat.le_refl _)
      (fun c h0 hc hlo hp => h c h0 hc (by omega)) (fun h0 hlo => by unfold par at hlo; omega)
    obtain ⟨q1, q2⟩ := ih n (downF hl hd0 (n - k) hs k n) (by rw [down_len]; exact hn) (by omega) h1
    exact ⟨q1, q2.trans (down_perm _ _ _ _ hn)⟩
theorem heap_Init (hs0 : List Hd1) (hll : hs0.length ≤ 1099511627776) (hne : ∀ a ∈ hs0, a.1 ≠ []) :
    AFnK Try.prog 72 [.ifc 98 (.bx 0 0)] [[.us 96 (hs0.map encH)]] [0] (.tup []) [[.us 96 ((initF hs0.length (hs0.length / 2) hs0).map encH)]] := by
  refine AFnK.introX (E := En 1 md0) (en_ok 1 _) Try.func72 rfl rfl rfl fun _ _ => ?_
  have hLen := heads_Len hs0
  have hex : ∃ R, initF hs0.length (hs0.length / 2) hs0 = R := ⟨_, rfl⟩
  obtain ⟨R, hR0⟩ := hex
  rw [hR0]
  have hex : ∃ n, hs0.length = n := ⟨_, rfl⟩
  obtain ⟨n, hn⟩ := hex
  rw [hn] at hLen hR0 hll
  let S : List Hd1 → Int → St := fun hs i => ⟨some (.ifc 98 (.bx 0 0)) :: none :: some (av (.int .i64 n)) :: some (av (.int .i64 i)) :: List.replicate 13 none, ⟨0, 0, some [.us 96 (hs.map encH)]⟩ :: List.replicate 17 absent⟩
  refine Fz.mk _ (frzH hs0) ?_
  refine ACall.mk _ _ hLen ?_
  refine Need.mk ⟨closed_v, no_objs⟩ ?_
  refine Need.mk (by decide) ?_
  refine Num.mk ((n / 2 : Nat) : Int) (wrapI' (tdivN' n 2) (by omega)) ?_
  refine Num.mk (((n / 2 : Nat) : Int) - 1) (wrapI (by omega) (by omega)) ?_
  refine ALoop.mk (fun m s => ∃ (k : Nat) (hs : List Hd1), m = k ∧ k ≤ n ∧ hs.length = n ∧ (∀ a ∈ hs, a.1 ≠ []) ∧ initF n k hs = R ∧ s = S hs ((k : Int) - 1))
    ⟨n / 2, _, Weak.nrm [true, false, true, true] [(0, 0)] rfl rfl rfl, n / 2, hs0, rfl, by omega, hn, hne, hR0, rfl⟩ ?_
  clear hR0
  rintro m s ⟨k, hs, rfl, hk, hln, hne, hR, hs0⟩
  by_cases h0 : m = 0
  · subst h0
    have hF : hs = R := hR
    rw [hF] at hs0
    subst hs0
    refine Split.mk fun t ht => ?_
    cases t
    · exact Need.mk ⟨[], _, .same, rfl, rfl⟩ trivial
    · cases ht
  · have hex : ∃ g, m = g + 1 := ⟨m - 1, by omega⟩
    obtain ⟨g, hg⟩ := hex
    subst hg
    have hii : (((g + 1 : Nat) : Int) - 1) = (g : Int) := by omega
    rw [hii] at hs0
    have hD := heap_down hs g n (by omega) (by omega) (by omega) (fun k hk => hne _ (getH_mem (by omega)))
    have hne2 : ∀ a ∈ downF hl hd0 (n - g) hs g n, a.1 ≠ [] := fun a ha => hne a ((down_perm _ _ _ _ (by omega)).mem_iff.1 ha)
    have hR2 : initF n g (downF hl hd0 (n - g) hs g n) = R := hR
    subst hs0
    refine Split.mk fun t ht => ?_
    cases t
    case false => rw [decide_eq_false_iff_not] at ht; omega
    refine ACall.mk _ _ hD ?_
    refine Split.mk fun t _ => ?_
    refine Num.mk ((g : Int) - 1) (wrapI (by omega) (by omega)) ?_
    exact ⟨g, _, by omega, Weak.nrm [true, false, true, true] [(0, 0)] rfl rfl rfl, g, downF hl hd0 (n - g) hs g n, rfl, by omega, by rw [down_len]; exact hln, hne2, hR2, rfl⟩
theorem heap_up0 (hs : List Hd1) : AFnK Try.prog 128 [.ifc 98 (.bx 0 0), av (.int .i64 0)] [[.us 96 (hs.map encH)]] [0] (.tup []) [[.us 96 (hs.map encH)]] := by
  refine AFnK.introX (E := En 1 md0) (en_ok 1 _) Try.func128 rfl rfl rfl fun _ _ => ?_
  let S : St := ⟨some (.ifc 98 (.bx 0 0)) :: some (av (.int .i64 0)) :: List.replicate 21 none, ⟨0, 0, some [.us 96 (hs.map encH)]⟩ :: List.replicate 23 absent⟩
  refine ALoop.mk (fun m s => s = S) ⟨0, _, Weak.nrm [true, true] [(0, 0)] rfl rfl rfl, rfl⟩ ?_
  rintro m s hs0
  subst hs0
  refine Num.mk (-1) (wrapI (by decide) (by decide)) ?_
  refine Need.mk (by decide) ?_
  refine Num.mk 0 (wrapI (by decide) (by decide)) ?_
  refine Split.mk fun t ht => ?_
  cases t
  · cases ht
  · exact Need.mk ⟨[], _, .same, rfl, rfl⟩ trivial
theorem heap_Fix (hs : List Hd1) (n : Nat) (hn : n = hs.length) (hll : hs.length ≤ 1099511627776) (hne : ∀ a ∈ hs, a.1 ≠ []) :
    AFnK Try.prog 74 [.ifc 98 (.bx 0 0), av (.int .i64 0)] [[.us 96 (hs.map encH)]] [0] (.tup []) [[.us 96 ((downF hl hd0 n hs 0 n).map encH)]] := by
  refine AFnK.introX (E := En 1 md0) (en_ok 1 _) Try.func74 rfl rfl rfl fun _ _ => ?_
  have hLen := heads_Len hs
  rw [← hn] at hLen
  have hD := heap_down hs 0 n (by omega) hll (by omega) (fun k hk => hne _ (getH_mem (by omega)))
  rw [Nat.sub_zero] at hD
  have hU := heap_up0 (downF hl hd0 n hs 0 n)
  refine Fz.mk _ (frzH hs) ?_
  refine ACall.mk _ _ hLen ?_
  refine Need.mk ⟨closed_v, no_objs⟩ ?_
  refine ACall.mk _ _ hD ?_
  refine Split.mk fun t _ => ?_
  cases t
  · refine ACall.mk _ _ hU ?_
    exact Need.mk ⟨[], _, .same, rfl, rfl⟩ trivial
  · exact Need.mk ⟨[], _, .same, rfl, rfl⟩ trivial
theorem heap_Pop (hs : List Hd1) (h0 : 0 < hs.length) (hll : hs.length ≤ 1099511627776) (hne : ∀ k, 0 < k → k < hs.length → (hs.getD k hd0).1 ≠ []) :
    AFnK Try.prog 73 [.ifc 98 (.bx 0 0)] [[.us 96 (hs.map encH)]] [0] (.one .x) [[.us 96 ((popF hs).map encH)]] := by
  refine AFnK.introX (E := En 1 (md1 [194])) (en_ok 1 _) Try.func73 rfl rfl rfl fun _ _ => ?_
  have hLen := heads_Len hs
  have hex : ∃ n, hs.length - 1 = n := ⟨_, rfl⟩
  obtain ⟨n, hn⟩ := hex
  have hS := heads_Swap hs 0 n h0 (by omega)
  have hD := heap_down (swapL hd0 hs 0 n) 0 n (by rw [swapL_len]; omega) (by rw [swapL_len]; exact hll) (by omega) (fun k hk => by
    rw [swapL_get (by omega) (by omega), if_neg (by omega)]
    split
    · exact hne _ (by omega) (by omega)
    · exact hne k (by omega) (by omega))
  rw [Nat.sub_zero] at hD
  have hP := heads_Pop (downF hl hd0 n (swapL hd0 hs 0 n) 0 n) (by rw [down_len, swapL_len]; exact h0) (by rw [down_len, swapL_len]; exact hll)
  rw [down_len, swapL_len, hn] at hP
  have hF : popF hs = (downF hl hd0 n (swapL hd0 hs 0 n) 0 n).take n := by rw [popF, hn]
  rw [hF]
  refine Fz.mk _ (frzH hs) ?_
  refine ACall.mk _ _ hLen ?_
  refine Need.mk ⟨closed_v, no_objs⟩ ?_
  refine Num.mk ((n : Nat) : Int) (wrapI' (by omega) (by omega)) ?_
  refine ACall.mk _ _ hS ?_
  refine ACall.mk _ _ hD ?_
  refine Split.mk fun t _ => ?_
  refine ACall.mk _ _ hP ?_
  exact Need.mk ⟨[], _, .same, rfl, rfl⟩ trivial
end Go.Proofs.Ytlmdheeammfihaa

namespace Go.Proofs.Ytlmdheeammfihaa
open Go Go.Proofs Ev
set_option maxRecDepth 100000
set_option linter.unusedSimpArgs false
set_option linter.unusedVariables false
def encO (r : Rn) : List C := [.us 32 (r.ents.map Ent.enc), vi r.mask]
def encLO (l : List Rn) : List C := [.us 25 (l.map encO)]
theorem clO (xs : List Rn) : ∀ r ∈ xs.map encO, ClL r := cl_map (f := encO) (fun l => .us (clE l.ents) (.v .nil)) xs
theorem clLO (xs : List (List Rn)) : ∀ r ∈ xs.map encLO, ClL r := cl_map (f := encLO) (fun l => .us (clO l) .nil) xs
end Go.Proofs.Ytlmdheeammfihaa

namespace Go.Proofs.Ytlmdheeammfihaa
open Go Go.Proofs Ev
set_option maxRecDepth 100000
set_option linter.unusedSimpArgs false
set_option linter.unusedVariables false
theorem frzR (xs : List Rn) : Frz (.us 25 (xs.map encO)) (.sl (xs.map Rn.enc)) := frz_map fun r _ => .cons (frzE r.ents) (.cons .v .nil)
theorem frzRR (xs : List (List Rn)) : Frz (.us 112 (xs.map encLO)) (.sl (xs.map encL)) := frz_map fun r _ => .cons (frzR r) .nil
end Go.Proofs.Ytlmdheeammfihaa

namespace Go.Proofs.Ytlmdheeammfihaa
open Go Go.Proofs Ev
set_option maxRecDepth 100000
set_option linter.unusedSimpArgs false
set_option linter.unusedVariables false
set_option maxHeartbeats 4000000
theorem closedE (e : TypeId) (xs : List Ent) : Closed (.us e (xs.map Ent.enc)) := by
  refine .us fun r hr c hc => ?_
  obtain ⟨x, _, rfl⟩ := List.mem_map.1 hr
  simp only [Ent.enc, List.mem_cons, List.not_mem_nil, or_false] at hc
  rcases hc with h | h | h | h | h <;> subst h <;> exact .v
theorem closed_rof (e : TypeId) (xs : List Ent) (v w : Value) : ∀ c ∈ ([C.us e (xs.map Ent.enc), .v v, .v w] : List C), Closed c := fun c hc => by
  simp only [List.mem_cons, List.not_mem_nil, or_false] at hc
  rcases hc with h | h | h <;> subst h
  · exact closedE e xs
  · exact .v
  · exact .v
theorem rowsOk (R : List (List C)) (ys : List Ent) (h : R = ys.map Ent.enc) : Plain R ∧ ∀ r ∈ R, r.length = 5 := by
  subst h; exact ⟨plainE ys, lenE ys⟩
theorem sizeOk (a b : List (List C)) (ys zs : List Ent) (ha : a = ys.map Ent.enc) (hb : b = zs.map Ent.enc) (h : ys.length + zs.length ≤ 2000000) : (a.length + b.length) * 56 ≤ 140737488355328 ∧ a.length + b.length ≤ maxLen := by
  subst ha; subst hb
  rw [List.length_map, List.length_map]
  exact ⟨by omega, Nat.le_trans h (by decide)⟩
theorem spec_l4Put (xs : List Ent) (e : Ent) (hx : xs.length ≤ 1048576) : AFn Try.prog 75 [sl (xs.map Ent.enc), .agg (e.enc.map .c)] [] (.one (.us 32 ((ins eLess xs e).map Ent.enc))) [] := by
  refine AFn.introX (E := En 0 md0) (en_ok 0 _) Try.func75 rfl rfl rfl fun _ _ => ?_
  have hn : (xs.map Ent.enc).length = xs.length := List.length_map ..
  let S : Int → St := fun k => ⟨some (sl (xs.map Ent.enc)) :: none :: none :: some (.bx 3 0) :: none :: some (av (.int .i64 k)) :: List.replicate 31 none, absent :: absent :: absent :: ⟨0, 0, some e.enc⟩ :: List.replicate 33 absent⟩
  refine ALoop.mk (fun m s => ∃ k : Nat, k ≤ xs.length ∧ m = k ∧ ins eLess xs e = ins eLess (xs.take k) e ++ xs.drop k ∧ s = S (k : Int))
    ⟨xs.length, _, Weak.nrm [true, false, false, true, false, true] [(3, 3)] rfl rfl rfl, xs.length, Nat.le_refl _, rfl, by simp, congrArg S (show (((xs.map Ent.enc).length : Nat) : Int) = ((xs.length : Nat) : Int) by rw [hn])⟩ ?_
  rintro m s ⟨k, hk, rfl, hins, hs⟩
  have plain : ∀ ys : List Ent, Plain (ys.map Ent.enc) := plainE
  by_cases hstop : m = 0 ∨ ∃ h : 0 < m, eLess e (xs[m - 1]'(by omega)) = false
  · have hfin : ins eLess xs e = xs.take m ++ [e] ++ xs.drop m := by
      rw [hins]
      congr 1
      rcases hstop with h | ⟨h, hl⟩
      · subst h; rfl
      · have e1 : xs.take m = xs.take (m - 1) ++ [xs[m - 1]'(by omega)] := by
          conv => lhs; rw [show m = m - 1 + 1 by omega]
          exact List.take_succ_eq_append_getElem (by omega)
        rw [e1]; exact ins_stop eLess e _ _ hl
    have d1 : ((xs.map Ent.enc).drop (m : Int).toNat).take (((xs.map Ent.enc).length : Int) - (m : Int)).toNat = (xs.drop m).map Ent.enc := by
      rw [Int.toNat_natCast, ← List.map_drop]
      exact List.take_of_length_le (by rw [List.length_map, List.length_drop, hn]; omega)
    have d2 : ((xs.map Ent.enc).drop (0 : Int).toNat).take ((m : Int) - 0).toNat = (xs.take m).map Ent.enc := by
      rw [show (0 : Int).toNat = 0 from rfl, List.drop_zero, Int.sub_zero, Int.toNat_natCast, ← List.map_take]
    have d3 : ((xs.map Ent.enc).drop (0 : Int).toNat).take ((m : Int) - 0).toNat ++ [e.enc] = (xs.take m ++ [e]).map Ent.enc := by
      rw [d2, List.map_append]; rfl
    have d4 : ((xs.map Ent.enc).drop (0 : Int).toNat).take ((m : Int) - 0).toNat ++ [e.enc] ++ ((xs.map Ent.enc).drop (m : Int).toNat).take (((xs.map Ent.enc).length : Int) - (m : Int)).toNat = (xs.take m ++ [e] ++ xs.drop m).map Ent.enc := by
      rw [d3, d1, ← List.map_append]
    have l1 : ((xs.drop m).map Ent.enc).length = xs.length - m := by rw [List.length_map, List.length_drop]
    have l2 : ((xs.take m).map Ent.enc).length = m := by rw [List.length_map, List.length_take]; omega
    have fin : ∀ rows : List (List C), rows = (xs.take m ++ [e] ++ xs.drop m).map Ent.enc → RV.one (.us 32 rows) = .one (.us 32 ((ins eLess xs e).map Ent.enc)) := fun rows h => by rw [h, hfin]
    rcases Nat.eq_zero_or_pos m with h0 | h0
    · subst hs
      refine Split.mk fun t ht => ?_
      cases t
      case true => simp at ht; omega
      refine Need.mk rfl ?_
      refine Need.mk ⟨by omega, by omega, by omega, lenE xs⟩ ?_
      refine Need.mk (rowsOk _ _ d1) ?_
      refine Need.mk (sizeOk _ _ [] (xs.drop m) rfl d1 (by rw [List.length_drop]; simp; omega)) ?_
      refine Need.mk ⟨by omega, by omega, by omega, lenE xs⟩ ?_
      refine Need.mk (rowsOk _ _ d2) ?_
      refine Need.mk (sizeOk _ _ [] (xs.take m) rfl d2 (by rw [List.length_take]; simp; omega)) ?_
      refine Need.mk (sizeOk _ _ (xs.take m) [e] d2 rfl (by rw [List.length_take]; simp; omega)) ?_
      refine Need.mk (rowsOk _ _ d1).1 ?_
      refine Need.mk (sizeOk _ _ (xs.take m ++ [e]) (xs.drop m) d3 d1 (by rw [List.length_append, List.length_take, List.length_drop]; simp; omega)) ?_
      refine Need.mk rfl ?_
      exact Need.mk ⟨[], _, .same, fin _ d4, rfl⟩ trivial
    · have hl : eLess e (xs[m - 1]'(by omega)) = false := by
        refine hstop.elim (fun h => absurd h (by omega)) fun h => ?_
        exact h.2
      subst hs
      refine Split.mk fun t ht => ?_
      cases t
      · simp at ht; omega
      refine Num.mk ((m - 1 : Nat) : Int) (wrapI' (by omega) (by omega)) ?_
      refine Need.mk (by omega) ?_
      refine Row.mk _ (map_get _ xs (m - 1) (by omega)) ?_
      refine ACall.mk _ _ (spec_EntryLess e (xs[m - 1]'(by omega))) ?_
      refine Split.mk fun t ht2 => ?_
      cases t
      case true => rw [hl] at ht2; cases ht2
      refine Need.mk rfl ?_
      refine Need.mk ⟨by omega, by omega, by omega, lenE xs⟩ ?_
      refine Need.mk (rowsOk _ _ d1) ?_
      refine Need.mk (sizeOk _ _ [] (xs.drop m) rfl d1 (by rw [List.length_drop]; simp; omega)) ?_
      refine Need.mk ⟨by omega, by omega, by omega, lenE xs⟩ ?_
      refine Need.mk (rowsOk _ _ d2) ?_
      refine Need.mk (sizeOk _ _ [] (xs.take m) rfl d2 (by rw [List.length_take]; simp; omega)) ?_
      refine Need.mk (sizeOk _ _ (xs.take m) [e] d2 rfl (by rw [List.length_take]; simp; omega)) ?_
      refine Need.mk (rowsOk _ _ d1).1 ?_
      refine Need.mk (sizeOk _ _ (xs.take m ++ [e]) (xs.drop m) d3 d1 (by rw [List.length_append, List.length_take, List.length_drop]; simp; omega)) ?_
      refine Need.mk rfl ?_
      exact Need.mk ⟨[], _, .same, fin _ d4, rfl⟩ trivial
  · have h0 : 0 < m := Nat.pos_of_ne_zero fun h => hstop (.inl h)
    have hl : eLess e (xs[m - 1]'(by omega)) = true := by
      cases hx : eLess e (xs[m - 1]'(by omega)) with
      | true => rfl
      | false => exact absurd (.inr ⟨h0, hx⟩) hstop
    have e1 : xs.take m = xs.take (m - 1) ++ [xs[m - 1]'(by omega)] := by
      conv => lhs; rw [show m = m - 1 + 1 by omega]
      exact List.take_succ_eq_append_getElem (by omega)
    have hins' : ins eLess xs e = ins eLess (xs.take (m - 1)) e ++ xs.drop (m - 1) := by
      rw [hins, e1, ins_step eLess e _ _ hl, List.append_assoc]
      congr 1
      conv => rhs; rw [List.drop_eq_getElem_cons (show m - 1 < xs.length by omega)]
      rw [show m - 1 + 1 = m by omega]; rfl
    subst hs
    refine Split.mk fun t ht => ?_
    cases t
    · simp at ht; omega
    refine Num.mk ((m - 1 : Nat) : Int) (wrapI' (by omega) (by omega)) ?_
    refine Need.mk (by omega) ?_
    refine Row.mk _ (map_get _ xs (m - 1) (by omega)) ?_
    refine ACall.mk _ _ (spec_EntryLess e (xs[m - 1]'(by omega))) ?_
    refine Split.mk fun t ht2 => ?_
    cases t
    · rw [hl] at ht2; cases ht2
    refine Need.mk rfl ?_
    refine Num.mk ((m - 1 : Nat) : Int) (wrapI' (by omega) (by omega)) ?_
    exact ⟨m - 1, _, by omega, Weak.nrm [true, false, false, true, false, true] [(3, 3)] rfl rfl rfl, m - 1, by omega, rfl, hins', rfl⟩
end Go.Proofs.Ytlmdheeammfihaa

namespace Go.Proofs.Ytlmdheeammfihaa
open Go Go.Proofs Ev
set_option maxRecDepth 100000
set_option linter.unusedSimpArgs false
set_option linter.unusedVariables false
set_option maxHeartbeats 1000000
theorem closed_us (e : TypeId) (xs : List Ent) : ∀ c : C, c ∈ [C.us e (xs.map Ent.enc)] → Closed c := fun c hc => by
  rw [List.mem_singleton] at hc; subst hc; exact closedE e xs
theorem spec_l4Sort (xs : List Ent) (hx : xs.length ≤ 1048576) : AFn Try.prog 131 [sl (xs.map Ent.enc)] [] (.one (.us 32 ((isort eLess xs).map Ent.enc))) [] := by
  refine AFn.introX (E := En 0 md0) (en_ok 0 _) Try.func131 rfl rfl rfl fun _ _ => ?_
  have hn : (xs.map Ent.enc).length = xs.length := List.length_map ..
  let S : Nat → List Ent → Nat → St := fun kd ys i => ⟨some (sl (xs.map Ent.enc)) :: none :: none :: some (.one (.ref 3 0 (.cell 0))) :: some (av (.int .i64 i)) :: List.replicate 14 none, absent :: absent :: absent :: ⟨0, kd, some [.us 32 (ys.map Ent.enc)]⟩ :: List.replicate 15 absent⟩
  refine ALoop.mk (fun m s => ∃ i kd : Nat, i ≤ xs.length ∧ m = xs.length - i ∧ (kd = 1 ∨ kd = 2) ∧ s = S kd (isort eLess (xs.take i)) i)
    ⟨xs.length, _, Weak.nrm [true, false, false, true, true] [(5, 3)] rfl rfl rfl, 0, 2, Nat.zero_le _, rfl, .inr rfl, rfl⟩ ?_
  rintro m s ⟨i, kd, hi, rfl, hkd, hs⟩
  by_cases hin : i = xs.length
  · subst hin
    rw [List.take_length] at hs
    subst hs
    refine Split.mk fun t ht => ?_
    rw [hn] at ht
    cases t
    · exact Need.mk ⟨[], _, .same, rfl, rfl⟩ trivial
    · simp at ht
  · have hia : i < xs.length := by omega
    have he : isort eLess (xs.take (i + 1)) = ins eLess (isort eLess (xs.take i)) xs[i] := by
      rw [List.take_succ_eq_append_getElem hia, isort_snoc]
    have hlen : (isort eLess (xs.take i)).length ≤ 1048576 := by rw [isort_len, List.length_take]; omega
    have hex : ∃ ys, isort eLess (xs.take i) = ys := ⟨_, rfl⟩
    obtain ⟨ys, hy⟩ := hex
    rw [hy] at he hlen hs
    rcases hkd with rfl | rfl
    all_goals
      subst hs
      refine Split.mk fun t ht => ?_
      rw [hn] at ht
      cases t
      · simp at ht; omega
      refine Need.mk (by omega) ?_
      refine Row.mk _ (map_get _ xs i hia) ?_
      refine Fz.mk _ (frzE ys) ?_
      refine ACall.mk _ _ (spec_l4Put ys xs[i] hlen) ?_
      refine Need.mk ⟨closed_us _ _, no_objs⟩ ?_
      refine Num.mk _ (wrapS (by omega)) ?_
      refine ⟨xs.length - (i + 1), _, by omega, Weak.nrm [true, false, false, true, true] [(17, 3)] rfl rfl rfl, i + 1, 1, by omega, rfl, .inl rfl, ?_⟩
      exact congrArg (fun l => S 1 l (i + 1)) he.symm
end Go.Proofs.Ytlmdheeammfihaa

namespace Go.Proofs.Ytlmdheeammfihaa
open Go Go.Proofs Ev
set_option maxRecDepth 100000
set_option linter.unusedSimpArgs false
set_option linter.unusedVariables false
set_option maxHeartbeats 20000000
theorem sizeH (a b : List (List C)) (hs : List Hd1) (r : List C) (k : Nat) (ha : a = hs.map encH) (hb : b = [r]) (hk : k ≤ 100) (h : hs.length ≤ 2000000) : (a.length + b.length) * k ≤ 140737488355328 ∧ a.length + b.length ≤ maxLen := by
  subst ha; subst hb
  rw [List.length_map]
  have : (hs.length + [r].length) * k ≤ (hs.length + [r].length) * 100 := Nat.mul_le_mul_left _ hk
  simp only [List.length_cons, List.length_nil] at this ⊢
  exact ⟨by omega, Nat.le_trans (by omega : hs.length + 1 ≤ 2000001) (by decide)⟩
theorem spec_MergeAll (L : List (List Ent)) (hN : L.flatten.length ≤ 1048576) (hL : L.length ≤ 1048576) : AFn Try.prog 27 [sl (L.map encX)] [] (.one (.us 32 ((isort eLess L.flatten).map Ent.enc))) [] := by
  refine AFn.introX (E := En 0 md0) (en_ok 0 _) Try.func27 rfl rfl rfl fun _ _ => ?_
  have hn : (L.map encX).length = L.length := List.length_map ..
  have htot : ∀ i, i ≤ L.length → ((L.take i).flatten).length ≤ L.flatten.length := fun i _ => by
    have : L.flatten = (L.take i).flatten ++ (L.drop i).flatten := by rw [← List.flatten_append, List.take_append_drop]
    rw [this, List.length_append]; omega
  have hstep : ∀ (i : Nat) (h : i < L.length), (L.take (i + 1)).flatten = (L.take i).flatten ++ L[i] := fun i h => by
    rw [List.take_succ_eq_append_getElem h, List.flatten_append]; simp
  let S : Nat → List Ent → Nat → St := fun kd out i => ⟨some (sl (L.map encX)) :: none :: none :: some (.one (.ref 3 0 (.cell 0))) :: some (av (.int .i64 i)) :: List.replicate 27 none, absent :: absent :: absent :: ⟨0, kd, some [.us 32 (out.map Ent.enc)]⟩ :: List.replicate 28 absent⟩
  let S2 : Nat → List Ent → Nat → Nat → St := fun kd out i k => ⟨some (sl (L.map encX)) :: none :: none :: some (.one (.ref 3 0 (.cell 0))) :: some (av (.int .i64 i)) :: some (av (.int .i64 k)) :: List.replicate 26 none, absent :: absent :: absent :: ⟨0, kd, some [.us 32 (out.map Ent.enc)]⟩ :: List.replicate 28 absent⟩
  refine ALoop.mk (fun m s => ∃ i kd : Nat, i ≤ L.length ∧ m = L.length - i ∧ s = S kd (isort eLess (L.take i).flatten) i)
    ⟨L.length, _, Weak.nrm [true, false, false, true, true] [(6, 3)] rfl rfl rfl, 0, 2, Nat.zero_le _, rfl, rfl⟩ ?_
  rintro m s ⟨i, kd, hi, rfl, hs⟩
  by_cases hin : i = L.length
  · rw [hin, List.take_length] at hs
    subst hs
    refine Split.mk fun t ht => ?_
    rw [hn] at ht
    cases t
    case true => rw [decide_eq_true_iff] at ht; omega
    exact Need.mk ⟨[], _, .same, rfl, rfl⟩ trivial
  · have hia : i < L.length := by omega
    have hst := hstep i hia
    have htt := htot (i + 1) hia
    rw [hst, List.length_append] at htt
    have hrow := map_get encX L i hia
    have hln : (L[i].map Ent.enc).length = L[i].length := List.length_map ..
    have hex : ∃ l, L[i] = l := ⟨_, rfl⟩
    obtain ⟨l, hle⟩ := hex
    rw [hle] at hst htt hrow hln
    have hex : ∃ A, (L.take i).flatten = A := ⟨_, rfl⟩
    obtain ⟨A, hA⟩ := hex
    rw [hA] at hst htt hs
    subst hs
    refine Split.mk fun t ht => ?_
    rw [hn] at ht
    cases t
    case false => rw [decide_eq_false_iff_not] at ht; omega
    refine ALoop.mk (fun m s => ∃ k kd : Nat, k ≤ l.length ∧ m = l.length - k ∧ s = S2 kd (isort eLess (A ++ l.take k)) i k)
      ⟨l.length, _, Weak.nrm [true, false, false, true, true, true] [(3, 3)] rfl rfl rfl, 0, kd, Nat.zero_le _, rfl, by rw [List.take_zero, List.append_nil]; rfl⟩ ?_
    rintro m s ⟨k, kd, hk, rfl, hs⟩
    by_cases hkn : k = l.length
    · rw [hkn, List.take_length] at hs
      subst hs
      refine Need.mk (by omega) ?_
      refine Row.mk _ hrow ?_
      refine Split.mk fun t ht => ?_
      rw [hln] at ht
      cases t
      case true => rw [decide_eq_true_iff] at ht; omega
      refine Num.mk _ (wrapS (by omega)) ?_
      refine ⟨L.length - (i + 1), _, by omega, Weak.nrm [true, false, false, true, true] [(3, 3)] rfl rfl rfl, i + 1, kd, by omega, rfl, ?_⟩
      rw [hst]; rfl
    · have hka : k < l.length := by omega
      have hrow2 := map_get Ent.enc l k hka
      have hlen : (isort eLess (A ++ l.take k)).length ≤ 1048576 := by rw [isort_len, List.length_append, List.length_take]; omega
      have hins : ins eLess (isort eLess (A ++ l.take k)) l[k] = isort eLess (A ++ l.take (k + 1)) := by rw [← isort_snoc, List.append_assoc, ← List.take_succ_eq_append_getElem hka]
      have hex : ∃ ys, isort eLess (A ++ l.take k) = ys := ⟨_, rfl⟩
      obtain ⟨ys, hy⟩ := hex
      rw [hy] at hs hlen hins
      have hP := spec_l4Put ys l[k] hlen
      subst hs
      refine Need.mk (by omega) ?_
      refine Row.mk _ hrow ?_
      refine Split.mk fun t ht => ?_
      rw [hln] at ht
      cases t
      case false => rw [decide_eq_false_iff_not] at ht; omega
      refine Need.mk (by omega) ?_
      refine Row.mk _ hrow ?_
      refine Need.mk (by omega) ?_
      refine Row.mk _ hrow2 ?_
      refine Fz.mk _ (frzE ys) ?_
      refine ACall.mk _ _ hP ?_
      refine Need.mk ⟨closed_us _ _, no_objs⟩ ?_
      refine Num.mk _ (wrapS (by omega)) ?_
      refine ⟨l.length - (k + 1), _, by omega, Weak.nrm [true, false, false, true, true, true] [(30, 3)] rfl rfl rfl, k + 1, 1, by omega, rfl, ?_⟩
      rw [← hins]; rfl
theorem impl_MergeAll (L : List (List Ent)) (hN : L.flatten.length ≤ 1048576) (hL : L.length ≤ 1048576) : AFn Try.prog 26 [sl (L.map encX)] [] (.one (.us 32 ((isort eLess L.flatten).map Ent.enc))) [] := by
  refine AFn.introX (E := En 0 (md1 [62]) (fz := [26])) (en_ok 0 _ _ _ _ _) Try.func26 rfl rfl rfl fun _ _ => ?_
  have hpos : 0 < Try.prog.cellsOf 32 := pos_of tab_ok (t := 32) rfl
  have hn : (L.map encX).length = L.length := List.length_map ..
  have hmem : ∀ l ∈ L, l.length ≤ 1048576 := fun l hl => by
    have := sum_mem List.length hl
    rw [← List.length_flatten] at this
    omega
  have hex : ∃ K, L.map (isort eLess) = K := ⟨_, rfl⟩
  obtain ⟨K, hK⟩ := hex
  have hKl : K.length = L.length := by rw [← hK, List.length_map]
  have hKi : ∀ (i : Nat) (h : i < L.length), K[i]'(by omega) = isort eLess L[i] := fun i h => by subst hK; simp
  have hKs : ∀ l ∈ K, Srt eLess l := fun l hl => by
    rw [← hK] at hl
    obtain ⟨l0, _, rfl⟩ := List.mem_map.1 hl
    exact srt_isort eLess_wk _
  have hKf : isort eLess K.flatten = isort eLess L.flatten := by rw [← hK]; exact isort_flat L
  have hKn : K.flatten.length ≤ 1048576 := by rw [← hK, flat_len]; exact hN
  have hlv := live_len K
  have hlt : ∀ i, (live (K.take i)).length ≤ 1048576 := fun i => Nat.le_trans (live_len _) (by rw [List.length_take]; omega)
  have hI := heap_Init (live K) (by omega) (fun a ha => live_ne ha)
  obtain ⟨hp1, hp2⟩ := initF_ok ((live K).length / 2) (live K).length (live K) (Nat.le_refl _) (by omega) (fun c h0 hc hlo => by unfold par at hlo; omega)
  have hex : ∃ Z, isort eLess L.flatten = Z := ⟨_, rfl⟩
  obtain ⟨Z, hZ⟩ := hex
  rw [hZ] at hKf
  rw [hZ]
  have hex : ∃ H0, initF (live K).length ((live K).length / 2) (live K) = H0 := ⟨_, rfl⟩
  obtain ⟨H0, hH0⟩ := hex
  rw [hH0] at hI hp1 hp2
  let S1 : List Hd1 → Nat → St := fun hs i => ⟨none :: none :: none :: some (.bx 3 0) :: none :: none :: none :: none :: some (sl (L.map encX)) :: some (av (.int .i64 ((L.map encX).length : Nat))) :: some (av (.int .i64 i)) :: List.replicate 51 none, absent :: absent :: absent :: ⟨0, 0, some [.us 96 (hs.map encH)]⟩ :: List.replicate 58 absent⟩
  let S2 : List Hd1 → List Ent → St := fun hs out => ⟨none :: none :: none :: some (.bx 3 0) :: none :: none :: none :: some (.one (.ref 7 0 (.cell 0))) :: List.replicate 54 none, absent :: absent :: absent :: ⟨0, 0, some [.us 96 (hs.map encH)]⟩ :: absent :: absent :: absent :: ⟨0, 1, some [.us 32 (out.map Ent.enc)]⟩ :: List.replicate 54 absent⟩
  refine ALoop.mk (fun m s => ∃ i : Nat, i ≤ L.length ∧ m = L.length - i ∧ s = S1 (live (K.take i)) i)
    ⟨L.length, _, Weak.nrm [false, false, false, true, false, false, false, false, true, true, true] [(3, 3)] rfl rfl rfl, 0, Nat.zero_le _, rfl, rfl⟩ ?_
  rintro m s ⟨i, hi, rfl, hs⟩
  by_cases hin : i = L.length
  · have e : K.take i = K := List.take_of_length_le (by omega)
    rw [e] at hs
    subst hs
    refine Split.mk fun t ht => ?_
    rw [hn] at ht
    cases t
    case true => rw [decide_eq_true_iff] at ht; omega
    refine ACall.mk _ _ hI ?_
    refine ALoop.mk (fun m s => ∃ (M : List (List Ent)) (hs : List Hd1) (out : List Ent), m = M.flatten.length ∧ hs.Perm (live M) ∧ (∀ l ∈ M, Srt eLess l) ∧ HP hl hd0 hs hs.length 0 ∧ out ++ isort eLess M.flatten = Z ∧ out.length + M.flatten.length ≤ 1048576 ∧ hs.length ≤ 1048576 ∧ s = S2 hs out)
      ⟨K.flatten.length, _, Weak.trans (Weak.nrm [false, false, false, true, false, false, false, true] [(3, 3)] rfl rfl rfl) (Weak.nilOwn 7 7 32 rfl rfl hpos), K, H0, [], rfl, hp2, hKs, by rw [hp2.length_eq]; exact hp1, by rw [hKf]; rfl, by simpa using hKn, by rw [hp2.length_eq]; omega, rfl⟩ ?_
    rintro m s ⟨M, hs, out, rfl, hperm, hsrt, hhp, hout, hlen, hhl, hs0⟩
    cases hs with
    | nil =>
      have hM : M.flatten = [] := live_none (List.nil_perm.1 hperm)
      have ho : out = Z := by rw [← hout, hM]; exact (List.append_nil _).symm
      rw [ho] at hs0
      subst hs0
      refine Split.mk fun t ht => ?_
      cases t
      case true => cases ht
      exact Need.mk ⟨[], _, .same, rfl, rfl⟩ trivial
    | cons h0 tl =>
      obtain ⟨l0, p⟩ := h0
      have hl0 : l0 ≠ [] := live_ne (hperm.mem_iff.1 (List.mem_cons_self ..))
      have hex : ∃ x t, l0 = x :: t := List.exists_cons_of_ne_nil hl0
      obtain ⟨x, t, hl0e⟩ := hex
      subst hl0e
      obtain ⟨M', m1, m2, m3, m4, m5⟩ := live_round hperm hsrt hhp
      have hout2 : (out ++ [x]) ++ isort eLess M'.flatten = Z := by rw [← hout, m2]; simp
      have hlen2 : (out ++ [x]).length + M'.flatten.length ≤ 1048576 := by rw [List.length_append, List.length_singleton]; omega
      have hhl2 : tl.length + 1 ≤ 1048576 := hhl
      have hne : ∀ a ∈ tl, a.1 ≠ [] := fun a ha => live_ne (hperm.mem_iff.1 (List.mem_cons_of_mem _ ha))
      have hn0 : (0 : Int) ≤ 0 ∧ (0 : Int) < (((((x :: t, p) : Hd1) :: tl).map encH).length : Nat) := by rw [List.length_map, List.length_cons]; omega
      have hcut : (((x :: t).map Ent.enc).drop (1 : Int).toNat).take ((((x :: t).map Ent.enc).length : Int) - 1).toNat = t.map Ent.enc := by
        rw [List.length_map, List.length_cons]
        exact List.take_of_length_le (by show (t.map Ent.enc).length ≤ _; rw [List.length_map]; omega)
      have hrows : (((t, p) : Hd1) :: tl).map encH = [C.sl ((((x :: t).map Ent.enc).drop (1 : Int).toNat).take ((((x :: t).map Ent.enc).length : Int) - 1).toNat), vi (p : Nat)] :: tl.map encH := by rw [hcut]; rfl
      have hneed : (0 : Int) ≤ 1 ∧ (1 : Int) ≤ (((x :: t).map Ent.enc).length : Nat) ∧ (((x :: t).map Ent.enc).length : Int) ≤ (((x :: t).map Ent.enc).length : Nat) ∧ ∀ r ∈ (x :: t).map Ent.enc, r.length = 5 := ⟨by omega, by rw [List.length_map, List.length_cons]; omega, by omega, lenE _⟩
      have htl : ((((x :: t).map Ent.enc).drop (1 : Int).toNat).take ((((x :: t).map Ent.enc).length : Int) - 1).toNat).length = t.length := by rw [hcut, List.length_map]
      by_cases ht0 : t = []
      · have hP := heap_Pop ((t, p) :: tl) (by simp) (by simp; omega) (fun k hk hkl => by
          cases k with
          | zero => omega
          | succ k => exact hne _ (getH_mem (by simpa using hkl)))
        obtain ⟨q1, q2⟩ := pop_ok (a := (t, p)) hhp
        have hex : ∃ H, popF ((t, p) :: tl) = H := ⟨_, rfl⟩
        obtain ⟨H, hH⟩ := hex
        rw [hH] at hP q1 q2
        rw [hrows] at hP
        subst hs0
        refine Split.mk fun b ht => ?_
        cases b
        case false => rw [decide_eq_false_iff_not] at ht; exact absurd hn0.2 ht
        refine Need.mk hn0 ?_
        refine Row.mk _ rfl ?_
        refine Need.mk (by decide) ?_
        refine Row.mk _ rfl ?_
        refine Need.mk (sizeOk _ _ out [x] rfl rfl (by simp; omega)) ?_
        refine Need.mk hn0 ?_
        refine Row.mk _ rfl ?_
        refine Need.mk hneed ?_
        refine Need.mk hn0 ?_
        refine Row.mk _ rfl ?_
        refine Need.mk rfl ?_
        refine Need.mk hn0 ?_
        refine Row.mk _ rfl ?_
        refine Split.mk fun b ht => ?_
        rw [htl] at ht
        cases b
        case false => rw [ht0] at ht; cases ht
        refine ACall.mk _ _ hP ?_
        refine ⟨M'.flatten.length, _, by omega, Weak.nrm [false, false, false, true, false, false, false, true] [(3, 3), (42, 7)] rfl rfl rfl, M', H, out ++ [x], rfl, q2.trans (m4 ht0), m1, by rw [q2.length_eq]; exact q1, hout2, hlen2, by rw [q2.length_eq]; omega, ?_⟩
        refine Eq.trans (b := ⟨none :: none :: none :: some (.bx 3 0) :: none :: none :: none :: some (.one (.ref 7 0 (.cell 0))) :: List.replicate 54 none, absent :: absent :: absent :: ⟨0, 0, some [.us 96 (H.map encH)]⟩ :: absent :: absent :: absent :: ⟨0, 1, some [.us 32 (out.map Ent.enc ++ [x.enc])]⟩ :: List.replicate 54 absent⟩) rfl ?_
        rw [show out.map Ent.enc ++ [x.enc] = (out ++ [x]).map Ent.enc by rw [List.map_append]; rfl]
      · have hF := heap_Fix ((t, p) :: tl) (tl.length + 1) rfl (by simp; omega) (fun a ha => by
          rcases List.mem_cons.1 ha with h | h
          · subst h; exact ht0
          · exact hne a h)
        obtain ⟨q1, q2⟩ := fix_ok (a := (t, p)) hhp
        have hex : ∃ H, downF hl hd0 (tl.length + 1) ((t, p) :: tl) 0 (tl.length + 1) = H := ⟨_, rfl⟩
        obtain ⟨H, hH⟩ := hex
        rw [hH] at hF q1 q2
        rw [hrows] at hF
        subst hs0
        refine Split.mk fun b ht => ?_
        cases b
        case false => rw [decide_eq_false_iff_not] at ht; exact absurd hn0.2 ht
        refine Need.mk hn0 ?_
        refine Row.mk _ rfl ?_
        refine Need.mk (by decide) ?_
        refine Row.mk _ rfl ?_
        refine Need.mk (sizeOk _ _ out [x] rfl rfl (by simp; omega)) ?_
        refine Need.mk hn0 ?_
        refine Row.mk _ rfl ?_
        refine Need.mk hneed ?_
        refine Need.mk hn0 ?_
        refine Row.mk _ rfl ?_
        refine Need.mk rfl ?_
        refine Need.mk hn0 ?_
        refine Row.mk _ rfl ?_
        refine Split.mk fun b ht => ?_
        rw [htl] at ht
        cases b
        case true => rw [beq_iff_eq] at ht; exact absurd (List.eq_nil_of_length_eq_zero (by omega)) ht0
        refine ACall.mk _ _ hF ?_
        refine ⟨M'.flatten.length, _, by omega, Weak.nrm [false, false, false, true, false, false, false, true] [(3, 3), (42, 7)] rfl rfl rfl, M', H, out ++ [x], rfl, q2.trans (m5 ht0), m1, by rw [q2.length_eq]; exact q1, hout2, hlen2, by rw [q2.length_eq]; simp; omega, ?_⟩
        refine Eq.trans (b := ⟨none :: none :: none :: some (.bx 3 0) :: none :: none :: none :: some (.one (.ref 7 0 (.cell 0))) :: List.replicate 54 none, absent :: absent :: absent :: ⟨0, 0, some [.us 96 (H.map encH)]⟩ :: absent :: absent :: absent :: ⟨0, 1, some [.us 32 (out.map Ent.enc ++ [x.enc])]⟩ :: List.replicate 54 absent⟩) rfl ?_
        rw [show out.map Ent.enc ++ [x.enc] = (out ++ [x]).map Ent.enc by rw [List.map_append]; rfl]
  · have hia : i < L.length := by omega
    have hrow := map_get encX L i hia
    have hln : (L[i].map Ent.enc).length = L[i].length := List.length_map ..
    have hle := hmem L[i] (List.getElem_mem hia)
    have hlv := live_take (L := K) (i := i) (by omega)
    rw [hKi i hia] at hlv
    have hht := hlt i
    have hex : ∃ l, L[i] = l := ⟨_, rfl⟩
    obtain ⟨l, hle0⟩ := hex
    rw [hle0] at hrow hln hle hlv
    have hex : ∃ hs, live (K.take i) = hs := ⟨_, rfl⟩
    obtain ⟨hs1, hhs⟩ := hex
    rw [hhs] at hlv hht hs
    have hSt := slices_SortStable 63 eLess eLess_wk entryOrder_ok l (by omega)
    by_cases hl0 : l = []
    · have hlv2 : live (K.take (i + 1)) = hs1 := by rw [hlv, hl0]; exact List.append_nil _
      subst hs
      refine Split.mk fun t ht => ?_
      rw [hn] at ht
      cases t
      case false => rw [decide_eq_false_iff_not] at ht; omega
      refine Need.mk (by omega) ?_
      refine Row.mk _ hrow ?_
      refine Split.mk fun t ht => ?_
      rw [hln] at ht
      cases t
      case true => rw [decide_eq_true_iff, hl0] at ht; cases ht
      refine Num.mk _ (wrapS (by omega)) ?_
      exact ⟨L.length - (i + 1), _, by omega, Weak.nrm [false, false, false, true, false, false, false, false, true, true, true] [(3, 3)] rfl rfl rfl, i + 1, by omega, rfl, by rw [hlv2]; rfl⟩
    · have hlpos : 0 < l.length := List.length_pos_iff.2 hl0
      have hse : (isort eLess l).isEmpty = false := by
        have := isort_len eLess l
        cases hx : isort eLess l with
        | nil => rw [hx] at this; simp at this; omega
        | cons _ _ => rfl
      have hlv2 : live (K.take (i + 1)) = hs1 ++ [(isort eLess l, i)] := by rw [hlv, hse]; rfl
      have hex : ∃ ys, isort eLess l = ys := ⟨_, rfl⟩
      obtain ⟨ys, hy⟩ := hex
      rw [hy] at hSt hlv2
      subst hs
      refine Split.mk fun t ht => ?_
      rw [hn] at ht
      cases t
      case false => rw [decide_eq_false_iff_not] at ht; omega
      refine Need.mk (by omega) ?_
      refine Row.mk _ hrow ?_
      refine Split.mk fun t ht => ?_
      rw [hln] at ht
      cases t
      case false => rw [decide_eq_false_iff_not] at ht; omega
      refine Need.mk ⟨plainE l, lenE l⟩ ?_
      refine Need.mk (sizeOk _ _ [] l rfl rfl (by simp; omega)) ?_
      refine ACall.mk _ _ hSt ?_
      refine Fz.mk _ (frzE ys) ?_
      refine Need.mk (sizeH _ _ hs1 _ _ rfl rfl (by decide) (by omega)) ?_
      refine Num.mk _ (wrapS (by omega)) ?_
      refine ⟨L.length - (i + 1), _, by omega, Weak.nrm [false, false, false, true, false, false, false, false, true, true, true] [(3, 3)] rfl rfl rfl, i + 1, by omega, rfl, ?_⟩
      rw [hlv2]
      refine Eq.trans (b := ⟨none :: none :: none :: some (.bx 3 0) :: none :: none :: none :: none :: some (sl (L.map encX)) :: some (av (.int .i64 ((L.map encX).length : Nat))) :: some (av (.int .i64 (i + 1 : Nat))) :: List.replicate 51 none, absent :: absent :: absent :: ⟨0, 0, some [.us 96 (hs1.map encH ++ [encH (ys, i)])]⟩ :: List.replicate 58 absent⟩) rfl ?_
      rw [show hs1.map encH ++ [encH (ys, i)] = (hs1 ++ [(ys, i)]).map encH by rw [List.map_append]; rfl]
end Go.Proofs.Ytlmdheeammfihaa

namespace Go.Proofs.Ytlmdheeammfihaa
open Go Go.Proofs Ev
set_option maxRecDepth 100000
set_option linter.unusedSimpArgs false
set_option linter.unusedVariables false
theorem sort_Search (f : FuncId) (a : Rn) (b : Ent) (p : Nat → Bool) (n k : Nat) (hn : n ≤ 1099511627776) (hk : k ≤ n) (h1 : ∀ i, i < k → p i = false) (h2 : ∀ i, k ≤ i → i < n → p i = true)
    (hf : ∀ i : Nat, i < n → AFnK Try.prog f [av (.int .i64 i), .bx 0 0, .bx 1 0] [a.enc, b.enc] [0, 0] (rb (p i)) [a.enc, b.enc]) :
    AFnK Try.prog 65 [av (.int .i64 n), .clo f [.bx 0 0, .bx 1 0]] [a.enc, b.enc] [0, 0] (.one (vi k)) [a.enc, b.enc] := by
  refine AFnK.introX (E := En 2 md0) (en_ok 2 md0) Try.func65 rfl rfl rfl fun _ _ => ?_
  let S : Nat → Nat → St := fun i j => ⟨some (av (.int .i64 n)) :: some (.clo f [.bx 0 0, .bx 1 0]) :: none :: none :: none :: some (av (.int .i64 i)) :: some (av (.int .i64 j)) :: List.replicate 19 none, ⟨0, 0, some a.enc⟩ :: ⟨0, 0, some b.enc⟩ :: List.replicate 26 absent⟩
  refine ALoop.mk (fun m s => ∃ i j : Nat, i ≤ k ∧ k ≤ j ∧ j ≤ n ∧ m = j - i ∧ s = S i j)
    ⟨n, _, Weak.nrm [true, true, false, false, false, true, true] [(0, 0), (1, 1)] rfl rfl rfl, 0, n, Nat.zero_le _, hk, Nat.le_refl _, rfl, rfl⟩ ?_
  rintro m s ⟨i, j, hi, hj, hjn, rfl, hs⟩
  by_cases hij : i < j
  · have hm1 : i ≤ (i + j) / 2 := by omega
    have hm2 : (i + j) / 2 < j := by omega
    have hc := hf ((i + j) / 2) (by omega)
    have up : p ((i + j) / 2) = false → (i + j) / 2 + 1 ≤ k := fun h => by
      refine Nat.lt_of_not_le fun hle => ?_
      rw [h2 _ hle (by omega)] at h; cases h
    have dn : p ((i + j) / 2) = true → k ≤ (i + j) / 2 := fun h => by
      refine Nat.le_of_not_lt fun hle => ?_
      rw [h1 _ hle] at h; cases h
    subst hs
    refine Split.mk fun t ht => ?_
    cases t
    · simp at ht; omega
    refine Num.mk ((i + j : Nat) : Int) (wrapI' (by omega) (by omega)) ?_
    refine Num.mk _ (wrapU (by omega)) ?_
    refine Need.mk (by decide) ?_
    refine Num.mk _ (half (by omega)) ?_
    refine ACall.mk _ _ hc ?_
    refine Split.mk fun t h3 => ?_
    cases t
    · refine Num.mk _ (wrapS (by omega)) ?_
      exact ⟨j - ((i + j) / 2 + 1), _, by omega, Weak.nrm [true, true, false, false, false, true, true] [(0, 0), (1, 1)] rfl rfl rfl, (i + j) / 2 + 1, j, up h3, hj, hjn, rfl, rfl⟩
    · exact ⟨(i + j) / 2 - i, _, by omega, Weak.nrm [true, true, false, false, false, true, true] [(0, 0), (1, 1)] rfl rfl rfl, i, (i + j) / 2, hi, dn h3, by omega, rfl, rfl⟩
  · have he : i = k := by omega
    subst hs
    refine Split.mk fun t ht => ?_
    cases t
    · exact Need.mk ⟨[], _, .same, by rw [he]; rfl, rfl⟩ trivial
    · simp at ht; omega
theorem impl_RunFind1 (r : Rn) (q : Ent) (i : Nat) (h : i < r.ents.length) : AFnK Try.prog 66 [av (.int .i64 i), .bx 0 0, .bx 1 0] [r.enc, q.enc] [0, 0] (rb (!eLess r.ents[i] q)) [r.enc, q.enc] := by
  refine AFnK.introX (E := En 2 md0) (en_ok 2 md0) Try.func66 rfl rfl rfl fun _ _ => ?_
  have hn : (r.ents.map Ent.enc).length = r.ents.length := List.length_map ..
  refine Need.mk (by omega) ?_
  refine Row.mk _ (map_get _ r.ents i h) ?_
  refine ACall.mk _ _ (impl_EntryLess r.ents[i] q) ?_
  refine Split.mk fun t ht => ?_
  refine Need.mk rfl ?_
  exact Need.mk ⟨[], _, .same, by rw [ht]; rfl, rfl⟩ trivial
end Go.Proofs.Ytlmdheeammfihaa

namespace Go.Proofs.Ytlmdheeammfihaa
open Go Go.Proofs Ev
set_option maxRecDepth 100000
set_option linter.unusedSimpArgs false
set_option linter.unusedVariables false
set_option maxHeartbeats 1000000
def mdv (l : List FuncId) (g : List FuncId) : FuncId → Nat := fun f => bif l.elem f then 1 else bif g.elem f then 2 else 0
theorem spec_l4Run (xs : List Ent) (hx : OkE xs) (hl : xs.length ≤ 1099511627776) : AFn Try.prog 116 [sl (xs.map Ent.enc)] [] (.agg [.sl (xs.map Ent.enc), vi (rmask xs : Nat)]) [] := by
  refine AFn.introX (E := En 0 md0) (en_ok 0 md0) Try.func116 rfl rfl rfl fun _ _ => ?_
  refine ACall.mk _ _ (spec_l4Mask xs hx hl) ?_
  exact Need.mk ⟨[], _, .same, rfl, rfl⟩ trivial
end Go.Proofs.Ytlmdheeammfihaa

namespace Go.Proofs.Ytlmdheeammfihaa
open Go Go.Proofs Ev
set_option maxRecDepth 100000
set_option linter.unusedSimpArgs false
set_option linter.unusedVariables false
set_option maxHeartbeats 1000000
theorem spec_l4Find (xs : List Ent) (key : ByteArray) (seq : Int) (hx : xs.length ≤ 1048576) : AFn Try.prog 68 [sl (xs.map Ent.enc), av (.string key), av (.int .i64 seq)] [] (.one (.us 32 ((findE xs key seq).map Ent.enc))) [] := by
  refine AFn.introX (E := En 0 md0) (en_ok 0 _) Try.func68 rfl rfl rfl fun _ _ => ?_
  have hn : (xs.map Ent.enc).length = xs.length := List.length_map ..
  let S : Nat → List Ent → Nat → St := fun kd ys i => ⟨some (sl (xs.map Ent.enc)) :: some (av (.string key)) :: some (av (.int .i64 seq)) :: none :: none :: none :: none :: some (.one (.ref 7 0 (.cell 0))) :: some (av (.int .i64 i)) :: List.replicate 31 none, absent :: absent :: absent :: absent :: absent :: absent :: absent :: ⟨0, kd, some [.us 32 (ys.map Ent.enc)]⟩ :: List.replicate 32 absent⟩
  refine ALoop.mk (fun m s => ∃ i kd : Nat, i ≤ xs.length ∧ m = xs.length - i ∧ (kd = 1 ∨ kd = 2) ∧ s = S kd (findE (xs.take i) key seq) i)
    ⟨xs.length, _, Weak.nrm [true, true, true, false, false, false, false, true, true] [(9, 7)] rfl rfl rfl, 0, 2, Nat.zero_le _, rfl, .inr rfl, rfl⟩ ?_
  rintro m s ⟨i, kd, hi, rfl, hkd, hs⟩
  by_cases hin : i = xs.length
  · subst hin
    rw [List.take_length] at hs
    subst hs
    refine Split.mk fun t ht => ?_
    rw [hn] at ht
    cases t
    · exact Need.mk ⟨[], _, .same, rfl, rfl⟩ trivial
    · simp at ht
  · have hia : i < xs.length := by omega
    have he := findE_snoc (xs.take i) xs[i] key seq
    rw [← List.take_succ_eq_append_getElem hia] at he
    have hlen : (findE (xs.take i) key seq).length ≤ 1048576 := Nat.le_trans (findE_len _ _ _) (by rw [List.length_take]; omega)
    have hex : ∃ ys, findE (xs.take i) key seq = ys := ⟨_, rfl⟩
    obtain ⟨ys, hy⟩ := hex
    rw [hy] at he hlen hs
    by_cases hk : xs[i].key = key
    · by_cases hq : xs[i].seq ≤ seq
      · simp only [hk, hq, decide_true, Bool.and_self, cond_true] at he
        subst hs
        refine Split.mk fun t ht => ?_
        rw [hn] at ht
        cases t
        · simp at ht; omega
        refine Need.mk (by omega) ?_
        refine Row.mk _ (map_get _ xs i hia) ?_
        refine Split.mk fun t ht2 => ?_
        cases t
        · simp [hk] at ht2
        refine Need.mk (by omega) ?_
        refine Row.mk _ (map_get _ xs i hia) ?_
        refine Split.mk fun t ht3 => ?_
        cases t
        · simp [hq] at ht3
        refine Need.mk (by omega) ?_
        refine Row.mk _ (map_get _ xs i hia) ?_
        refine Need.mk (sizeOk _ _ ys [xs[i]] rfl rfl (by simp; omega)) ?_
        refine Num.mk _ (wrapS (by omega)) ?_
        refine ⟨xs.length - (i + 1), _, by omega, Weak.nrm [true, true, true, false, false, false, false, true, true] [(38, 7)] rfl rfl rfl, i + 1, 1, by omega, rfl, .inl rfl, ?_⟩
        rw [he]
        refine Eq.trans (b := ⟨some (sl (xs.map Ent.enc)) :: some (av (.string key)) :: some (av (.int .i64 seq)) :: none :: none :: none :: none :: some (.one (.ref 7 0 (.cell 0))) :: some (av (.int .i64 (i + 1 : Nat))) :: List.replicate 31 none, absent :: absent :: absent :: absent :: absent :: absent :: absent :: ⟨0, 1, some [.us 32 (ys.map Ent.enc ++ [xs[i].enc])]⟩ :: List.replicate 32 absent⟩) rfl ?_
        rw [show ys.map Ent.enc ++ [xs[i].enc] = (ys ++ [xs[i]]).map Ent.enc by rw [List.map_append]; rfl]
      · simp only [hk, hq, decide_true, decide_false, Bool.and_false, cond_false, List.append_nil] at he
        subst hs
        refine Split.mk fun t ht => ?_
        rw [hn] at ht
        cases t
        · simp at ht; omega
        refine Need.mk (by omega) ?_
        refine Row.mk _ (map_get _ xs i hia) ?_
        refine Split.mk fun t ht2 => ?_
        cases t
        · simp [hk] at ht2
        refine Need.mk (by omega) ?_
        refine Row.mk _ (map_get _ xs i hia) ?_
        refine Split.mk fun t ht3 => ?_
        cases t
        case true => simp [hq] at ht3
        refine Num.mk _ (wrapS (by omega)) ?_
        exact ⟨xs.length - (i + 1), _, by omega, Weak.nrm [true, true, true, false, false, false, false, true, true] [(7, 7)] rfl rfl rfl, i + 1, kd, by omega, rfl, hkd, by rw [he]; rfl⟩
    · simp only [hk, decide_false, Bool.false_and, cond_false, List.append_nil] at he
      subst hs
      refine Split.mk fun t ht => ?_
      rw [hn] at ht
      cases t
      · simp at ht; omega
      refine Need.mk (by omega) ?_
      refine Row.mk _ (map_get _ xs i hia) ?_
      refine Split.mk fun t ht2 => ?_
      cases t
      case true => rw [bytes_beq] at ht2; exact absurd (of_decide_eq_true ht2) hk
      refine Num.mk _ (wrapS (by omega)) ?_
      exact ⟨xs.length - (i + 1), _, by omega, Weak.nrm [true, true, true, false, false, false, false, true, true] [(7, 7)] rfl rfl rfl, i + 1, kd, by omega, rfl, hkd, by rw [he]; rfl⟩
theorem spec_RunFind (r : Rn) (key : ByteArray) (seq : Int) (hr : OkE r.ents) (hx : r.ents.length ≤ 1048576) : AFn Try.prog 22 [.agg (r.enc.map .c), av (.string key), av (.int .i64 seq)] [] (.one (.us 32 ((runFind r key seq).map Ent.enc))) [] := by
  refine AFn.introX (E := En 0 md0) (en_ok 0 _) Try.func22 rfl rfl rfl fun _ _ => ?_
  refine ACall.mk _ _ (spec_RunOk r hr (by omega)) ?_
  refine Split.mk fun t h1 => ?_
  cases t
  · exact Need.mk ⟨[], _, .same, by rw [runFind, h1]; rfl, rfl⟩ trivial
  refine ACall.mk _ _ (spec_l4Find r.ents key seq hx) ?_
  exact Need.mk ⟨[], _, .same, by rw [runFind, h1]; rfl, rfl⟩ trivial
theorem impl_RunFind (r : Rn) (key : ByteArray) (seq : Int) (hr : OkE r.ents) (hk : key.size ≤ maxLen) : AFn Try.prog 19 [.agg (r.enc.map .c), av (.string key), av (.int .i64 seq)] [] (.one (.us 32 ((runFind r key seq).map Ent.enc))) [] := by
  refine AFn.introX (E := En 0 md0) (en_ok 0 _) Try.func19 rfl rfl rfl fun _ _ => ?_
  have hpos : 0 < Try.prog.cellsOf 32 := pos_of tab_ok (t := 32) rfl
  by_cases hm : runMay r key = true
  · have hok := runMay_ok hm
    obtain ⟨l1, l2, l3, l4⟩ := runOk_len hok
    have hp := pw_of_ord l3
    have hn : (r.ents.map Ent.enc).length = r.ents.length := List.length_map ..
    have hle := fromE_le r.ents key seq
    have hfind := findE_eq hp key seq
    have hres : runFind r key seq = findE r.ents key seq := by rw [runFind, hok]; rfl
    rw [hres]
    have hs1 : ∀ i, i < fromE r.ents key seq → (fun i => !eLess (r.ents.getD i ent0) (probe key seq)) i = false := fun i hi => by
      have h' : i < r.ents.length := by omega
      have := from_lt hi h'
      simp [List.getD_eq_getElem?_getD, h', this]
    have hs2 : ∀ i, fromE r.ents key seq ≤ i → i < r.ents.length → (fun i => !eLess (r.ents.getD i ent0) (probe key seq)) i = true := fun i hi h' => by
      have := from_ge hp hi h'
      simp [List.getD_eq_getElem?_getD, h', this]
    have hcl : ∀ i : Nat, i < r.ents.length → AFnK Try.prog 66 [av (.int .i64 i), .bx 0 0, .bx 1 0] [r.enc, (probe key seq).enc] [0, 0] (rb ((fun i => !eLess (r.ents.getD i ent0) (probe key seq)) i)) [r.enc, (probe key seq).enc] := fun i h' => by
      have := impl_RunFind1 r (probe key seq) i h'
      have e : r.ents.getD i ent0 = r.ents[i] := by simp [List.getD_eq_getElem?_getD, h']
      show AFnK _ _ _ _ _ (rb (!eLess (r.ents.getD i ent0) (probe key seq))) _
      rw [e]; exact this
    have hS := sort_Search 66 r (probe key seq) _ r.ents.length (fromE r.ents key seq) (by omega) hle hs1 hs2 hcl
    have hex : ∃ k, fromE r.ents key seq = k := ⟨_, rfl⟩
    obtain ⟨k, hk2⟩ := hex
    rw [hk2] at hS hle hfind
    have hex : ∃ ys, r.ents.drop k = ys := ⟨_, rfl⟩
    obtain ⟨ys, hy⟩ := hex
    have hR : ((r.ents.map Ent.enc).drop (k : Int).toNat).take (((r.ents.map Ent.enc).length : Int) - (k : Int)).toNat = ys.map Ent.enc := by
      rw [Int.toNat_natCast, ← List.map_drop, hy]
      exact List.take_of_length_le (by rw [List.length_map, ← hy, List.length_drop, hn]; omega)
    rw [hy] at hfind
    have hyl : ys.length ≤ 150 := by rw [← hy, List.length_drop]; omega
    have hyn : (ys.map Ent.enc).length = ys.length := List.length_map ..
    rw [← hn] at hS
    let S : List (List C) → List Ent → Nat → St := fun R zs i => ⟨none :: some (av (.string key)) :: none :: none :: none :: none :: none :: none :: none :: some (.one (.ref 9 0 (.cell 0))) :: none :: none :: none :: none :: none :: none :: none :: none :: none :: none :: none :: none :: none :: none :: none :: none :: none :: some (sl R) :: some (av (.int .i64 R.length)) :: some (av (.int .i64 i)) :: List.replicate 13 none, absent :: absent :: absent :: absent :: absent :: absent :: absent :: absent :: absent :: ⟨0, 1, some [.us 32 (zs.map Ent.enc)]⟩ :: List.replicate 33 absent⟩
    refine ACall.mk _ _ (impl_RunMay r key hr hk) ?_
    refine Split.mk fun t h1 => ?_
    cases t
    · rw [hm] at h1; cases h1
    refine ACall.mk _ _ hS ?_
    refine Need.mk ⟨by omega, by omega, by omega, lenE r.ents⟩ ?_
    refine ALoop.mk (fun m s => ∃ i : Nat, i ≤ ys.length ∧ m = ys.length - i ∧ (∀ x ∈ ys.take i, decide (x.key = key) = true) ∧ s = S (ys.map Ent.enc) (ys.take i) i)
      ⟨ys.length, _, Weak.trans (Weak.nrm [false, true, false, false, false, false, false, false, false, true, false, false, false, false, false, false, false, false, false, false, false, false, false, false, false, false, false, true, true, true] [] rfl rfl rfl) (Weak.nilOwn 9 9 32 rfl rfl hpos), 0, Nat.zero_le _, rfl, by simp, congrArg (fun R => S R [] 0) hR⟩ ?_
    rintro m s ⟨i, hi, rfl, hall, hs⟩
    by_cases hin : i = ys.length
    · have htw := tw_take (fun e => decide (e.key = key)) ys i (by omega) hall (fun h => absurd h (by omega))
      rw [← htw, hfind] at hs
      subst hs
      refine Split.mk fun t ht => ?_
      rw [hyn] at ht
      cases t
      · exact Need.mk ⟨[], _, .same, rfl, rfl⟩ trivial
      · simp at ht; omega
    · have hia : i < ys.length := by omega
      by_cases hkk : ys[i].key = key
      · have hall' : ∀ x ∈ ys.take (i + 1), decide (x.key = key) = true := by
          rw [List.take_succ_eq_append_getElem hia]
          intro x hx
          rcases List.mem_append.1 hx with hx | hx
          · exact hall x hx
          · rw [List.mem_singleton.1 hx]; exact decide_eq_true hkk
        have htl : (ys.take i).length ≤ 150 := by rw [List.length_take]; omega
        have hsucc := List.take_succ_eq_append_getElem hia
        have hex : ∃ zs, ys.take i = zs := ⟨_, rfl⟩
        obtain ⟨zs, hz⟩ := hex
        rw [hz] at htl hsucc hs
        subst hs
        refine Split.mk fun t ht => ?_
        rw [hyn] at ht
        cases t
        · simp at ht; omega
        refine Need.mk (by omega) ?_
        refine Row.mk _ (map_get _ ys i hia) ?_
        refine Split.mk fun t ht2 => ?_
        rw [bytes_beq] at ht2
        cases t
        case true => simp [hkk] at ht2
        refine Need.mk (sizeOk _ _ zs [ys[i]] rfl rfl (by simp; omega)) ?_
        refine Num.mk _ (wrapS (by omega)) ?_
        refine ⟨ys.length - (i + 1), _, by omega, Weak.nrm [false, true, false, false, false, false, false, false, false, true, false, false, false, false, false, false, false, false, false, false, false, false, false, false, false, false, false, true, true, true] [(40, 9)] rfl rfl rfl, i + 1, by omega, rfl, hall', ?_⟩
        rw [hsucc]
        refine Eq.trans (b := S (ys.map Ent.enc) (zs ++ [ys[i]]) (i + 1)) ?_ rfl
        show (⟨_, _⟩ : St) = ⟨_, _⟩
        rw [List.map_append]; rfl
      · have htw := tw_take (fun e => decide (e.key = key)) ys i hi hall (fun h => decide_eq_false hkk)
        rw [← htw, hfind] at hs
        subst hs
        refine Split.mk fun t ht => ?_
        rw [hyn] at ht
        cases t
        · simp at ht; omega
        refine Need.mk (by omega) ?_
        refine Row.mk _ (map_get _ ys i hia) ?_
        refine Split.mk fun t ht2 => ?_
        rw [bytes_beq] at ht2
        cases t
        · simp [hkk] at ht2
        exact Need.mk ⟨[], _, .same, rfl, rfl⟩ trivial
  · have hm' : runMay r key = false := by simpa using hm
    have hnil := runMay_not seq hm'
    rw [hnil]
    refine ACall.mk _ _ (impl_RunMay r key hr hk) ?_
    refine Split.mk fun t h1 => ?_
    cases t
    · exact Need.mk ⟨[false], _, .nil hpos .same, rfl, rfl⟩ trivial
    · rw [hm'] at h1; cases h1
end Go.Proofs.Ytlmdheeammfihaa

namespace Go.Proofs.Ytlmdheeammfihaa
open Go Go.Proofs Ev
set_option maxRecDepth 100000
set_option linter.unusedSimpArgs false
set_option linter.unusedVariables false
set_option maxHeartbeats 1000000
theorem spec_CellDo (c : Cel) (e : Ent) : AFn Try.prog 170 [.agg (c.enc.map .c), .agg (e.enc.map .c)] [] (.agg (cellDo c e).enc) [] := by
  by_cases h1 : e.kind = 1
  · have hv : cellDo c e = ⟨true, e.text, e.n⟩ := if_pos h1
    rw [hv]
    refine AFn.introX (E := En 0 md0) (en_ok 0 md0) Try.func170 rfl rfl rfl fun _ _ => ?_
    refine Split.mk fun t h => ?_
    cases t
    case false => rw [beq_eq_false_iff_ne] at h; exact absurd h1 h
    exact Need.mk ⟨[], _, .same, rfl, rfl⟩ trivial
  · by_cases h2 : e.kind = 2
    · have hv : cellDo c e = cel0 := by unfold cellDo; rw [if_neg h1, if_pos h2]
      rw [hv]
      refine AFn.introX (E := En 0 md0) (en_ok 0 md0) Try.func170 rfl rfl rfl fun _ _ => ?_
      refine Split.mk fun t h => ?_
      cases t
      case true => rw [beq_iff_eq] at h; exact absurd h h1
      refine Split.mk fun t h => ?_
      cases t
      case false => rw [beq_eq_false_iff_ne] at h; exact absurd h2 h
      exact Need.mk ⟨[], _, .same, rfl, rfl⟩ trivial
    · by_cases h3 : e.kind = 3
      · have hv : cellDo c e = ⟨true, c.text, IntKind.i64.wrap (c.n + e.n)⟩ := by unfold cellDo; rw [if_neg h1, if_neg h2, if_pos h3]
        rw [hv]
        refine AFn.introX (E := En 0 md0) (en_ok 0 md0) Try.func170 rfl rfl rfl fun _ _ => ?_
        refine Split.mk fun t h => ?_
        cases t
        case true => rw [beq_iff_eq] at h; exact absurd h h1
        refine Split.mk fun t h => ?_
        cases t
        case true => rw [beq_iff_eq] at h; exact absurd h h2
        refine Split.mk fun t h => ?_
        cases t
        case false => rw [beq_eq_false_iff_ne] at h; exact absurd h3 h
        refine Num.mk _ rfl ?_
        exact Need.mk ⟨[], _, .same, rfl, rfl⟩ trivial
      · have hv : cellDo c e = c := by unfold cellDo; rw [if_neg h1, if_neg h2, if_neg h3]
        rw [hv]
        refine AFn.introX (E := En 0 md0) (en_ok 0 md0) Try.func170 rfl rfl rfl fun _ _ => ?_
        refine Split.mk fun t h => ?_
        cases t
        case true => rw [beq_iff_eq] at h; exact absurd h h1
        refine Split.mk fun t h => ?_
        cases t
        case true => rw [beq_iff_eq] at h; exact absurd h h2
        refine Split.mk fun t h => ?_
        cases t
        case true => rw [beq_iff_eq] at h; exact absurd h h3
        exact Need.mk ⟨[], _, .same, rfl, rfl⟩ trivial
end Go.Proofs.Ytlmdheeammfihaa

namespace Go.Proofs.Ytlmdheeammfihaa
open Go Go.Proofs Ev
set_option maxRecDepth 100000
set_option linter.unusedSimpArgs false
set_option linter.unusedVariables false
set_option maxHeartbeats 1000000
theorem put_on (s : ByteArray) (n : Int) (c : Cel) : AFn Try.prog 196 [.agg [.c (vs s), .c (vi n)], .agg (c.enc.map .c)] [] (.agg (Cel.enc ⟨true, s, n⟩)) [] := by
  refine AFn.introX (E := En 0 md0) (en_ok 0 md0) Try.func196 rfl rfl rfl fun _ _ => ?_
  exact Need.mk ⟨[], _, .same, rfl, rfl⟩ trivial
theorem del_on (c : Cel) : AFn Try.prog 197 [.agg [], .agg (c.enc.map .c)] [] (.agg (Cel.enc cel0)) [] := by
  refine AFn.introX (E := En 0 md0) (en_ok 0 md0) Try.func197 rfl rfl rfl fun _ _ => ?_
  exact Need.mk ⟨[], _, .same, rfl, rfl⟩ trivial
theorem add_on (n : Int) (c : Cel) : AFn Try.prog 198 [.agg [.c (vi n)], .agg (c.enc.map .c)] [] (.agg (Cel.enc ⟨true, c.text, IntKind.i64.wrap (c.n + n)⟩)) [] := by
  refine AFn.introX (E := En 0 md0) (en_ok 0 md0) Try.func198 rfl rfl rfl fun _ _ => ?_
  refine Num.mk _ rfl ?_
  exact Need.mk ⟨[], _, .same, rfl, rfl⟩ trivial
theorem no_on (c : Cel) : AFn Try.prog 199 [.agg [], .agg (c.enc.map .c)] [] (.agg c.enc) [] := by
  refine AFn.introX (E := En 0 md0) (en_ok 0 md0) Try.func199 rfl rfl rfl fun _ _ => ?_
  exact Need.mk ⟨[], _, .same, rfl, rfl⟩ trivial
theorem deed_put (e : Ent) (h1 : e.kind = 1) : AFn Try.prog 130 [.agg (e.enc.map .c)] [] (.ifc 175 [vs e.text, vi e.n]) [] := by
  refine AFn.introX (E := En 0 md0) (en_ok 0 md0) Try.func130 rfl rfl rfl fun _ _ => ?_
  refine Split.mk fun t h => ?_
  cases t
  case false => rw [beq_eq_false_iff_ne] at h; exact absurd h1 h
  exact Need.mk ⟨[], _, .same, rfl, rfl⟩ trivial
theorem deed_del (e : Ent) (h1 : ¬ e.kind = 1) (h2 : e.kind = 2) : AFn Try.prog 130 [.agg (e.enc.map .c)] [] (.ifc 177 []) [] := by
  refine AFn.introX (E := En 0 md0) (en_ok 0 md0) Try.func130 rfl rfl rfl fun _ _ => ?_
  refine Split.mk fun t h => ?_
  cases t
  case true => rw [beq_iff_eq] at h; exact absurd h h1
  refine Split.mk fun t h => ?_
  cases t
  case false => rw [beq_eq_false_iff_ne] at h; exact absurd h2 h
  exact Need.mk ⟨[], _, .same, rfl, rfl⟩ trivial
theorem deed_add (e : Ent) (h1 : ¬ e.kind = 1) (h2 : ¬ e.kind = 2) (h3 : e.kind = 3) : AFn Try.prog 130 [.agg (e.enc.map .c)] [] (.ifc 179 [vi e.n]) [] := by
  refine AFn.introX (E := En 0 md0) (en_ok 0 md0) Try.func130 rfl rfl rfl fun _ _ => ?_
  refine Split.mk fun t h => ?_
  cases t
  case true => rw [beq_iff_eq] at h; exact absurd h h1
  refine Split.mk fun t h => ?_
  cases t
  case true => rw [beq_iff_eq] at h; exact absurd h h2
  refine Split.mk fun t h => ?_
  cases t
  case false => rw [beq_eq_false_iff_ne] at h; exact absurd h3 h
  exact Need.mk ⟨[], _, .same, rfl, rfl⟩ trivial
theorem deed_no (e : Ent) (h1 : ¬ e.kind = 1) (h2 : ¬ e.kind = 2) (h3 : ¬ e.kind = 3) : AFn Try.prog 130 [.agg (e.enc.map .c)] [] (.ifc 180 []) [] := by
  refine AFn.introX (E := En 0 md0) (en_ok 0 md0) Try.func130 rfl rfl rfl fun _ _ => ?_
  refine Split.mk fun t h => ?_
  cases t
  case true => rw [beq_iff_eq] at h; exact absurd h h1
  refine Split.mk fun t h => ?_
  cases t
  case true => rw [beq_iff_eq] at h; exact absurd h h2
  refine Split.mk fun t h => ?_
  cases t
  case true => rw [beq_iff_eq] at h; exact absurd h h3
  exact Need.mk ⟨[], _, .same, rfl, rfl⟩ trivial
theorem impl_CellDo (c : Cel) (e : Ent) : AFn Try.prog 78 [.agg (c.enc.map .c), .agg (e.enc.map .c)] [] (.agg (cellDo c e).enc) [] := by
  by_cases h1 : e.kind = 1
  · have hv : cellDo c e = ⟨true, e.text, e.n⟩ := if_pos h1
    rw [hv]
    have hD := deed_put e h1
    have hO := put_on e.text e.n c
    refine AFn.introX (E := En 0 md0) (en_ok 0 md0) Try.func78 rfl rfl rfl fun _ _ => ?_
    refine ACall.mk _ _ hD ?_
    refine ACall.mk _ _ hO ?_
    refine Need.mk rfl ?_
    exact Need.mk ⟨[], _, .same, rfl, rfl⟩ trivial
  · by_cases h2 : e.kind = 2
    · have hv : cellDo c e = cel0 := by unfold cellDo; rw [if_neg h1, if_pos h2]
      rw [hv]
      have hD := deed_del e h1 h2
      have hO := del_on c
      refine AFn.introX (E := En 0 md0) (en_ok 0 md0) Try.func78 rfl rfl rfl fun _ _ => ?_
      refine ACall.mk _ _ hD ?_
      refine ACall.mk _ _ hO ?_
      refine Need.mk rfl ?_
      exact Need.mk ⟨[], _, .same, rfl, rfl⟩ trivial
    · by_cases h3 : e.kind = 3
      · have hv : cellDo c e = ⟨true, c.text, IntKind.i64.wrap (c.n + e.n)⟩ := by unfold cellDo; rw [if_neg h1, if_neg h2, if_pos h3]
        rw [hv]
        have hD := deed_add e h1 h2 h3
        have hO := add_on e.n c
        refine AFn.introX (E := En 0 md0) (en_ok 0 md0) Try.func78 rfl rfl rfl fun _ _ => ?_
        refine ACall.mk _ _ hD ?_
        refine ACall.mk _ _ hO ?_
        refine Need.mk rfl ?_
        exact Need.mk ⟨[], _, .same, rfl, rfl⟩ trivial
      · have hv : cellDo c e = c := by unfold cellDo; rw [if_neg h1, if_neg h2, if_neg h3]
        rw [hv]
        have hD := deed_no e h1 h2 h3
        have hO := no_on c
        refine AFn.introX (E := En 0 md0) (en_ok 0 md0) Try.func78 rfl rfl rfl fun _ _ => ?_
        refine ACall.mk _ _ hD ?_
        refine ACall.mk _ _ hO ?_
        refine Need.mk rfl ?_
        exact Need.mk ⟨[], _, .same, rfl, rfl⟩ trivial
end Go.Proofs.Ytlmdheeammfihaa

namespace Go.Proofs.Ytlmdheeammfihaa
open Go Go.Proofs Ev
set_option maxRecDepth 100000
set_option linter.unusedSimpArgs false
set_option linter.unusedVariables false
set_option maxHeartbeats 4000000
theorem cellAll_cmp (a b : Ent) : AFn Try.prog 76 [.agg (a.enc.map .c), .agg (b.enc.map .c)] [] (.one (vi (icmp a.seq b.seq))) [] := by
  refine AFn.introX (E := En 0 md0) (en_ok 0 md0) Try.func76 rfl rfl rfl fun _ _ => ?_
  refine ACall.mk _ _ (cmp_Compare_I _ _) ?_
  exact Need.mk ⟨[], _, .same, rfl, rfl⟩ trivial
theorem cellAll_ok : CmpOk 76 sLess := ⟨fun a b => icmp a.seq b.seq, fun _ _ => icmp_lt _ _, cellAll_cmp⟩
theorem impl_CellAll (xs : List Ent) (key : ByteArray) (seq : Int) (hl : xs.length ≤ 1048576) : AFn Try.prog 28 [sl (xs.map Ent.enc), av (.string key), av (.int .i64 seq)] [] (.agg (cellAll xs key seq).enc) [] := by
  refine AFn.introX (E := En 0 (md1 [62])) (en_ok 0 _) Try.func28 rfl rfl rfl fun _ _ => ?_
  have hpos : 0 < Try.prog.cellsOf 32 := pos_of tab_ok (t := 32) rfl
  have hn : (xs.map Ent.enc).length = xs.length := List.length_map ..
  have hfl := findE_len xs key seq
  have hex : ∃ F, findE xs key seq = F := ⟨_, rfl⟩
  obtain ⟨F, hF⟩ := hex
  rw [hF] at hfl
  have hS := slices_SortStable 76 sLess sLess_wk cellAll_ok F (by omega)
  have hres : cellAll xs key seq = (isort sLess F).foldl cellDo cel0 := by unfold cellAll mine; rw [hF]
  rw [hres]
  have hml : (isort sLess F).length ≤ 1048576 := by rw [isort_len]; omega
  have hex : ∃ ys, isort sLess F = ys := ⟨_, rfl⟩
  obtain ⟨ys, hys⟩ := hex
  rw [hys] at hml hS
  rw [hys]
  have hyn : (ys.map Ent.enc).length = ys.length := List.length_map ..
  let SR : List (List C) → Nat → St := fun R i => ⟨none :: some (av (.string key)) :: some (av (.int .i64 seq)) :: none :: none :: none :: some (.bx 6 0) :: some (.one (.ref 7 0 (.cell 0))) :: none :: none :: none :: none :: none :: some (sl (xs.map Ent.enc)) :: some (av (.int .i64 (xs.map Ent.enc).length)) :: some (av (.int .i64 i)) :: List.replicate 31 none, absent :: absent :: absent :: absent :: absent :: absent :: ⟨0, 0, some [vb false, vs ⟨#[]⟩, vi 0]⟩ :: ⟨0, 1, some [.us 32 R]⟩ :: List.replicate 39 absent⟩
  let S : List Ent → Nat → St := fun zs i => SR (zs.map Ent.enc) i
  refine ALoop.mk (fun m s => ∃ (i : Nat) (zs : List Ent), i ≤ xs.length ∧ m = xs.length - i ∧ findE (xs.take i) key seq = zs ∧ s = S zs i)
    ⟨_, _, Weak.trans (Weak.nrm [false, true, true, false, false, false, true, true, false, false, false, false, false, true, true, true] [(6, 6)] rfl rfl rfl) (Weak.nilOwn 7 7 32 rfl rfl hpos), 0, [], Nat.zero_le _, rfl, rfl, rfl⟩ ?_
  rintro m s ⟨i, zs, hi, rfl, hz, hs⟩
  by_cases hin : i = xs.length
  · subst hin
    rw [List.take_length, hF] at hz
    subst hz
    subst hs
    refine Split.mk fun t h1 => ?_
    cases t
    case true => (exfalso; rw [decide_eq_true_iff] at h1; omega)
    rw [decide_eq_false_iff_not] at h1
    refine ACall.mk _ _ hS ?_
    let S2 : Cel → Nat → St := fun c i => ⟨none :: none :: none :: none :: none :: none :: some (.bx 6 0) :: none :: none :: none :: some (.bx 10 0) :: none :: none :: none :: none :: none :: none :: none :: none :: none :: none :: none :: none :: none :: none :: none :: none :: none :: none :: none :: none :: none :: none :: none :: none :: none :: some (.one (.ref 36 0 (.cell 0))) :: some (av (.int .i64 (ys.map Ent.enc).length)) :: some (av (.int .i64 i)) :: List.replicate 8 none, absent :: absent :: absent :: absent :: absent :: absent :: ⟨0, 0, some [vb false, vs ⟨#[]⟩, vi 0]⟩ :: absent :: absent :: absent :: ⟨0, 0, some c.enc⟩ :: absent :: absent :: absent :: absent :: absent :: absent :: absent :: absent :: absent :: absent :: absent :: absent :: absent :: absent :: absent :: absent :: absent :: absent :: absent :: absent :: absent :: absent :: absent :: absent :: absent :: ⟨0, 1, some [.us 32 (ys.map Ent.enc)]⟩ :: List.replicate 10 absent⟩
    refine ALoop.mk (fun m s => ∃ (i : Nat) (c : Cel), i ≤ ys.length ∧ m = ys.length - i ∧ (ys.take i).foldl cellDo cel0 = c ∧ s = S2 c i)
      ⟨_, _, Weak.nrm [false, false, false, false, false, false, true, false, false, false, true, false, false, false, false, false, false, false, false, false, false, false, false, false, false, false, false, false, false, false, false, false, false, false, false, false, true, true, true] [(6, 6), (10, 10), (7, 36)] rfl rfl rfl, 0, cel0, Nat.zero_le _, rfl, rfl, rfl⟩ ?_
    rintro m s ⟨i, c, hi, rfl, hc, hs⟩
    by_cases hin : i = ys.length
    · subst hin
      rw [List.take_length] at hc
      rw [hc]
      subst hs
      refine Split.mk fun t h1 => ?_
      cases t
      case true => (exfalso; rw [decide_eq_true_iff] at h1; omega)
      rw [decide_eq_false_iff_not] at h1
      exact Need.mk ⟨[], _, .same, rfl, rfl⟩ trivial
    · have hia : i < ys.length := by omega
      have hft := fold_take cellDo cel0 ys i hia
      rw [hc] at hft
      have hD := impl_CellDo c ys[i]
      subst hs
      refine Split.mk fun t h1 => ?_
      cases t
      case false => (exfalso; rw [decide_eq_false_iff_not] at h1; omega)
      rw [decide_eq_true_iff] at h1
      refine Need.mk (by omega) ?_
      refine Row.mk _ (map_get _ ys i (by omega)) ?_
      refine ACall.mk _ _ hD ?_
      refine Num.mk _ (wrapS (by omega)) ?_
      exact ⟨ys.length - (i + 1), _, by omega, Weak.nrm [false, false, false, false, false, false, true, false, false, false, true, false, false, false, false, false, false, false, false, false, false, false, false, false, false, false, false, false, false, false, false, false, false, false, false, false, true, true, true] [(6, 6), (10, 10), (36, 36)] rfl rfl rfl, i + 1, cellDo c ys[i], by omega, rfl, hft, rfl⟩
  · have hia : i < xs.length := by omega
    have hzl := findE_len (xs.take i) key seq
    rw [hz, List.length_take] at hzl
    have hsn := findE_snoc (xs.take i) xs[i] key seq
    rw [← List.take_succ_eq_append_getElem hia, hz] at hsn
    by_cases hk : xs[i].key = key
    · by_cases hq : xs[i].seq ≤ seq
      · rw [decide_eq_true hk, decide_eq_true hq] at hsn
        subst hs
        refine Split.mk fun t h1 => ?_
        cases t
        case false => (exfalso; rw [decide_eq_false_iff_not] at h1; omega)
        rw [decide_eq_true_iff] at h1
        refine Need.mk (by omega) ?_
        refine Row.mk _ (map_get _ xs i (by omega)) ?_
        refine Split.mk fun t h2 => ?_
        cases t
        case false => (exfalso; rw [bytes_beq, decide_eq_false_iff_not] at h2; exact absurd ‹_› h2)
        rw [bytes_beq, decide_eq_true_iff] at h2
        refine Split.mk fun t h3 => ?_
        cases t
        case false => (exfalso; rw [decide_eq_false_iff_not] at h3; omega)
        rw [decide_eq_true_iff] at h3
        refine Need.mk (appOk (m := 1) (List.length_map ..) rfl (by omega) (by decide)) ?_
        refine Num.mk _ (wrapS (by omega)) ?_
        refine ⟨xs.length - (i + 1), _, by omega, Weak.nrm [false, true, true, false, false, false, true, true, false, false, false, false, false, true, true, true] [(6, 6), (32, 7)] rfl rfl rfl, i + 1, zs ++ [xs[i]], by omega, rfl, hsn, ?_⟩
        exact Eq.trans (b := S (zs ++ [xs[i]]) (i + 1)) (congrArg (fun R => SR R (i + 1)) (by rw [List.map_append]; rfl)) rfl
      · rw [decide_eq_true hk, decide_eq_false hq, Bool.and_false, cond_false, List.append_nil] at hsn
        subst hs
        refine Split.mk fun t h1 => ?_
        cases t
        case false => (exfalso; rw [decide_eq_false_iff_not] at h1; omega)
        rw [decide_eq_true_iff] at h1
        refine Need.mk (by omega) ?_
        refine Row.mk _ (map_get _ xs i (by omega)) ?_
        refine Split.mk fun t h2 => ?_
        cases t
        case false => (exfalso; rw [bytes_beq, decide_eq_false_iff_not] at h2; exact absurd ‹_› h2)
        rw [bytes_beq, decide_eq_true_iff] at h2
        refine Split.mk fun t h3 => ?_
        cases t
        case true => (exfalso; rw [decide_eq_true_iff] at h3; omega)
        rw [decide_eq_false_iff_not] at h3
        refine Num.mk _ (wrapS (by omega)) ?_
        exact ⟨xs.length - (i + 1), _, by omega, Weak.nrm [false, true, true, false, false, false, true, true, false, false, false, false, false, true, true, true] [(6, 6), (7, 7)] rfl rfl rfl, i + 1, zs, by omega, rfl, hsn, rfl⟩
    · rw [decide_eq_false hk, Bool.false_and, cond_false, List.append_nil] at hsn
      subst hs
      refine Split.mk fun t h1 => ?_
      cases t
      case false => (exfalso; rw [decide_eq_false_iff_not] at h1; omega)
      rw [decide_eq_true_iff] at h1
      refine Need.mk (by omega) ?_
      refine Row.mk _ (map_get _ xs i (by omega)) ?_
      refine Split.mk fun t h2 => ?_
      cases t
      case true => (exfalso; rw [bytes_beq, decide_eq_true_iff] at h2; exact absurd h2 ‹_›)
      rw [bytes_beq, decide_eq_false_iff_not] at h2
      refine Num.mk _ (wrapS (by omega)) ?_
      exact ⟨xs.length - (i + 1), _, by omega, Weak.nrm [false, true, true, false, false, false, true, true, false, false, false, false, false, true, true, true] [(6, 6), (7, 7)] rfl rfl rfl, i + 1, zs, by omega, rfl, hsn, rfl⟩
end Go.Proofs.Ytlmdheeammfihaa

namespace Go.Proofs.Ytlmdheeammfihaa
open Go Go.Proofs Ev
set_option maxRecDepth 100000
set_option linter.unusedSimpArgs false
set_option linter.unusedVariables false
set_option maxHeartbeats 4000000
theorem spec_l3Cut (xs : List Ent) (key : ByteArray) (seq : Int) (hl : xs.length ≤ 1048576) : AFn Try.prog 169 [sl (xs.map Ent.enc), av (.string key), av (.int .i64 seq)] [] (.one (.us 32 ((mine xs key seq).map Ent.enc))) [] := by
  have hn : (xs.map Ent.enc).length = xs.length := List.length_map ..
  refine AFn.introX (E := En 0 md0) (en_ok 0 _) Try.func169 rfl rfl rfl fun _ _ => ?_
  let S : List (List C) → Nat → St := fun R i => ⟨some (sl (xs.map Ent.enc)) :: some (av (.string key)) :: some (av (.int .i64 seq)) :: none :: none :: none :: none :: some (.one (.ref 7 0 (.cell 0))) :: some (av (.int .i64 i)) :: List.replicate 62 none, absent :: absent :: absent :: absent :: absent :: absent :: absent :: ⟨0, 1, some [.us 32 R]⟩ :: List.replicate 63 absent⟩
  refine ALoop.mk (fun m s => ∃ i : Nat, i ≤ xs.length ∧ m = xs.length - i ∧ s = S ((mine (xs.take i) key seq).map Ent.enc) i)
    ⟨_, _, Weak.trans (Weak.nrm [true, true, true, false, false, false, false, true, true] [(11, 7)] rfl rfl rfl) Weak.one, 0, Nat.zero_le _, rfl, rfl⟩ ?_
  rintro m s ⟨i, hi, rfl, hs⟩
  by_cases hin : i = xs.length
  · rw [hin, List.take_length] at hs
    subst hs
    refine Split.mk fun t h1 => ?_
    cases t
    case true => (exfalso; rw [decide_eq_true_iff] at h1; omega)
    rw [decide_eq_false_iff_not] at h1
    exact Need.mk ⟨[], _, .same, rfl, rfl⟩ trivial
  · have hia : i < xs.length := by omega
    have hml : (mine (xs.take i) key seq).length ≤ i := by
      unfold mine
      rw [isort_len]
      have := findE_len (xs.take i) key seq
      rw [List.length_take] at this
      omega
    have hsn := mine_snoc (xs.take i) xs[i] key seq
    rw [← List.take_succ_eq_append_getElem hia] at hsn
    have hex : ∃ out, mine (xs.take i) key seq = out := ⟨_, rfl⟩
    obtain ⟨out, ho⟩ := hex
    rw [ho] at hsn hs hml
    have hon : (out.map Ent.enc).length = out.length := List.length_map ..
    by_cases hk : xs[i].key = key
    · by_cases hq : xs[i].seq ≤ seq
      · rw [if_pos ⟨hk, hq⟩] at hsn
        subst hs
        refine Split.mk fun t h1 => ?_
        cases t
        case false => (exfalso; rw [decide_eq_false_iff_not] at h1; omega)
        rw [decide_eq_true_iff] at h1
        refine Need.mk (by omega) ?_
        refine Row.mk _ (map_get _ xs i (by omega)) ?_
        refine Split.mk fun t h2 => ?_
        cases t
        case true => (exfalso; rw [Bool.not_eq_true', bytes_beq, decide_eq_false_iff_not] at h2; exact absurd ‹_› h2)
        rw [Bool.not_eq_false', bytes_beq, decide_eq_true_iff] at h2
        refine Need.mk (by omega) ?_
        refine Row.mk _ (map_get _ xs i (by omega)) ?_
        refine Split.mk fun t h3 => ?_
        cases t
        case true => (exfalso; rw [decide_eq_true_iff] at h3; omega)
        rw [decide_eq_false_iff_not] at h3
        let S1 : Nat → St := fun k => ⟨some (sl (xs.map Ent.enc)) :: some (av (.string key)) :: some (av (.int .i64 seq)) :: none :: none :: none :: none :: some (.one (.ref 7 0 (.cell 0))) :: some (av (.int .i64 i)) :: some (av (.int .i64 k)) :: List.replicate 61 none, absent :: absent :: absent :: absent :: absent :: absent :: absent :: ⟨0, 1, some [.us 32 (out.map Ent.enc)]⟩ :: List.replicate 63 absent⟩
        refine ALoop.mk (fun m s => ∃ k : Nat, k ≤ out.length ∧ m = k ∧ ins sLess out xs[i] = ins sLess (out.take k) xs[i] ++ out.drop k ∧ s = S1 k)
          ⟨_, _, Weak.nrm [true, true, true, false, false, false, false, true, true, true] [(7, 7)] rfl rfl rfl, out.length, Nat.le_refl _, rfl, by simp, Eq.trans (b := S1 (out.map Ent.enc).length) rfl (by rw [hon])⟩ ?_
        rintro m s ⟨k, hk, hm, hins, hs⟩
        have stop : ins sLess (out.take k) xs[i] = out.take k ++ [xs[i]] → S ((out.take k).map Ent.enc ++ [xs[i].enc] ++ (out.drop k).map Ent.enc) (i + 1) = S ((mine (xs.take (i + 1)) key seq).map Ent.enc) (i + 1) := fun h => by
          rw [hsn, hins, h, List.map_append, List.map_append]; rfl
        have d1 : ((out.map Ent.enc).drop (k : Int).toNat).take (((out.map Ent.enc).length : Int) - (k : Int)).toNat = (out.drop k).map Ent.enc := by
          rw [Int.toNat_natCast, ← List.map_drop]
          exact List.take_of_length_le (by rw [List.length_map, List.length_drop, hon]; omega)
        have d2 : ((out.map Ent.enc).take ((k : Int) - 0).toNat) = (out.take k).map Ent.enc := by
          rw [Int.sub_zero, Int.toNat_natCast, ← List.map_take]
        have l1 : (out.drop k).length = out.length - k := List.length_drop ..
        have l2 : (out.take k).length = k := by rw [List.length_take]; omega
        by_cases hk0 : k = 0
        · have hst := stop (by rw [hk0]; rfl)
          subst hs
          refine Split.mk fun t h1 => ?_
          cases t
          case true => (exfalso; rw [decide_eq_true_iff] at h1; omega)
          rw [decide_eq_false_iff_not] at h1
          refine Need.mk (rfl) ?_
          refine Need.mk (by omega) ?_
          refine Need.mk ((plainE _)) ?_
          refine Need.mk (appEq (A' := []) (B' := _) rfl rfl (by simp only [List.length_append, List.length_map, List.length_take, List.length_drop, List.length_cons, List.length_nil, List.length_reverse, List.length_replicate, List.length_set]; omega) (by decide)) ?_
          refine Need.mk (by omega) ?_
          refine Need.mk (by omega) ?_
          refine Row.mk _ (map_get _ xs i (by omega)) ?_
          refine Need.mk (appEq (A' := _) (B' := [xs[i].enc]) rfl rfl (by simp only [List.length_append, List.length_map, List.length_take, List.length_drop, List.length_cons, List.length_nil, List.length_reverse, List.length_replicate, List.length_set]; omega) (by decide)) ?_
          refine Need.mk ((Plain.app plain_nil (Plain.take (Plain.drop (plainE _) _) _))) ?_
          refine Need.mk (appEq (A' := (_ ++ [xs[i].enc])) (B' := ([] ++ _)) rfl rfl (by simp only [List.length_append, List.length_map, List.length_take, List.length_drop, List.length_cons, List.length_nil, List.length_reverse, List.length_replicate, List.length_set]; omega) (by decide)) ?_
          refine Need.mk (rfl) ?_
          refine Num.mk _ (wrapS (by omega)) ?_
          exact ⟨_, _, by omega, Weak.nrm [true, true, true, false, false, false, false, true, true] [(69, 7)] rfl rfl rfl, i + 1, by omega, rfl, Eq.trans (b := S ((out.map Ent.enc).take ((k : Int) - 0).toNat ++ [xs[i].enc] ++ ([] ++ ((out.map Ent.enc).drop (k : Int).toNat).take (((out.map Ent.enc).length : Int) - (k : Int)).toNat)) (i + 1)) rfl (by rw [d1, d2, List.nil_append]; exact hst)⟩
        · have hts := take_snoc (by omega) hk
          have hk1 : k - 1 < out.length := by omega
          have hsub : IntKind.i64.wrap ((k : Int) - 1) = ((k - 1 : Nat) : Int) := wrapI' (by omega) (by omega)
          by_cases hle : xs[i].seq < out[k - 1].seq
          · have hlt : sLess xs[i] out[k - 1] = true := decide_eq_true hle
            have hst := ins_step sLess xs[i] out[k - 1] (out.take (k - 1)) hlt
            rw [← hts] at hst
            have hdk := List.drop_eq_getElem_cons hk1
            rw [show k - 1 + 1 = k by omega] at hdk
            have hnew : ins sLess out xs[i] = ins sLess (out.take (k - 1)) xs[i] ++ out.drop (k - 1) := by rw [hins, hst, hdk, List.append_assoc]; rfl
            subst hs
            refine Split.mk fun t h1 => ?_
            cases t
            case false => (exfalso; rw [decide_eq_false_iff_not] at h1; omega)
            rw [decide_eq_true_iff] at h1
            refine Num.mk _ hsub ?_
            refine Need.mk (by omega) ?_
            refine Row.mk _ (map_get _ out (k - 1) (by omega)) ?_
            refine Need.mk (by omega) ?_
            refine Row.mk _ (map_get _ xs i (by omega)) ?_
            refine Split.mk fun t h2 => ?_
            cases t
            case false => (exfalso; rw [decide_eq_false_iff_not] at h2; omega)
            rw [decide_eq_true_iff] at h2
            refine Need.mk (rfl) ?_
            refine Num.mk _ hsub ?_
            exact ⟨_, _, by omega, Weak.nrm [true, true, true, false, false, false, false, true, true, true] [(7, 7)] rfl rfl rfl, k - 1, by omega, rfl, hnew, rfl⟩
          · have hlt : sLess xs[i] out[k - 1] = false := decide_eq_false hle
            have hst := ins_stop sLess xs[i] out[k - 1] (out.take (k - 1)) hlt
            rw [← hts] at hst
            have hst := stop hst
            subst hs
            refine Split.mk fun t h1 => ?_
            cases t
            case false => (exfalso; rw [decide_eq_false_iff_not] at h1; omega)
            rw [decide_eq_true_iff] at h1
            refine Num.mk _ hsub ?_
            refine Need.mk (by omega) ?_
            refine Row.mk _ (map_get _ out (k - 1) (by omega)) ?_
            refine Need.mk (by omega) ?_
            refine Row.mk _ (map_get _ xs i (by omega)) ?_
            refine Split.mk fun t h2 => ?_
            cases t
            case true => (exfalso; rw [decide_eq_true_iff] at h2; omega)
            rw [decide_eq_false_iff_not] at h2
            refine Need.mk (rfl) ?_
            refine Need.mk (by omega) ?_
            refine Need.mk ((plainE _)) ?_
            refine Need.mk (appEq (A' := []) (B' := _) rfl rfl (by simp only [List.length_append, List.length_map, List.length_take, List.length_drop, List.length_cons, List.length_nil, List.length_reverse, List.length_replicate, List.length_set]; omega) (by decide)) ?_
            refine Need.mk (by omega) ?_
            refine Need.mk (by omega) ?_
            refine Row.mk _ (map_get _ xs i (by omega)) ?_
            refine Need.mk (appEq (A' := _) (B' := [xs[i].enc]) rfl rfl (by simp only [List.length_append, List.length_map, List.length_take, List.length_drop, List.length_cons, List.length_nil, List.length_reverse, List.length_replicate, List.length_set]; omega) (by decide)) ?_
            refine Need.mk ((Plain.app plain_nil (Plain.take (Plain.drop (plainE _) _) _))) ?_
            refine Need.mk (appEq (A' := (_ ++ [xs[i].enc])) (B' := ([] ++ _)) rfl rfl (by simp only [List.length_append, List.length_map, List.length_take, List.length_drop, List.length_cons, List.length_nil, List.length_reverse, List.length_replicate, List.length_set]; omega) (by decide)) ?_
            refine Need.mk (rfl) ?_
            refine Num.mk _ (wrapS (by omega)) ?_
            exact ⟨_, _, by omega, Weak.nrm [true, true, true, false, false, false, false, true, true] [(69, 7)] rfl rfl rfl, i + 1, by omega, rfl, Eq.trans (b := S ((out.map Ent.enc).take ((k : Int) - 0).toNat ++ [xs[i].enc] ++ ([] ++ ((out.map Ent.enc).drop (k : Int).toNat).take (((out.map Ent.enc).length : Int) - (k : Int)).toNat)) (i + 1)) rfl (by rw [d1, d2, List.nil_append]; exact hst)⟩
      · rw [if_neg (fun h => hq h.2)] at hsn
        subst hs
        refine Split.mk fun t h1 => ?_
        cases t
        case false => (exfalso; rw [decide_eq_false_iff_not] at h1; omega)
        rw [decide_eq_true_iff] at h1
        refine Need.mk (by omega) ?_
        refine Row.mk _ (map_get _ xs i (by omega)) ?_
        refine Split.mk fun t h2 => ?_
        cases t
        case true => (exfalso; rw [Bool.not_eq_true', bytes_beq, decide_eq_false_iff_not] at h2; exact absurd ‹_› h2)
        rw [Bool.not_eq_false', bytes_beq, decide_eq_true_iff] at h2
        refine Need.mk (by omega) ?_
        refine Row.mk _ (map_get _ xs i (by omega)) ?_
        refine Split.mk fun t h3 => ?_
        cases t
        case false => (exfalso; rw [decide_eq_false_iff_not] at h3; omega)
        rw [decide_eq_true_iff] at h3
        refine Num.mk _ (wrapS (by omega)) ?_
        exact ⟨_, _, by omega, Weak.nrm [true, true, true, false, false, false, false, true, true] [(7, 7)] rfl rfl rfl, i + 1, by omega, rfl, Eq.trans (b := S (out.map Ent.enc) (i + 1)) rfl (by rw [hsn])⟩
    · rw [if_neg (fun h => hk h.1)] at hsn
      subst hs
      refine Split.mk fun t h1 => ?_
      cases t
      case false => (exfalso; rw [decide_eq_false_iff_not] at h1; omega)
      rw [decide_eq_true_iff] at h1
      refine Need.mk (by omega) ?_
      refine Row.mk _ (map_get _ xs i (by omega)) ?_
      refine Split.mk fun t h2 => ?_
      cases t
      case false => (exfalso; rw [Bool.not_eq_false', bytes_beq, decide_eq_true_iff] at h2; exact absurd h2 ‹_›)
      rw [Bool.not_eq_true', bytes_beq, decide_eq_false_iff_not] at h2
      refine Num.mk _ (wrapS (by omega)) ?_
      exact ⟨_, _, by omega, Weak.nrm [true, true, true, false, false, false, false, true, true] [(7, 7)] rfl rfl rfl, i + 1, by omega, rfl, Eq.trans (b := S (out.map Ent.enc) (i + 1)) rfl (by rw [hsn])⟩
theorem spec_CellAll (xs : List Ent) (key : ByteArray) (seq : Int) (hl : xs.length ≤ 1048576) : AFn Try.prog 147 [sl (xs.map Ent.enc), av (.string key), av (.int .i64 seq)] [] (.agg (cellAll xs key seq).enc) [] := by
  have hC := spec_l3Cut xs key seq hl
  have hres : cellAll xs key seq = (mine xs key seq).foldl cellDo cel0 := rfl
  rw [hres]
  have hml : (mine xs key seq).length ≤ 1048576 := by
    unfold mine
    rw [isort_len]
    have := findE_len xs key seq
    omega
  have hex : ∃ ys, mine xs key seq = ys := ⟨_, rfl⟩
  obtain ⟨ys, hys⟩ := hex
  rw [hys] at hC hml
  rw [hys]
  have hyn : (ys.map Ent.enc).length = ys.length := List.length_map ..
  refine AFn.introX (E := En 0 md0 (fz := [8])) (en_ok 0 _ _ _ _ _) Try.func147 rfl rfl rfl fun _ _ => ?_
  refine ACall.mk _ _ hC ?_
  refine Fz.mk _ (frzE _) ?_
  let S : Cel → Nat → St := fun c i => ⟨none :: none :: none :: none :: none :: none :: some (.bx 6 0) :: some (.bx 7 0) :: some (sl (ys.map Ent.enc)) :: some (av (.int .i64 i)) :: List.replicate 18 none, absent :: absent :: absent :: absent :: absent :: absent :: ⟨0, 0, some [vb false, vs ⟨#[]⟩, vi 0]⟩ :: ⟨0, 0, some c.enc⟩ :: List.replicate 20 absent⟩
  refine ALoop.mk (fun m s => ∃ (i : Nat) (c : Cel), i ≤ ys.length ∧ m = ys.length - i ∧ (ys.take i).foldl cellDo cel0 = c ∧ s = S c i)
    ⟨_, _, Weak.nrm [false, false, false, false, false, false, true, true, true, true] [(6, 6), (7, 7)] rfl rfl rfl, 0, cel0, Nat.zero_le _, rfl, rfl, rfl⟩ ?_
  rintro m s ⟨i, c, hi, rfl, hc, hs⟩
  by_cases hin : i = ys.length
  · rw [hin, List.take_length] at hc
    subst hc
    subst hs
    refine Split.mk fun t h1 => ?_
    cases t
    case true => (exfalso; rw [decide_eq_true_iff] at h1; omega)
    rw [decide_eq_false_iff_not] at h1
    exact Need.mk ⟨[], _, .same, rfl, rfl⟩ trivial
  · have hia : i < ys.length := by omega
    have hft := fold_take cellDo cel0 ys i hia
    rw [hc] at hft
    have hD := spec_CellDo c ys[i]
    subst hs
    refine Split.mk fun t h1 => ?_
    cases t
    case false => (exfalso; rw [decide_eq_false_iff_not] at h1; omega)
    rw [decide_eq_true_iff] at h1
    refine Need.mk (by omega) ?_
    refine Row.mk _ (map_get _ ys i (by omega)) ?_
    refine ACall.mk _ _ hD ?_
    refine Need.mk (rfl) ?_
    refine Num.mk _ (wrapS (by omega)) ?_
    exact ⟨_, _, by omega, Weak.nrm [false, false, false, false, false, false, true, true, true, true] [(6, 6), (7, 7)] rfl rfl rfl, i + 1, cellDo c ys[i], by omega, rfl, hft, rfl⟩
end Go.Proofs.Ytlmdheeammfihaa
