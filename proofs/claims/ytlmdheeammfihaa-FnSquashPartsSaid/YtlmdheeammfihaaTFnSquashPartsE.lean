/-
  Contracts of functions, part 5.
-/
import Derived.Test.YtlmdheeammfihaaTFnSquashPartsD
namespace Go.Proofs.Ytlmdheeammfihaa
open Go Go.Proofs Ev
set_option maxRecDepth 100000
set_option linter.unusedSimpArgs false
set_option linter.unusedVariables false
set_option maxHeartbeats 4000000
theorem heads_Len (hs : List Hd1) : AFn Try.prog 192 [sl (hs.map encH)] [] (.one (vi (hs.length : Nat))) [] := by
  refine AFn.introX (E := En 0 md0) (en_ok 0 md0) Try.func192 rfl rfl rfl fun _ _ => ?_
  refine Need.mk ⟨[], _, .same, ?_, rfl⟩ trivial
  exact congrArg (fun n : Nat => RV.one (vi (n : Int))) (List.length_map encH : (hs.map encH).length = hs.length)
theorem heads_Less (hs : List Hd1) (i j : Nat) (a b : Hd1) (hA : hs[i]? = some a) (hB : hs[j]? = some b) (ha : a.1 ≠ []) (hb : b.1 ≠ []) :
    AFn Try.prog 193 [sl (hs.map encH), av (.int .i64 i), av (.int .i64 j)] [] (rb (hl a b)) [] := by
  refine AFn.introX (E := En 0 md0) (en_ok 0 md0) Try.func193 rfl rfl rfl fun _ _ => ?_
  have r1 : (hs.map encH)[i]? = some (encH a) := by rw [List.getElem?_map, hA]; rfl
  have r2 : (hs.map encH)[j]? = some (encH b) := by rw [List.getElem?_map, hB]; rfl
  have r3 := hdE_get ha
  have r4 := hdE_get hb
  have hq := hl_eq a b
  have hO := impl_entryOrder (hdE a) (hdE b)
  have fin : ∀ {c : Bool}, c = hl a b → rb c = rb (hl a b) := fun h => by rw [h]
  refine Need.mk (by omega) ?_
  refine Row.mk _ r1 ?_
  refine Need.mk (by omega) ?_
  refine Row.mk _ r2 ?_
  refine Need.mk rfl ?_
  refine Need.mk (by decide) ?_
  refine Row.mk _ r3 ?_
  refine Need.mk (by decide) ?_
  refine Row.mk _ r4 ?_
  refine ACall.mk _ _ hO ?_
  refine Need.mk rfl ?_
  refine Split.mk fun t ht => ?_
  cases t
  · refine Split.mk fun t ht2 => ?_
    refine Need.mk ⟨[], _, .same, fin ?_, rfl⟩ trivial
    have h0 : eord (hdE a) (hdE b) = 0 := by simpa using ht
    rw [hq, if_pos h0, ← ht2]
    exact decide_eq_decide.2 Int.ofNat_lt
  · refine Split.mk fun t ht2 => ?_
    refine Need.mk ⟨[], _, .same, fin ?_, rfl⟩ trivial
    have h0 : ¬ eord (hdE a) (hdE b) = 0 := by simpa using ht
    rw [hq, if_neg h0, ← ht2]
theorem heads_Swap (hs : List Hd1) (i j : Nat) (hi : i < hs.length) (hj : j < hs.length) :
    AFn Try.prog 194 [.one (.ref 0 0 (.cell 0)), av (.int .i64 i), av (.int .i64 j)] [[.us 96 (hs.map encH)]] (.tup []) [[.us 96 ((swapL hd0 hs i j).map encH)]] := by
  refine AFn.introX (E := En 1 md0) (en_ok 1 md0) Try.func194 rfl rfl rfl fun _ _ => ?_
  have hl : (hs.map encH).length = hs.length := List.length_map ..
  have r1 : (hs.map encH)[i]? = some (encH (hs.getD i hd0)) := by rw [List.getElem?_map, getH hi]; rfl
  have r2 : (hs.map encH)[j]? = some (encH (hs.getD j hd0)) := by rw [List.getElem?_map, getH hj]; rfl
  have hsl : (hs.set i (hs.getD j hd0)).length = hs.length := List.length_set ..
  have r3 : ((hs.map encH).set i (encH (hs.getD j hd0)))[j]? = some (encH ((hs.set i (hs.getD j hd0)).getD j hd0)) := by
    rw [← List.map_set, List.getElem?_map, getH (by rw [hsl]; exact hj)]; rfl
  have hl3 : ((hs.map encH).set i (encH (hs.getD j hd0))).length = hs.length := by rw [List.length_set, hl]
  have e2 : ((hs.map encH).set i (encH (hs.getD j hd0))).set j (encH (hs.getD i hd0)) = (swapL hd0 hs i j).map encH := by rw [← List.map_set, ← List.map_set]; rfl
  refine Need.mk ⟨by omega, by rw [hl]; omega⟩ ?_
  refine Row.mk _ r2 ?_
  refine Need.mk ⟨by omega, by rw [hl]; omega⟩ ?_
  refine Row.mk _ r1 ?_
  refine Need.mk ⟨by omega, by rw [hl]; omega⟩ ?_
  refine Row.mk _ r1 ?_
  refine Need.mk ⟨by omega, show ((j : Nat) : Int) < ((((hs.map encH).set i (encH (hs.getD j hd0))).length : Nat) : Int) from by rw [hl3]; omega⟩ ?_
  refine Row.mk _ r3 ?_
  refine Need.mk rfl ?_
  refine Need.mk ⟨[], _, .same, rfl, ?_⟩ trivial
  exact congrArg (fun R => [[C.us 96 R]]) e2
theorem heads_Pop (hs : List Hd1) (h0 : 0 < hs.length) (hx : hs.length ≤ 1099511627776) :
    AFnK Try.prog 195 [.bx 0 0] [[.us 96 (hs.map encH)]] [0] (.one .x) [[.us 96 ((hs.take (hs.length - 1)).map encH)]] := by
  refine AFnK.introX (E := En 1 md0) (en_ok 1 md0) Try.func195 rfl rfl rfl fun _ _ => ?_
  have hl : (hs.map encH).length = hs.length := List.length_map ..
  have r1 : (hs.map encH)[hs.length - 1]? = some (encH (hs.getD (hs.length - 1) hd0)) := by rw [List.getElem?_map, getH (by omega)]; rfl
  have e1 : (hs.map encH).take (((hs.length - 1 : Nat) : Int) - 0).toNat = (hs.take (hs.length - 1)).map encH := by
    rw [Int.sub_zero, Int.toNat_natCast, List.map_take]
  refine Num.mk ((hs.length - 1 : Nat) : Int) (wrapI' (by rw [hl]; omega) (by omega)) ?_
  refine Need.mk ⟨by omega, by rw [hl]; omega⟩ ?_
  refine Row.mk _ r1 ?_
  refine Num.mk ((hs.length - 1 : Nat) : Int) (wrapI' (by rw [hl]; omega) (by omega)) ?_
  refine Need.mk ⟨by omega, by omega, by rw [hl]; omega⟩ ?_
  refine Need.mk ?_ trivial
  exact congrArg (fun R => [[C.us 96 R]]) e1
theorem heap_down (hs0 : List Hd1) (i0 n : Nat) (hnl : n ≤ hs0.length) (hll : hs0.length ≤ 1099511627776) (hi0 : i0 ≤ n) (hne : ∀ k, k < n → (hs0.getD k hd0).1 ≠ []) :
    AFnK Try.prog 127 [.ifc 98 (.bx 0 0), av (.int .i64 i0), av (.int .i64 n)] [[.us 96 (hs0.map encH)]] [0] (rb (decide (i0 < downJ hl hd0 (n - i0) hs0 i0 n))) [[.us 96 ((downF hl hd0 (n - i0) hs0 i0 n).map encH)]] := by
  refine AFnK.introX (E := En 1 (md1 [194])) (en_ok 1 _) Try.func127 rfl rfl rfl fun _ _ => ?_
  have hex : ∃ R, downF hl hd0 (n - i0) hs0 i0 n = R := ⟨_, rfl⟩
  obtain ⟨R, hR0⟩ := hex
  rw [hR0]
  have hex : ∃ J, downJ hl hd0 (n - i0) hs0 i0 n = J := ⟨_, rfl⟩
  obtain ⟨J, hJ00⟩ := hex
  rw [hJ00]
  have fin : ∀ {c : Bool}, c = decide (i0 < J) → rb c = rb (decide (i0 < J)) := fun h => by rw [h]
  let S : List Hd1 → Nat → St := fun hs i => ⟨some (.ifc 98 (.bx 0 0)) :: some (av (.int .i64 i0)) :: some (av (.int .i64 n)) :: none :: none :: none :: none :: some (av (.int .i64 i)) :: List.replicate 40 none, ⟨0, 0, some [.us 96 (hs.map encH)]⟩ :: List.replicate 48 absent⟩
  refine ALoop.mk (fun m s => ∃ (f i : Nat) (hs : List Hd1), m = f ∧ n ≤ i + f ∧ i ≤ n ∧ n ≤ hs.length ∧ hs.length ≤ 1099511627776 ∧ (∀ k, k < n → (hs.getD k hd0).1 ≠ []) ∧ downF hl hd0 f hs i n = R ∧ downJ hl hd0 f hs i n = J ∧ s = S hs i)
    ⟨n - i0, _, Weak.nrm [true, true, true, false, false, false, false, true] [(0, 0)] rfl rfl rfl, n - i0, i0, hs0, rfl, by omega, hi0, hnl, hll, hne, hR0, hJ00, rfl⟩ ?_
  clear hR0 hJ00 hne hll hnl hi0
  rintro m s ⟨f, i, hs, rfl, hf, hin, hnl, hll, hne, hR, hJ0, hs0⟩
  by_cases hn1 : n ≤ 2 * i + 1
  · have hF : hs = R := by rw [← hR]; cases m with
      | zero => rfl
      | succ f => rw [downF, if_pos hn1]
    have hJ : i = J := by rw [← hJ0]; cases m with
      | zero => rfl
      | succ f => rw [downJ, if_pos hn1]
    subst hs0
    refine Num.mk ((2 * i : Nat) : Int) (wrapI' (by omega) (by omega)) ?_
    refine Num.mk ((2 * i + 1 : Nat) : Int) (wrapI' (by omega) (by omega)) ?_
    refine Split.mk fun t ht => ?_
    cases t
    case false => rw [decide_eq_false_iff_not] at ht; omega
    refine Split.mk fun t ht => ?_
    refine Need.mk ⟨[], _, .same, fin ?_, congrArg (fun x : List Hd1 => [[C.us 96 (x.map encH)]]) hF⟩ trivial
    rw [← hJ, ← ht]
    exact decide_eq_decide.2 Int.ofNat_lt
  · have hex : ∃ g, m = g + 1 := ⟨m - 1, by omega⟩
    obtain ⟨g, hg⟩ := hex
    subst hg
    rw [downF, if_neg hn1] at hR
    rw [downJ, if_neg hn1] at hJ0
    have hi : i < hs.length := by omega
    have h1 : 2 * i + 1 < hs.length := by omega
    have m1 := hne (2 * i + 1) (by omega)
    have m0 := hne i (by omega)
    by_cases hc : 2 * i + 2 < n ∧ hl (hs.getD (2 * i + 2) hd0) (hs.getD (2 * i + 1) hd0) = true
    · skip
      have hb : best hl hd0 hs i n = 2 * i + 2 := by rw [best, if_pos hc]
      rw [hb] at hR hJ0
      have h2 : 2 * i + 2 < hs.length := by omega
      have m2 := hne (2 * i + 2) (by omega)
      have hL := heads_Less hs (2 * i + 2) (2 * i + 1) _ _ (getH h2) (getH h1) m2 m1
      rw [hc.2] at hL
      have hL2 := heads_Less hs (2 * i + 2) i _ _ (getH h2) (getH hi) m2 m0
      by_cases hq : hl (hs.getD (2 * i + 2) hd0) (hs.getD i hd0) = true
      · rw [hq] at hL2
        rw [if_pos hq] at hR hJ0
        have hS := heads_Swap hs i (2 * i + 2) hi (by omega)
        have hmem : ∀ k, k < n → ((swapL hd0 hs i (2 * i + 2)).getD k hd0).1 ≠ [] := fun k hk => by
          rw [swapL_get hi (by omega)]
          split
          · exact hne i (by omega)
          · split
            · exact hne _ (by omega)
            · exact hne k hk
        subst hs0
        refine Num.mk ((2 * i : Nat) : Int) (wrapI' (by omega) (by omega)) ?_
        refine Num.mk ((2 * i + 1 : Nat) : Int) (wrapI' (by omega) (by omega)) ?_
        refine Split.mk fun t ht => ?_
        cases t
        case true => rw [decide_eq_true_iff] at ht; omega
        refine Split.mk fun t ht => ?_
        cases t
        case true => rw [decide_eq_true_iff] at ht; omega
        refine Num.mk ((2 * i + 2 : Nat) : Int) (wrapI' (by omega) (by omega)) ?_
        refine Split.mk fun t ht => ?_
        cases t
        case false => rw [decide_eq_false_iff_not] at ht; omega
        refine Fz.mk _ (frzH hs) ?_
        refine ACall.mk _ _ hL ?_
        refine Need.mk ⟨closed_v, no_objs⟩ ?_
        refine Split.mk fun t h => ?_
        cases t
        case false => cases h
        refine Fz.mk _ (frzH hs) ?_
        refine ACall.mk _ _ hL2 ?_
        refine Need.mk ⟨closed_v, no_objs⟩ ?_
        refine Split.mk fun t h => ?_
        cases t
        case false => cases h
        refine ACall.mk _ _ hS ?_
        exact ⟨g, _, by omega, Weak.nrm [true, true, true, false, false, false, false, true] [(0, 0)] rfl rfl rfl, g, 2 * i + 2, swapL hd0 hs i (2 * i + 2), rfl, by omega, by omega, by rw [swapL_len]; exact hnl, by rw [swapL_len]; exact hll, hmem, hR, hJ0, rfl⟩
      · have hq : hl (hs.getD (2 * i + 2) hd0) (hs.getD i hd0) = false := by simpa using hq
        have hF : hs = R := by rw [← hR, if_neg (by rw [hq]; simp)]
        have hJ : i = J := by rw [← hJ0, if_neg (by rw [hq]; simp)]
        rw [hq] at hL2
        subst hs0
        refine Num.mk ((2 * i : Nat) : Int) (wrapI' (by omega) (by omega)) ?_
        refine Num.mk ((2 * i + 1 : Nat) : Int) (wrapI' (by omega) (by omega)) ?_
        refine Split.mk fun t ht => ?_
        cases t
        case true => rw [decide_eq_true_iff] at ht; omega
        refine Split.mk fun t ht => ?_
        cases t
        case true => rw [decide_eq_true_iff] at ht; omega
        refine Num.mk ((2 * i + 2 : Nat) : Int) (wrapI' (by omega) (by omega)) ?_
        refine Split.mk fun t ht => ?_
        cases t
        case false => rw [decide_eq_false_iff_not] at ht; omega
        refine Fz.mk _ (frzH hs) ?_
        refine ACall.mk _ _ hL ?_
        refine Need.mk ⟨closed_v, no_objs⟩ ?_
        refine Split.mk fun t h => ?_
        cases t
        case false => cases h
        refine Fz.mk _ (frzH hs) ?_
        refine ACall.mk _ _ hL2 ?_
        refine Need.mk ⟨closed_v, no_objs⟩ ?_
        refine Split.mk fun t h => ?_
        cases t
        case true => cases h
        refine Split.mk fun t ht => ?_
        refine Need.mk ⟨[], _, .same, fin ?_, congrArg (fun x : List Hd1 => [[C.us 96 (x.map encH)]]) hF⟩ trivial
        rw [← hJ, ← ht]
        exact decide_eq_decide.2 Int.ofNat_lt
    · by_cases hc2 : 2 * i + 2 < n
      · skip
        have hb : best hl hd0 hs i n = 2 * i + 1 := by rw [best, if_neg hc]
        rw [hb] at hR hJ0
        have h2 : 2 * i + 2 < hs.length := by omega
        have m2 := hne (2 * i + 2) (by omega)
        have hL := heads_Less hs (2 * i + 2) (2 * i + 1) _ _ (getH h2) (getH h1) m2 m1
        have hlf : hl (hs.getD (2 * i + 2) hd0) (hs.getD (2 * i + 1) hd0) = false := by
          cases hx : hl (hs.getD (2 * i + 2) hd0) (hs.getD (2 * i + 1) hd0) with
          | false => rfl
          | true => exact absurd ⟨hc2, hx⟩ hc
        rw [hlf] at hL
        have hL2 := heads_Less hs (2 * i + 1) i _ _ (getH h1) (getH hi) m1 m0
        by_cases hq : hl (hs.getD (2 * i + 1) hd0) (hs.getD i hd0) = true
        · rw [hq] at hL2
          rw [if_pos hq] at hR hJ0
          have hS := heads_Swap hs i (2 * i + 1) hi (by omega)
          have hmem : ∀ k, k < n → ((swapL hd0 hs i (2 * i + 1)).getD k hd0).1 ≠ [] := fun k hk => by
            rw [swapL_get hi (by omega)]
            split
            · exact hne i (by omega)
            · split
              · exact hne _ (by omega)
              · exact hne k hk
          subst hs0
          refine Num.mk ((2 * i : Nat) : Int) (wrapI' (by omega) (by omega)) ?_
          refine Num.mk ((2 * i + 1 : Nat) : Int) (wrapI' (by omega) (by omega)) ?_
          refine Split.mk fun t ht => ?_
          cases t
          case true => rw [decide_eq_true_iff] at ht; omega
          refine Split.mk fun t ht => ?_
          cases t
          case true => rw [decide_eq_true_iff] at ht; omega
          refine Num.mk ((2 * i + 2 : Nat) : Int) (wrapI' (by omega) (by omega)) ?_
          refine Split.mk fun t ht => ?_
          cases t
          case false => rw [decide_eq_false_iff_not] at ht; omega
          refine Fz.mk _ (frzH hs) ?_
          refine ACall.mk _ _ hL ?_
          refine Need.mk ⟨closed_v, no_objs⟩ ?_
          refine Split.mk fun t h => ?_
          cases t
          case true => cases h
          refine Fz.mk _ (frzH hs) ?_
          refine ACall.mk _ _ hL2 ?_
          refine Need.mk ⟨closed_v, no_objs⟩ ?_
          refine Split.mk fun t h => ?_
          cases t
          case false => cases h
          refine ACall.mk _ _ hS ?_
          exact ⟨g, _, by omega, Weak.nrm [true, true, true, false, false, false, false, true] [(0, 0)] rfl rfl rfl, g, 2 * i + 1, swapL hd0 hs i (2 * i + 1), rfl, by omega, by omega, by rw [swapL_len]; exact hnl, by rw [swapL_len]; exact hll, hmem, hR, hJ0, rfl⟩
        · have hq : hl (hs.getD (2 * i + 1) hd0) (hs.getD i hd0) = false := by simpa using hq
          have hF : hs = R := by rw [← hR, if_neg (by rw [hq]; simp)]
          have hJ : i = J := by rw [← hJ0, if_neg (by rw [hq]; simp)]
          rw [hq] at hL2
          subst hs0
          refine Num.mk ((2 * i : Nat) : Int) (wrapI' (by omega) (by omega)) ?_
          refine Num.mk ((2 * i + 1 : Nat) : Int) (wrapI' (by omega) (by omega)) ?_
          refine Split.mk fun t ht => ?_
          cases t
          case true => rw [decide_eq_true_iff] at ht; omega
          refine Split.mk fun t ht => ?_
          cases t
          case true => rw [decide_eq_true_iff] at ht; omega
          refine Num.mk ((2 * i + 2 : Nat) : Int) (wrapI' (by omega) (by omega)) ?_
          refine Split.mk fun t ht => ?_
          cases t
          case false => rw [decide_eq_false_iff_not] at ht; omega
          refine Fz.mk _ (frzH hs) ?_
          refine ACall.mk _ _ hL ?_
          refine Need.mk ⟨closed_v, no_objs⟩ ?_
          refine Split.mk fun t h => ?_
          cases t
          case true => cases h
          refine Fz.mk _ (frzH hs) ?_
          refine ACall.mk _ _ hL2 ?_
          refine Need.mk ⟨closed_v, no_objs⟩ ?_
          refine Split.mk fun t h => ?_
          cases t
          case true => cases h
          refine Split.mk fun t ht => ?_
          refine Need.mk ⟨[], _, .same, fin ?_, congrArg (fun x : List Hd1 => [[C.us 96 (x.map encH)]]) hF⟩ trivial
          rw [← hJ, ← ht]
          exact decide_eq_decide.2 Int.ofNat_lt
      · skip
        have hb : best hl hd0 hs i n = 2 * i + 1 := by rw [best, if_neg hc]
        rw [hb] at hR hJ0
        have hL2 := heads_Less hs (2 * i + 1) i _ _ (getH h1) (getH hi) m1 m0
        by_cases hq : hl (hs.getD (2 * i + 1) hd0) (hs.getD i hd0) = true
        · rw [hq] at hL2
          rw [if_pos hq] at hR hJ0
          have hS := heads_Swap hs i (2 * i + 1) hi (by omega)
          have hmem : ∀ k, k < n → ((swapL hd0 hs i (2 * i + 1)).getD k hd0).1 ≠ [] := fun k hk => by
            rw [swapL_get hi (by omega)]
            split
            · exact hne i (by omega)
            · split
              · exact hne _ (by omega)
              · exact hne k hk
          subst hs0
          refine Num.mk ((2 * i : Nat) : Int) (wrapI' (by omega) (by omega)) ?_
          refine Num.mk ((2 * i + 1 : Nat) : Int) (wrapI' (by omega) (by omega)) ?_
          refine Split.mk fun t ht => ?_
          cases t
          case true => rw [decide_eq_true_iff] at ht; omega
          refine Split.mk fun t ht => ?_
          cases t
          case true => rw [decide_eq_true_iff] at ht; omega
          refine Num.mk ((2 * i + 2 : Nat) : Int) (wrapI' (by omega) (by omega)) ?_
          refine Split.mk fun t ht => ?_
          cases t
          case true => rw [decide_eq_true_iff] at ht; omega
          refine Fz.mk _ (frzH hs) ?_
          refine ACall.mk _ _ hL2 ?_
          refine Need.mk ⟨closed_v, no_objs⟩ ?_
          refine Split.mk fun t h => ?_
          cases t
          case false => cases h
          refine ACall.mk _ _ hS ?_
          exact ⟨g, _, by omega, Weak.nrm [true, true, true, false, false, false, false, true] [(0, 0)] rfl rfl rfl, g, 2 * i + 1, swapL hd0 hs i (2 * i + 1), rfl, by omega, by omega, by rw [swapL_len]; exact hnl, by rw [swapL_len]; exact hll, hmem, hR, hJ0, rfl⟩
        · have hq : hl (hs.getD (2 * i + 1) hd0) (hs.getD i hd0) = false := by simpa using hq
          have hF : hs = R := by rw [← hR, if_neg (by rw [hq]; simp)]
          have hJ : i = J := by rw [← hJ0, if_neg (by rw [hq]; simp)]
          rw [hq] at hL2
          subst hs0
          refine Num.mk ((2 * i : Nat) : Int) (wrapI' (by omega) (by omega)) ?_
          refine Num.mk ((2 * i + 1 : Nat) : Int) (wrapI' (by omega) (by omega)) ?_
          refine Split.mk fun t ht => ?_
          cases t
          case true => rw [decide_eq_true_iff] at ht; omega
          refine Split.mk fun t ht => ?_
          cases t
          case true => rw [decide_eq_true_iff] at ht; omega
          refine Num.mk ((2 * i + 2 : Nat) : Int) (wrapI' (by omega) (by omega)) ?_
          refine Split.mk fun t ht => ?_
          cases t
          case true => rw [decide_eq_true_iff] at ht; omega
          refine Fz.mk _ (frzH hs) ?_
          refine ACall.mk _ _ hL2 ?_
          refine Need.mk ⟨closed_v, no_objs⟩ ?_
          refine Split.mk fun t h => ?_
          cases t
          case true => cases h
          refine Split.mk fun t ht => ?_
          refine Need.mk ⟨[], _, .same, fin ?_, congrArg (fun x : List Hd1 => [[C.us 96 (x.map encH)]]) hF⟩ trivial
          rw [← hJ, ← ht]
          exact decide_eq_decide.2 Int.ofNat_lt
def initF (n : Nat) : Nat → List Hd1 → List Hd1
  | 0, hs => hs
  | k + 1, hs => initF n k (downF hl hd0 (n - k) hs k n)
theorem initF_ok : ∀ (k n : Nat) (hs : List Hd1), n ≤ hs.length → k ≤ n → HP hl hd0 hs n k → HP hl hd0 (initF n k hs) n 0 ∧ (initF n k hs).Perm hs := by
  intro k
  induction k with
  | zero => intro n hs _ _ h; exact ⟨h, List.Perm.refl _⟩
  | succ k ih =>
    intro n hs hn hk h
    have h1 : HP hl hd0 (downF hl hd0 (n - k) hs k n) n k := down_ok hl_wk (n - k) hs k n k hn (by omega) (Nat.le_refl _)
      (fun c h0 hc hlo hp => h c h0 hc (by omega)) (fun h0 hlo => by unfold par at hlo; omega)
    obtain ⟨q1, q2⟩ := ih n (downF hl hd0 (n - k) hs k n) (by rw [down_len]; exact hn) (by omega) h1
    exact ⟨q1, q2.trans (down_perm _ _ _ _ hn)⟩
theorem heap_Init (hs0 : List Hd1) (hll : hs0.length ≤ 1099511627776) (hne : ∀ a ∈ hs0, a.1 ≠ []) :
    AFnK Try.prog 72 [.ifc 98 (.bx 0 0)] [[.us 96 (hs0.map encH)]] [0] (.tup []) [[.us 96 ((initF hs0.length (hs0.length / 2) hs0).map encH)]] := by
  refine AFnK.introX (E := En 1 md0) (en_ok 1 _) Try.func72 rfl rfl rfl fun _ _ => ?_
  have hLen := heads_Len hs0
  have hex : ∃ R, initF hs0.length (hs0.length / 2) hs0 = R := ⟨_, rfl⟩
  obtain ⟨R, hR0⟩ := hex
  rw [hR0]
  have hex : ∃ n, hs0.length = n := ⟨_, rfl⟩
  obtain ⟨n, hn⟩ := hex
  rw [hn] at hLen hR0 hll
  let S : List Hd1 → Int → St := fun hs i => ⟨some (.ifc 98 (.bx 0 0)) :: none :: some (av (.int .i64 n)) :: some (av (.int .i64 i)) :: List.replicate 13 none, ⟨0, 0, some [.us 96 (hs.map encH)]⟩ :: List.replicate 17 absent⟩
  refine Fz.mk _ (frzH hs0) ?_
  refine ACall.mk _ _ hLen ?_
  refine Need.mk ⟨closed_v, no_objs⟩ ?_
  refine Need.mk (by decide) ?_
  refine Num.mk ((n / 2 : Nat) : Int) (wrapI' (tdivN' n 2) (by omega)) ?_
  refine Num.mk (((n / 2 : Nat) : Int) - 1) (wrapI (by omega) (by omega)) ?_
  refine ALoop.mk (fun m s => ∃ (k : Nat) (hs : List Hd1), m = k ∧ k ≤ n ∧ hs.length = n ∧ (∀ a ∈ hs, a.1 ≠ []) ∧ initF n k hs = R ∧ s = S hs ((k : Int) - 1))
    ⟨n / 2, _, Weak.nrm [true, false, true, true] [(0, 0)] rfl rfl rfl, n / 2, hs0, rfl, by omega, hn, hne, hR0, rfl⟩ ?_
  clear hR0
  rintro m s ⟨k, hs, rfl, hk, hln, hne, hR, hs0⟩
  by_cases h0 : m = 0
  · subst h0
    have hF : hs = R := hR
    rw [hF] at hs0
    subst hs0
    refine Split.mk fun t ht => ?_
    cases t
    · exact Need.mk ⟨[], _, .same, rfl, rfl⟩ trivial
    · cases ht
  · have hex : ∃ g, m = g + 1 := ⟨m - 1, by omega⟩
    obtain ⟨g, hg⟩ := hex
    subst hg
    have hii : (((g + 1 : Nat) : Int) - 1) = (g : Int) := by omega
    rw [hii] at hs0
    have hD := heap_down hs g n (by omega) (by omega) (by omega) (fun k hk => hne _ (getH_mem (by omega)))
    have hne2 : ∀ a ∈ downF hl hd0 (n - g) hs g n, a.1 ≠ [] := fun a ha => hne a ((down_perm _ _ _ _ (by omega)).mem_iff.1 ha)
    have hR2 : initF n g (downF hl hd0 (n - g) hs g n) = R := hR
    subst hs0
    refine Split.mk fun t ht => ?_
    cases t
    case false => rw [decide_eq_false_iff_not] at ht; omega
    refine ACall.mk _ _ hD ?_
    refine Split.mk fun t _ => ?_
    refine Num.mk ((g : Int) - 1) (wrapI (by omega) (by omega)) ?_
    exact ⟨g, _, by omega, Weak.nrm [true, false, true, true] [(0, 0)] rfl rfl rfl, g, downF hl hd0 (n - g) hs g n, rfl, by omega, by rw [down_len]; exact hln, hne2, hR2, rfl⟩
theorem heap_up0 (hs : List Hd1) : AFnK Try.prog 128 [.ifc 98 (.bx 0 0), av (.int .i64 0)] [[.us 96 (hs.map encH)]] [0] (.tup []) [[.us 96 (hs.map encH)]] := by
  refine AFnK.introX (E := En 1 md0) (en_ok 1 _) Try.func128 rfl rfl rfl fun _ _ => ?_
  let S : St := ⟨some (.ifc 98 (.bx 0 0)) :: some (av (.int .i64 0)) :: List.replicate 21 none, ⟨0, 0, some [.us 96 (hs.map encH)]⟩ :: List.replicate 23 absent⟩
  refine ALoop.mk (fun m s => s = S) ⟨0, _, Weak.nrm [true, true] [(0, 0)] rfl rfl rfl, rfl⟩ ?_
  rintro m s hs0
  subst hs0
  refine Num.mk (-1) (wrapI (by decide) (by decide)) ?_
  refine Need.mk (by decide) ?_
  refine Num.mk 0 (wrapI (by decide) (by decide)) ?_
  refine Split.mk fun t ht => ?_
  cases t
  · cases ht
  · exact Need.mk ⟨[], _, .same, rfl, rfl⟩ trivial
theorem heap_Fix (hs : List Hd1) (n : Nat) (hn : n = hs.length) (hll : hs.length ≤ 1099511627776) (hne : ∀ a ∈ hs, a.1 ≠ []) :
    AFnK Try.prog 74 [.ifc 98 (.bx 0 0), av (.int .i64 0)] [[.us 96 (hs.map encH)]] [0] (.tup []) [[.us 96 ((downF hl hd0 n hs 0 n).map encH)]] := by
  refine AFnK.introX (E := En 1 md0) (en_ok 1 _) Try.func74 rfl rfl rfl fun _ _ => ?_
  have hLen := heads_Len hs
  rw [← hn] at hLen
  have hD := heap_down hs 0 n (by omega) hll (by omega) (fun k hk => hne _ (getH_mem (by omega)))
  rw [Nat.sub_zero] at hD
  have hU := heap_up0 (downF hl hd0 n hs 0 n)
  refine Fz.mk _ (frzH hs) ?_
  refine ACall.mk _ _ hLen ?_
  refine Need.mk ⟨closed_v, no_objs⟩ ?_
  refine ACall.mk _ _ hD ?_
  refine Split.mk fun t _ => ?_
  cases t
  · refine ACall.mk _ _ hU ?_
    exact Need.mk ⟨[], _, .same, rfl, rfl⟩ trivial
  · exact Need.mk ⟨[], _, .same, rfl, rfl⟩ trivial
theorem heap_Pop (hs : List Hd1) (h0 : 0 < hs.length) (hll : hs.length ≤ 1099511627776) (hne : ∀ k, 0 < k → k < hs.length → (hs.getD k hd0).1 ≠ []) :
    AFnK Try.prog 73 [.ifc 98 (.bx 0 0)] [[.us 96 (hs.map encH)]] [0] (.one .x) [[.us 96 ((popF hs).map encH)]] := by
  refine AFnK.introX (E := En 1 (md1 [194])) (en_ok 1 _) Try.func73 rfl rfl rfl fun _ _ => ?_
  have hLen := heads_Len hs
  have hex : ∃ n, hs.length - 1 = n := ⟨_, rfl⟩
  obtain ⟨n, hn⟩ := hex
  have hS := heads_Swap hs 0 n h0 (by omega)
  have hD := heap_down (swapL hd0 hs 0 n) 0 n (by rw [swapL_len]; omega) (by rw [swapL_len]; exact hll) (by omega) (fun k hk => by
    rw [swapL_get (by omega) (by omega), if_neg (by omega)]
    split
    · exact hne _ (by omega) (by omega)
    · exact hne k (by omega) (by omega))
  rw [Nat.sub_zero] at hD
  have hP := heads_Pop (downF hl hd0 n (swapL hd0 hs 0 n) 0 n) (by rw [down_len, swapL_len]; exact h0) (by rw [down_len, swapL_len]; exact hll)
  rw [down_len, swapL_len, hn] at hP
  have hF : popF hs = (downF hl hd0 n (swapL hd0 hs 0 n) 0 n).take n := by rw [popF, hn]
  rw [hF]
  refine Fz.mk _ (frzH hs) ?_
  refine ACall.mk _ _ hLen ?_
  refine Need.mk ⟨closed_v, no_objs⟩ ?_
  refine Num.mk ((n : Nat) : Int) (wrapI' (by omega) (by omega)) ?_
  refine ACall.mk _ _ hS ?_
  refine ACall.mk _ _ hD ?_
  refine Split.mk fun t _ => ?_
  refine ACall.mk _ _ hP ?_
  exact Need.mk ⟨[], _, .same, rfl, rfl⟩ trivial
end Go.Proofs.Ytlmdheeammfihaa

namespace Go.Proofs.Ytlmdheeammfihaa
open Go Go.Proofs Ev
set_option maxRecDepth 100000
set_option linter.unusedSimpArgs false
set_option linter.unusedVariables false
set_option maxHeartbeats 20000000
theorem sizeH (a b : List (List C)) (hs : List Hd1) (r : List C) (k : Nat) (ha : a = hs.map encH) (hb : b = [r]) (hk : k ≤ 100) (h : hs.length ≤ 2000000) : (a.length + b.length) * k ≤ 140737488355328 ∧ a.length + b.length ≤ maxLen := by
  subst ha; subst hb
  rw [List.length_map]
  have : (hs.length + [r].length) * k ≤ (hs.length + [r].length) * 100 := Nat.mul_le_mul_left _ hk
  simp only [List.length_cons, List.length_nil] at this ⊢
  exact ⟨by omega, Nat.le_trans (by omega : hs.length + 1 ≤ 2000001) (by decide)⟩
theorem spec_MergeAll (L : List (List Ent)) (hN : L.flatten.length ≤ 1048576) (hL : L.length ≤ 1048576) : AFn Try.prog 27 [sl (L.map encX)] [] (.one (.us 32 ((isort eLess L.flatten).map Ent.enc))) [] := by
  refine AFn.introX (E := En 0 md0) (en_ok 0 _) Try.func27 rfl rfl rfl fun _ _ => ?_
  have hn : (L.map encX).length = L.length := List.length_map ..
  have htot : ∀ i, i ≤ L.length → ((L.take i).flatten).length ≤ L.flatten.length := fun i _ => by
    have : L.flatten = (L.take i).flatten ++ (L.drop i).flatten := by rw [← List.flatten_append, List.take_append_drop]
    rw [this, List.length_append]; omega
  have hstep : ∀ (i : Nat) (h : i < L.length), (L.take (i + 1)).flatten = (L.take i).flatten ++ L[i] := fun i h => by
    rw [List.take_succ_eq_append_getElem h, List.flatten_append]; simp
  let S : Nat → List Ent → Nat → St := fun kd out i => ⟨some (sl (L.map encX)) :: none :: none :: some (.one (.ref 3 0 (.cell 0))) :: some (av (.int .i64 i)) :: List.replicate 27 none, absent :: absent :: absent :: ⟨0, kd, some [.us 32 (out.map Ent.enc)]⟩ :: List.replicate 28 absent⟩
  let S2 : Nat → List Ent → Nat → Nat → St := fun kd out i k => ⟨some (sl (L.map encX)) :: none :: none :: some (.one (.ref 3 0 (.cell 0))) :: some (av (.int .i64 i)) :: some (av (.int .i64 k)) :: List.replicate 26 none, absent :: absent :: absent :: ⟨0, kd, some [.us 32 (out.map Ent.enc)]⟩ :: List.replicate 28 absent⟩
  refine ALoop.mk (fun m s => ∃ i kd : Nat, i ≤ L.length ∧ m = L.length - i ∧ s = S kd (isort eLess (L.take i).flatten) i)
    ⟨L.length, _, Weak.nrm [true, false, false, true, true] [(6, 3)] rfl rfl rfl, 0, 2, Nat.zero_le _, rfl, rfl⟩ ?_
  rintro m s ⟨i, kd, hi, rfl, hs⟩
  by_cases hin : i = L.length
  · rw [hin, List.take_length] at hs
    subst hs
    refine Split.mk fun t ht => ?_
    rw [hn] at ht
    cases t
    case true => rw [decide_eq_true_iff] at ht; omega
    exact Need.mk ⟨[], _, .same, rfl, rfl⟩ trivial
  · have hia : i < L.length := by omega
    have hst := hstep i hia
    have htt := htot (i + 1) hia
    rw [hst, List.length_append] at htt
    have hrow := map_get encX L i hia
    have hln : (L[i].map Ent.enc).length = L[i].length := List.length_map ..
    have hex : ∃ l, L[i] = l := ⟨_, rfl⟩
    obtain ⟨l, hle⟩ := hex
    rw [hle] at hst htt hrow hln
    have hex : ∃ A, (L.take i).flatten = A := ⟨_, rfl⟩
    obtain ⟨A, hA⟩ := hex
    rw [hA] at hst htt hs
    subst hs
    refine Split.mk fun t ht => ?_
    rw [hn] at ht
    cases t
    case false => rw [decide_eq_false_iff_not] at ht; omega
    refine ALoop.mk (fun m s => ∃ k kd : Nat, k ≤ l.length ∧ m = l.length - k ∧ s = S2 kd (isort eLess (A ++ l.take k)) i k)
      ⟨l.length, _, Weak.nrm [true, false, false, true, true, true] [(3, 3)] rfl rfl rfl, 0, kd, Nat.zero_le _, rfl, by rw [List.take_zero, List.append_nil]; rfl⟩ ?_
    rintro m s ⟨k, kd, hk, rfl, hs⟩
    by_cases hkn : k = l.length
    · rw [hkn, List.take_length] at hs
      subst hs
      refine Need.mk (by omega) ?_
      refine Row.mk _ hrow ?_
      refine Split.mk fun t ht => ?_
      rw [hln] at ht
      cases t
      case true => rw [decide_eq_true_iff] at ht; omega
      refine Num.mk _ (wrapS (by omega)) ?_
      refine ⟨L.length - (i + 1), _, by omega, Weak.nrm [true, false, false, true, true] [(3, 3)] rfl rfl rfl, i + 1, kd, by omega, rfl, ?_⟩
      rw [hst]; rfl
    · have hka : k < l.length := by omega
      have hrow2 := map_get Ent.enc l k hka
      have hlen : (isort eLess (A ++ l.take k)).length ≤ 1048576 := by rw [isort_len, List.length_append, List.length_take]; omega
      have hins : ins eLess (isort eLess (A ++ l.take k)) l[k] = isort eLess (A ++ l.take (k + 1)) := by rw [← isort_snoc, List.append_assoc, ← List.take_succ_eq_append_getElem hka]
      have hex : ∃ ys, isort eLess (A ++ l.take k) = ys := ⟨_, rfl⟩
      obtain ⟨ys, hy⟩ := hex
      rw [hy] at hs hlen hins
      have hP := spec_l4Put ys l[k] hlen
      subst hs
      refine Need.mk (by omega) ?_
      refine Row.mk _ hrow ?_
      refine Split.mk fun t ht => ?_
      rw [hln] at ht
      cases t
      case false => rw [decide_eq_false_iff_not] at ht; omega
      refine Need.mk (by omega) ?_
      refine Row.mk _ hrow ?_
      refine Need.mk (by omega) ?_
      refine Row.mk _ hrow2 ?_
      refine Fz.mk _ (frzE ys) ?_
      refine ACall.mk _ _ hP ?_
      refine Need.mk ⟨closed_us _ _, no_objs⟩ ?_
      refine Num.mk _ (wrapS (by omega)) ?_
      refine ⟨l.length - (k + 1), _, by omega, Weak.nrm [true, false, false, true, true, true] [(30, 3)] rfl rfl rfl, k + 1, 1, by omega, rfl, ?_⟩
      rw [← hins]; rfl
theorem impl_MergeAll (L : List (List Ent)) (hN : L.flatten.length ≤ 1048576) (hL : L.length ≤ 1048576) : AFn Try.prog 26 [sl (L.map encX)] [] (.one (.us 32 ((isort eLess L.flatten).map Ent.enc))) [] := by
  refine AFn.introX (E := En 0 (md1 [62]) (fz := [26])) (en_ok 0 _ _ _ _ _) Try.func26 rfl rfl rfl fun _ _ => ?_
  have hpos : 0 < Try.prog.cellsOf 32 := pos_of tab_ok (t := 32) rfl
  have hn : (L.map encX).length = L.length := List.length_map ..
  have hmem : ∀ l ∈ L, l.length ≤ 1048576 := fun l hl => by
    have := sum_mem List.length hl
    rw [← List.length_flatten] at this
    omega
  have hex : ∃ K, L.map (isort eLess) = K := ⟨_, rfl⟩
  obtain ⟨K, hK⟩ := hex
  have hKl : K.length = L.length := by rw [← hK, List.length_map]
  have hKi : ∀ (i : Nat) (h : i < L.length), K[i]'(by omega) = isort eLess L[i] := fun i h => by subst hK; simp
  have hKs : ∀ l ∈ K, Srt eLess l := fun l hl => by
    rw [← hK] at hl
    obtain ⟨l0, _, rfl⟩ := List.mem_map.1 hl
    exact srt_isort eLess_wk _
  have hKf : isort eLess K.flatten = isort eLess L.flatten := by rw [← hK]; exact isort_flat L
  have hKn : K.flatten.length ≤ 1048576 := by rw [← hK, flat_len]; exact hN
  have hlv := live_len K
  have hlt : ∀ i, (live (K.take i)).length ≤ 1048576 := fun i => Nat.le_trans (live_len _) (by rw [List.length_take]; omega)
  have hI := heap_Init (live K) (by omega) (fun a ha => live_ne ha)
  obtain ⟨hp1, hp2⟩ := initF_ok ((live K).length / 2) (live K).length (live K) (Nat.le_refl _) (by omega) (fun c h0 hc hlo => by unfold par at hlo; omega)
  have hex : ∃ Z, isort eLess L.flatten = Z := ⟨_, rfl⟩
  obtain ⟨Z, hZ⟩ := hex
  rw [hZ] at hKf
  rw [hZ]
  have hex : ∃ H0, initF (live K).length ((live K).length / 2) (live K) = H0 := ⟨_, rfl⟩
  obtain ⟨H0, hH0⟩ := hex
  rw [hH0] at hI hp1 hp2
  let S1 : List Hd1 → Nat → St := fun hs i => ⟨none :: none :: none :: some (.bx 3 0) :: none :: none :: none :: none :: some (sl (L.map encX)) :: some (av (.int .i64 ((L.map encX).length : Nat))) :: some (av (.int .i64 i)) :: List.replicate 51 none, absent :: absent :: absent :: ⟨0, 0, some [.us 96 (hs.map encH)]⟩ :: List.replicate 58 absent⟩
  let S2 : List Hd1 → List Ent → St := fun hs out => ⟨none :: none :: none :: some (.bx 3 0) :: none :: none :: none :: some (.one (.ref 7 0 (.cell 0))) :: List.replicate 54 none, absent :: absent :: absent :: ⟨0, 0, some [.us 96 (hs.map encH)]⟩ :: absent :: absent :: absent :: ⟨0, 1, some [.us 32 (out.map Ent.enc)]⟩ :: List.replicate 54 absent⟩
  refine ALoop.mk (fun m s => ∃ i : Nat, i ≤ L.length ∧ m = L.length - i ∧ s = S1 (live (K.take i)) i)
    ⟨L.length, _, Weak.nrm [false, false, false, true, false, false, false, false, true, true, true] [(3, 3)] rfl rfl rfl, 0, Nat.zero_le _, rfl, rfl⟩ ?_
  rintro m s ⟨i, hi, rfl, hs⟩
  by_cases hin : i = L.length
  · have e : K.take i = K := List.take_of_length_le (by omega)
    rw [e] at hs
    subst hs
    refine Split.mk fun t ht => ?_
    rw [hn] at ht
    cases t
    case true => rw [decide_eq_true_iff] at ht; omega
    refine ACall.mk _ _ hI ?_
    refine ALoop.mk (fun m s => ∃ (M : List (List Ent)) (hs : List Hd1) (out : List Ent), m = M.flatten.length ∧ hs.Perm (live M) ∧ (∀ l ∈ M, Srt eLess l) ∧ HP hl hd0 hs hs.length 0 ∧ out ++ isort eLess M.flatten = Z ∧ out.length + M.flatten.length ≤ 1048576 ∧ hs.length ≤ 1048576 ∧ s = S2 hs out)
      ⟨K.flatten.length, _, Weak.trans (Weak.nrm [false, false, false, true, false, false, false, true] [(3, 3)] rfl rfl rfl) (Weak.nilOwn 7 7 32 rfl rfl hpos), K, H0, [], rfl, hp2, hKs, by rw [hp2.length_eq]; exact hp1, by rw [hKf]; rfl, by simpa using hKn, by rw [hp2.length_eq]; omega, rfl⟩ ?_
    rintro m s ⟨M, hs, out, rfl, hperm, hsrt, hhp, hout, hlen, hhl, hs0⟩
    cases hs with
    | nil =>
      have hM : M.flatten = [] := live_none (List.nil_perm.1 hperm)
      have ho : out = Z := by rw [← hout, hM]; exact (List.append_nil _).symm
      rw [ho] at hs0
      subst hs0
      refine Split.mk fun t ht => ?_
      cases t
      case true => cases ht
      exact Need.mk ⟨[], _, .same, rfl, rfl⟩ trivial
    | cons h0 tl =>
      obtain ⟨l0, p⟩ := h0
      have hl0 : l0 ≠ [] := live_ne (hperm.mem_iff.1 (List.mem_cons_self ..))
      have hex : ∃ x t, l0 = x :: t := List.exists_cons_of_ne_nil hl0
      obtain ⟨x, t, hl0e⟩ := hex
      subst hl0e
      obtain ⟨M', m1, m2, m3, m4, m5⟩ := live_round hperm hsrt hhp
      have hout2 : (out ++ [x]) ++ isort eLess M'.flatten = Z := by rw [← hout, m2]; simp
      have hlen2 : (out ++ [x]).length + M'.flatten.length ≤ 1048576 := by rw [List.length_append, List.length_singleton]; omega
      have hhl2 : tl.length + 1 ≤ 1048576 := hhl
      have hne : ∀ a ∈ tl, a.1 ≠ [] := fun a ha => live_ne (hperm.mem_iff.1 (List.mem_cons_of_mem _ ha))
      have hn0 : (0 : Int) ≤ 0 ∧ (0 : Int) < (((((x :: t, p) : Hd1) :: tl).map encH).length : Nat) := by rw [List.length_map, List.length_cons]; omega
      have hcut : (((x :: t).map Ent.enc).drop (1 : Int).toNat).take ((((x :: t).map Ent.enc).length : Int) - 1).toNat = t.map Ent.enc := by
        rw [List.length_map, List.length_cons]
        exact List.take_of_length_le (by show (t.map Ent.enc).length ≤ _; rw [List.length_map]; omega)
      have hrows : (((t, p) : Hd1) :: tl).map encH = [C.sl ((((x :: t).map Ent.enc).drop (1 : Int).toNat).take ((((x :: t).map Ent.enc).length : Int) - 1).toNat), vi (p : Nat)] :: tl.map encH := by rw [hcut]; rfl
      have hneed : (0 : Int) ≤ 1 ∧ (1 : Int) ≤ (((x :: t).map Ent.enc).length : Nat) ∧ (((x :: t).map Ent.enc).length : Int) ≤ (((x :: t).map Ent.enc).length : Nat) ∧ ∀ r ∈ (x :: t).map Ent.enc, r.length = 5 := ⟨by omega, by rw [List.length_map, List.length_cons]; omega, by omega, lenE _⟩
      have htl : ((((x :: t).map Ent.enc).drop (1 : Int).toNat).take ((((x :: t).map Ent.enc).length : Int) - 1).toNat).length = t.length := by rw [hcut, List.length_map]
      by_cases ht0 : t = []
      · have hP := heap_Pop ((t, p) :: tl) (by simp) (by simp; omega) (fun k hk hkl => by
          cases k with
          | zero => omega
          | succ k => exact hne _ (getH_mem (by simpa using hkl)))
        obtain ⟨q1, q2⟩ := pop_ok (a := (t, p)) hhp
        have hex : ∃ H, popF ((t, p) :: tl) = H := ⟨_, rfl⟩
        obtain ⟨H, hH⟩ := hex
        rw [hH] at hP q1 q2
        rw [hrows] at hP
        subst hs0
        refine Split.mk fun b ht => ?_
        cases b
        case false => rw [decide_eq_false_iff_not] at ht; exact absurd hn0.2 ht
        refine Need.mk hn0 ?_
        refine Row.mk _ rfl ?_
        refine Need.mk (by decide) ?_
        refine Row.mk _ rfl ?_
        refine Need.mk (sizeOk _ _ out [x] rfl rfl (by simp; omega)) ?_
        refine Need.mk hn0 ?_
        refine Row.mk _ rfl ?_
        refine Need.mk hneed ?_
        refine Need.mk hn0 ?_
        refine Row.mk _ rfl ?_
        refine Need.mk rfl ?_
        refine Need.mk hn0 ?_
        refine Row.mk _ rfl ?_
        refine Split.mk fun b ht => ?_
        rw [htl] at ht
        cases b
        case false => rw [ht0] at ht; cases ht
        refine ACall.mk _ _ hP ?_
        refine ⟨M'.flatten.length, _, by omega, Weak.nrm [false, false, false, true, false, false, false, true] [(3, 3), (42, 7)] rfl rfl rfl, M', H, out ++ [x], rfl, q2.trans (m4 ht0), m1, by rw [q2.length_eq]; exact q1, hout2, hlen2, by rw [q2.length_eq]; omega, ?_⟩
        refine Eq.trans (b := ⟨none :: none :: none :: some (.bx 3 0) :: none :: none :: none :: some (.one (.ref 7 0 (.cell 0))) :: List.replicate 54 none, absent :: absent :: absent :: ⟨0, 0, some [.us 96 (H.map encH)]⟩ :: absent :: absent :: absent :: ⟨0, 1, some [.us 32 (out.map Ent.enc ++ [x.enc])]⟩ :: List.replicate 54 absent⟩) rfl ?_
        rw [show out.map Ent.enc ++ [x.enc] = (out ++ [x]).map Ent.enc by rw [List.map_append]; rfl]
      · have hF := heap_Fix ((t, p) :: tl) (tl.length + 1) rfl (by simp; omega) (fun a ha => by
          rcases List.mem_cons.1 ha with h | h
          · subst h; exact ht0
          · exact hne a h)
        obtain ⟨q1, q2⟩ := fix_ok (a := (t, p)) hhp
        have hex : ∃ H, downF hl hd0 (tl.length + 1) ((t, p) :: tl) 0 (tl.length + 1) = H := ⟨_, rfl⟩
        obtain ⟨H, hH⟩ := hex
        rw [hH] at hF q1 q2
        rw [hrows] at hF
        subst hs0
        refine Split.mk fun b ht => ?_
        cases b
        case false => rw [decide_eq_false_iff_not] at ht; exact absurd hn0.2 ht
        refine Need.mk hn0 ?_
        refine Row.mk _ rfl ?_
        refine Need.mk (by decide) ?_
        refine Row.mk _ rfl ?_
        refine Need.mk (sizeOk _ _ out [x] rfl rfl (by simp; omega)) ?_
        refine Need.mk hn0 ?_
        refine Row.mk _ rfl ?_
        refine Need.mk hneed ?_
        refine Need.mk hn0 ?_
        refine Row.mk _ rfl ?_
        refine Need.mk rfl ?_
        refine Need.mk hn0 ?_
        refine Row.mk _ rfl ?_
        refine Split.mk fun b ht => ?_
        rw [htl] at ht
        cases b
        case true => rw [beq_iff_eq] at ht; exact absurd (List.eq_nil_of_length_eq_zero (by omega)) ht0
        refine ACall.mk _ _ hF ?_
        refine ⟨M'.flatten.length, _, by omega, Weak.nrm [false, false, false, true, false, false, false, true] [(3, 3), (42, 7)] rfl rfl rfl, M', H, out ++ [x], rfl, q2.trans (m5 ht0), m1, by rw [q2.length_eq]; exact q1, hout2, hlen2, by rw [q2.length_eq]; simp; omega, ?_⟩
        refine Eq.trans (b := ⟨none :: none :: none :: some (.bx 3 0) :: none :: none :: none :: some (.one (.ref 7 0 (.cell 0))) :: List.replicate 54 none, absent :: absent :: absent :: ⟨0, 0, some [.us 96 (H.map encH)]⟩ :: absent :: absent :: absent :: ⟨0, 1, some [.us 32 (out.map Ent.enc ++ [x.enc])]⟩ :: List.replicate 54 absent⟩) rfl ?_
        rw [show out.map Ent.enc ++ [x.enc] = (out ++ [x]).map Ent.enc by rw [List.map_append]; rfl]
  · have hia : i < L.length := by omega
    have hrow := map_get encX L i hia
    have hln : (L[i].map Ent.enc).length = L[i].length := List.length_map ..
    have hle := hmem L[i] (List.getElem_mem hia)
    have hlv := live_take (L := K) (i := i) (by omega)
    rw [hKi i hia] at hlv
    have hht := hlt i
    have hex : ∃ l, L[i] = l := ⟨_, rfl⟩
    obtain ⟨l, hle0⟩ := hex
    rw [hle0] at hrow hln hle hlv
    have hex : ∃ hs, live (K.take i) = hs := ⟨_, rfl⟩
    obtain ⟨hs1, hhs⟩ := hex
    rw [hhs] at hlv hht hs
    have hSt := slices_SortStable 63 eLess eLess_wk entryOrder_ok l (by omega)
    by_cases hl0 : l = []
    · have hlv2 : live (K.take (i + 1)) = hs1 := by rw [hlv, hl0]; exact List.append_nil _
      subst hs
      refine Split.mk fun t ht => ?_
      rw [hn] at ht
      cases t
      case false => rw [decide_eq_false_iff_not] at ht; omega
      refine Need.mk (by omega) ?_
      refine Row.mk _ hrow ?_
      refine Split.mk fun t ht => ?_
      rw [hln] at ht
      cases t
      case true => rw [decide_eq_true_iff, hl0] at ht; cases ht
      refine Num.mk _ (wrapS (by omega)) ?_
      exact ⟨L.length - (i + 1), _, by omega, Weak.nrm [false, false, false, true, false, false, false, false, true, true, true] [(3, 3)] rfl rfl rfl, i + 1, by omega, rfl, by rw [hlv2]; rfl⟩
    · have hlpos : 0 < l.length := List.length_pos_iff.2 hl0
      have hse : (isort eLess l).isEmpty = false := by
        have := isort_len eLess l
        cases hx : isort eLess l with
        | nil => rw [hx] at this; simp at this; omega
        | cons _ _ => rfl
      have hlv2 : live (K.take (i + 1)) = hs1 ++ [(isort eLess l, i)] := by rw [hlv, hse]; rfl
      have hex : ∃ ys, isort eLess l = ys := ⟨_, rfl⟩
      obtain ⟨ys, hy⟩ := hex
      rw [hy] at hSt hlv2
      subst hs
      refine Split.mk fun t ht => ?_
      rw [hn] at ht
      cases t
      case false => rw [decide_eq_false_iff_not] at ht; omega
      refine Need.mk (by omega) ?_
      refine Row.mk _ hrow ?_
      refine Split.mk fun t ht => ?_
      rw [hln] at ht
      cases t
      case false => rw [decide_eq_false_iff_not] at ht; omega
      refine Need.mk ⟨plainE l, lenE l⟩ ?_
      refine Need.mk (sizeOk _ _ [] l rfl rfl (by simp; omega)) ?_
      refine ACall.mk _ _ hSt ?_
      refine Fz.mk _ (frzE ys) ?_
      refine Need.mk (sizeH _ _ hs1 _ _ rfl rfl (by decide) (by omega)) ?_
      refine Num.mk _ (wrapS (by omega)) ?_
      refine ⟨L.length - (i + 1), _, by omega, Weak.nrm [false, false, false, true, false, false, false, false, true, true, true] [(3, 3)] rfl rfl rfl, i + 1, by omega, rfl, ?_⟩
      rw [hlv2]
      refine Eq.trans (b := ⟨none :: none :: none :: some (.bx 3 0) :: none :: none :: none :: none :: some (sl (L.map encX)) :: some (av (.int .i64 ((L.map encX).length : Nat))) :: some (av (.int .i64 (i + 1 : Nat))) :: List.replicate 51 none, absent :: absent :: absent :: ⟨0, 0, some [.us 96 (hs1.map encH ++ [encH (ys, i)])]⟩ :: List.replicate 58 absent⟩) rfl ?_
      rw [show hs1.map encH ++ [encH (ys, i)] = (hs1 ++ [(ys, i)]).map encH by rw [List.map_append]; rfl]
end Go.Proofs.Ytlmdheeammfihaa

namespace Go.Proofs.Ytlmdheeammfihaa
open Go Go.Proofs Ev
set_option maxRecDepth 100000
set_option linter.unusedSimpArgs false
set_option linter.unusedVariables false
set_option maxHeartbeats 16000000
theorem cellAll_permD {l D : List Ent} {key : ByteArray} {t : Int} (hp : (findE l key t).Perm D) (hD : Desc D) : cellAll l key t = runC cel0 D := by
  have hm : isort sLess (findE l key t) = D.reverse := by
    refine srt_uniq ((isort_perm _ _).trans (hp.trans (List.reverse_perm _).symm)) (srt_isort sLess_wk _) ((List.pairwise_reverse.2 hD).imp fun {x y} h => ?_) fun x hx y hy h1 h2 => ?_
    · simp only [sLess, decide_eq_false_iff_not]; omega
    · have hx := hp.mem_iff.1 ((isort_perm _ _).mem_iff.1 hx)
      have hy := hp.mem_iff.1 ((isort_perm _ _).mem_iff.1 hy)
      simp only [sLess, decide_eq_false_iff_not] at h1 h2
      obtain ⟨i, hi, rfl⟩ := List.getElem_of_mem hx
      obtain ⟨j, hj, rfl⟩ := List.getElem_of_mem hy
      by_cases hij : i = j
      · subst hij; rfl
      · by_cases hlt : i < j
        · have := List.pairwise_iff_getElem.1 hD i j hi hj hlt; omega
        · have := List.pairwise_iff_getElem.1 hD j i hj hi (by omega); omega
  unfold cellAll mine
  rw [hm, List.foldl_reverse]; rfl
def hiE (at0 : Int) (l : List Ent) : List Ent := l.filter fun e => decide (at0 < e.seq)
def loE (at0 : Int) (l : List Ent) : List Ent := l.filter fun e => !decide (at0 < e.seq)
theorem hiE_snoc {a : Int} {l : List Ent} {e : Ent} (h : a < e.seq) : hiE a (l ++ [e]) = hiE a l ++ [e] ∧ loE a (l ++ [e]) = loE a l := by
  unfold hiE loE
  rw [List.filter_append, List.filter_append]
  simp [h]
theorem loE_snoc {a : Int} {l : List Ent} {e : Ent} (h : ¬ a < e.seq) : hiE a (l ++ [e]) = hiE a l ∧ loE a (l ++ [e]) = loE a l ++ [e] := by
  unfold hiE loE
  rw [List.filter_append, List.filter_append]
  simp [h]
theorem part_ord {l : List Ent} (p : Ent → Bool) (h : ordOk l = true) : ordOk (l.filter p) = true :=
  ord_of_pw ((pw_of_ord h).sublist List.filter_sublist) fun e he => ordOk_all h e (List.mem_filter.1 he).1
theorem both_ord {a : Int} {A B : List Ent} (hA : ordOk A = true) (hB : ordOk B = true) (hAa : ∀ e ∈ A, a < e.seq) (hBa : ∀ e ∈ B, ¬ a < e.seq) : ordOk (isort eLess (A ++ B)) = true := by
  have hd : (A ++ B).Pairwise fun x y => eLess x y = true ∨ eLess y x = true := List.pairwise_append.2 ⟨(pw_of_ord hA).imp fun h => .inl h, (pw_of_ord hB).imp fun h => .inl h, fun x hx y hy => eLess_seq (by have := hAa x hx; have := hBa y hy; omega)⟩
  have hp := isort_perm eLess (A ++ B)
  have hs := srt_isort eLess_wk (A ++ B)
  have hd2 : (isort eLess (A ++ B)).Pairwise fun x y => eLess x y = true ∨ eLess y x = true := (hp.symm.pairwise_iff (fun {x y} h => h.symm)).1 hd
  refine ord_of_pw (List.pairwise_iff_getElem.2 fun i j hi hj hij => ?_) fun e he => ?_
  · have a := List.pairwise_iff_getElem.1 hd2 i j hi hj hij
    have b := List.pairwise_iff_getElem.1 hs i j hi hj hij
    rcases a with a | a
    · exact a
    · rw [b] at a; cases a
  · rcases List.mem_append.1 (hp.mem_iff.1 he) with h | h
    · exact ordOk_all hA e h
    · exact ordOk_all hB e h
theorem desc_two {a : Int} {A B : List Ent} {key : ByteArray} {t : Int} (hA : ordOk A = true) (hB : ordOk B = true) (hAa : ∀ e ∈ A, a < e.seq) (hBa : ∀ e ∈ B, ¬ a < e.seq) : Desc (findE A key t ++ findE B key t) :=
  List.pairwise_append.2 ⟨findE_desc (pw_of_ord hA) key t, findE_desc (pw_of_ord hB) key t, fun x hx y hy => by have := hAa x (findE_sub hx); have := hBa y (findE_sub hy); omega⟩
theorem parts_cell {a : Int} {l : List Ent} {snaps : List Int} {key : ByteArray} {t : Int} (h : ordOk l = true) (ht : t ∈ snaps ∨ ∀ e ∈ l, e.seq ≤ t) :
    ordOk (isort eLess (squash (hiE a l) snaps false ++ squash (loE a l) snaps true)) = true ∧
    cellAll (squash (isort eLess (squash (hiE a l) snaps false ++ squash (loE a l) snaps true)) snaps true) key t = cellAll (squash l snaps true) key t := by
  have hH : ordOk (hiE a l) = true := part_ord _ h
  have hL : ordOk (loE a l) = true := part_ord _ h
  have hHa : ∀ e ∈ hiE a l, a < e.seq := fun e he => by simpa using (List.mem_filter.1 he).2
  have hLa : ∀ e ∈ loE a l, ¬ a < e.seq := fun e he => by simpa using (List.mem_filter.1 he).2
  have hA := squash_ok (snaps := snaps) (last := false) hH
  have hB := squash_ok (snaps := snaps) (last := true) hL
  have hAa : ∀ e ∈ squash (hiE a l) snaps false, a < e.seq := fun e he => by
    obtain ⟨e', h1, h2, _⟩ := squash_mem he
    rw [h2]; exact hHa e' h1
  have hBa : ∀ e ∈ squash (loE a l) snaps true, ¬ a < e.seq := fun e he => by
    obtain ⟨e', h1, h2, _⟩ := squash_mem he
    rw [h2]; exact hLa e' h1
  have hO := both_ord hA hB hAa hBa
  refine ⟨hO, ?_⟩
  have hp := isort_perm eLess (squash (hiE a l) snaps false ++ squash (loE a l) snaps true)
  have hsub : ∀ {p : Ent → Bool} {s : Bool} {e : Ent}, e ∈ squash (l.filter p) snaps s → ∃ e' ∈ l, e.seq = e'.seq := fun he => by
    obtain ⟨e', h1, h2, _⟩ := squash_mem he
    exact ⟨e', (List.mem_filter.1 h1).1, h2⟩
  have ht2 : t ∈ snaps ∨ ∀ e ∈ isort eLess (squash (hiE a l) snaps false ++ squash (loE a l) snaps true), e.seq ≤ t := ht.imp_right fun ht e he => by
    rcases List.mem_append.1 (hp.mem_iff.1 he) with he | he
    · obtain ⟨e', h1, h2⟩ := hsub he; rw [h2]; exact ht e' h1
    · obtain ⟨e', h1, h2⟩ := hsub he; rw [h2]; exact ht e' h1
  rw [squash_cell hO ht2, squash_cell h ht]
  have e1 := cellAll_permD (l := isort eLess (squash (hiE a l) snaps false ++ squash (loE a l) snaps true)) (key := key) (t := t) ((hp.filter _).trans (by rw [List.filter_append]; exact List.Perm.refl _)) (desc_two hA hB hAa hBa)
  have e2 := cellAll_permD (l := l) (key := key) (t := t) (D := findE (hiE a l) key t ++ findE (loE a l) key t) (((List.filter_append_perm (fun e => decide (a < e.seq)) l).symm.filter _).trans (by rw [List.filter_append]; exact List.Perm.refl _)) (desc_two hH hL hHa hLa)
  rw [e1, e2, runC_app, runC_app, squash_run (fun _ => rfl) hL (ht.imp_right fun ht e he => ht e ((List.mem_filter.1 he).1)), squash_run (last := false) (fun h => nomatch h) hH (ht.imp_right fun ht e he => ht e ((List.mem_filter.1 he).1))]
theorem laws_FnSquashParts (bs ms : List Nat) (hb : ∀ b ∈ bs, b < 256) (hm : ∀ b ∈ ms, b < 256) : AFn Try.prog 9 [sl (bs.map encB), sl (ms.map encB)] [] (rb true) [] := by
  have hbl : (bs.map encB).length = bs.length := List.length_map ..
  have hml : (ms.map encB).length = ms.length := List.length_map ..
  by_cases hl : bs.length ≤ 1048576
  · by_cases hl2 : ms.length ≤ 1048576
    · obtain ⟨xs, snaps, b, hD, hxl, hE, hsl, hsn⟩ := Draw_Squash bs hb hl
      have hOk : OkE xs := fun e he => (hE e he).2.1
      have hS1 := impl_Squash xs snaps (by omega) (by omega) hOk true
      have hS2 := spec_Squash xs snaps (by omega) (by omega) hOk true
      have hS3 := impl_Squash xs [] (by simp) (by omega) hOk false
      have hlen : ∀ (l : List Ent) (sn : List Int) (c : Bool), (squashed l sn c).length ≤ l.length := fun l sn c => by
        unfold squashed
        split
        · exact squash_len
        · exact Nat.zero_le _
      have hol := hlen xs snaps true
      have hql := hlen xs [] false
      have hbad : ordOk xs = false → squashed xs snaps true = [] ∧ squashed xs [] false = [] := fun h => by unfold squashed; rw [h]; exact ⟨rfl, rfl⟩
      have hgood : ordOk xs = true → squashed xs snaps true = squash xs snaps true := fun h => if_pos h
      have hex : ∃ o, squashed xs snaps true = o := ⟨_, rfl⟩
      obtain ⟨o, ho⟩ := hex
      have hex : ∃ q, squashed xs [] false = q := ⟨_, rfl⟩
      obtain ⟨q, hq⟩ := hex
      rw [ho] at hS1 hS2 hol hbad hgood
      rw [hq] at hS3 hql hbad
      have hW := laws_wpEnts o o (by omega)
      rw [decide_eq_true rfl] at hW
      have hxn : (xs.map Ent.enc).length = xs.length := List.length_map ..
      have hon : (o.map Ent.enc).length = o.length := List.length_map ..
      have hqn : (q.map Ent.enc).length = q.length := List.length_map ..
      have hsnn : (snaps.map encI).length = snaps.length := List.length_map ..
      by_cases hx0 : 0 < xs.length ∧ o.length = 0 ∧ q.length = 0
      · obtain ⟨hx1, ho0, hq0⟩ := hx0
        refine AFn.introX (E := En 0 md0 (fz := [5, 6, 8, 100, 13, 14, 15])) (en_ok 0 _ _ _ _ _) Try.func9 rfl rfl rfl fun _ _ => ?_
        refine Split.mk fun t h1 => ?_
        cases t
        case true => (exfalso; rw [decide_eq_true_iff] at h1; omega)
        rw [decide_eq_false_iff_not] at h1
        refine Split.mk fun t h2 => ?_
        cases t
        case true => (exfalso; rw [decide_eq_true_iff] at h2; omega)
        rw [decide_eq_false_iff_not] at h2
        refine ACall.mk _ _ hD ?_
        refine Fz.mk _ (frzE _) ?_
        refine Fz.mk _ (frzI _) ?_
        refine ACall.mk _ _ hS1 ?_
        refine Fz.mk _ (frzE _) ?_
        refine ACall.mk _ _ hS2 ?_
        refine Fz.mk _ (frzE _) ?_
        refine ACall.mk _ _ hW ?_
        refine Need.mk (⟨ClL.mem (.v .nil), no_objs⟩) ?_
        refine Split.mk fun t h3 => ?_
        cases t
        case false => cases h3
        refine Split.mk fun t h4 => ?_
        cases t
        case false => (exfalso; rw [decide_eq_false_iff_not] at h4; omega)
        rw [decide_eq_true_iff] at h4
        refine Split.mk fun t h5 => ?_
        cases t
        case false => (exfalso; rw [beq_eq_false_iff_ne] at h5; omega)
        rw [beq_iff_eq] at h5
        refine ACall.mk _ _ hS3 ?_
        refine Split.mk fun t h6 => ?_
        cases t
        case false => (exfalso; rw [beq_eq_false_iff_ne] at h6; omega)
        rw [beq_iff_eq] at h6
        refine ACall.mk _ _ hS2 ?_
        refine Fz.mk _ (frzE _) ?_
        refine ACall.mk _ _ hW ?_
        refine Need.mk (⟨ClL.mem (.v .nil), no_objs⟩) ?_
        refine Split.mk fun t h7 => ?_
        cases t
        case false => cases h7
        exact Need.mk ⟨[], _, .same, rfl, rfl⟩ trivial
      · have hord : ordOk xs = true := by
          cases h : ordOk xs with
          | true => rfl
          | false =>
            obtain ⟨h1, h2⟩ := hbad h
            refine absurd ⟨?_, by rw [h1]; rfl, by rw [h2]; rfl⟩ hx0
            cases xs with
            | nil => cases h
            | cons _ _ => exact Nat.zero_lt_succ _
        have hgood := hgood hord
        by_cases hx1 : xs.length = 0
        · refine AFn.introX (E := En 0 md0 (fz := [5, 6, 8, 100, 13, 14, 15])) (en_ok 0 _ _ _ _ _) Try.func9 rfl rfl rfl fun _ _ => ?_
          refine Split.mk fun t h1 => ?_
          cases t
          case true => (exfalso; rw [decide_eq_true_iff] at h1; omega)
          rw [decide_eq_false_iff_not] at h1
          refine Split.mk fun t h2 => ?_
          cases t
          case true => (exfalso; rw [decide_eq_true_iff] at h2; omega)
          rw [decide_eq_false_iff_not] at h2
          refine ACall.mk _ _ hD ?_
          refine Fz.mk _ (frzE _) ?_
          refine Fz.mk _ (frzI _) ?_
          refine ACall.mk _ _ hS1 ?_
          refine Fz.mk _ (frzE _) ?_
          refine ACall.mk _ _ hS2 ?_
          refine Fz.mk _ (frzE _) ?_
          refine ACall.mk _ _ hW ?_
          refine Need.mk (⟨ClL.mem (.v .nil), no_objs⟩) ?_
          refine Split.mk fun t h3 => ?_
          cases t
          case false => cases h3
          refine Split.mk fun t h4 => ?_
          cases t
          case true => (exfalso; rw [decide_eq_true_iff] at h4; omega)
          rw [decide_eq_false_iff_not] at h4
          refine Need.mk (by omega) ?_
          let S : Nat → List (List C) → List (List C) → St := fun i R1 R2 => ⟨none :: none :: none :: none :: none :: some (sl (List.map Ent.enc xs)) :: some (sl (List.map encI snaps)) :: none :: some (sl (List.map Ent.enc o)) :: some (av (.int .i64 (Int.tmod ↑(List.map encB ms).length 30))) :: some (.one (.ref 10 0 (.cell 0))) :: some (.one (.ref 11 0 (.cell 0))) :: some (av (.int .i64 i)) :: List.replicate 130 none, absent :: absent :: absent :: absent :: absent :: absent :: absent :: absent :: absent :: absent :: ⟨0, 1, some [.us 32 R1]⟩ :: ⟨0, 1, some [.us 32 R2]⟩ :: List.replicate 131 absent⟩
          refine ALoop.mk (fun m s => ∃ (i : Nat) (R1 R2 : List (List C)), i ≤ xs.length ∧ m = xs.length - i ∧ R1 = (hiE (Int.tmod ↑(List.map encB ms).length 30) (xs.take i)).map Ent.enc ∧ R2 = (loE (Int.tmod ↑(List.map encB ms).length 30) (xs.take i)).map Ent.enc ∧ s = S i R1 R2)
            ⟨_, _, Weak.trans (Weak.nrm [false, false, false, false, false, true, true, false, true, true, true, true, true] [(65, 10), (66, 11)] rfl rfl rfl) Weak.one, 0, [], [], Nat.zero_le _, rfl, rfl, rfl, rfl⟩ ?_
          rintro m s ⟨i, R1, R2, hi, rfl, hR1, hR2, hs⟩
          have hR1l : R1.length ≤ 15 := by rw [hR1, List.length_map]; exact Nat.le_trans (List.length_filter_le _ _) (by rw [List.length_take]; omega)
          have hR2l : R2.length ≤ 15 := by rw [hR2, List.length_map]; exact Nat.le_trans (List.length_filter_le _ _) (by rw [List.length_take]; omega)
          by_cases hin : i < xs.length
          · exact absurd hin (by omega)
          · have hin : i = xs.length := by omega
            rw [hin, List.take_length] at hR1 hR2
            have hex : ∃ a0, Int.tmod ↑(List.map encB ms).length 30 = a0 := ⟨_, rfl⟩
            obtain ⟨a0, ha0⟩ := hex
            rw [ha0] at hR1 hR2
            have hpc := fun key t ht => parts_cell (a := a0) (snaps := snaps) (key := key) (t := t) hord ht
            have hHo : ordOk (hiE a0 xs) = true := part_ord _ hord
            have hLo : ordOk (loE a0 xs) = true := part_ord _ hord
            have hHl : (hiE a0 xs).length ≤ 15 := Nat.le_trans (List.length_filter_le _ _) (by omega)
            have hLl : (loE a0 xs).length ≤ 15 := Nat.le_trans (List.length_filter_le _ _) (by omega)
            have hHk : OkE (hiE a0 xs) := fun e he => hOk e (List.mem_filter.1 he).1
            have hLk : OkE (loE a0 xs) := fun e he => hOk e (List.mem_filter.1 he).1
            have hT1 := impl_Squash (hiE a0 xs) snaps (by omega) (by omega) hHk false
            have hT2 := impl_Squash (loE a0 xs) snaps (by omega) (by omega) hLk true
            rw [show squashed (hiE a0 xs) snaps false = squash (hiE a0 xs) snaps false from if_pos hHo] at hT1
            rw [show squashed (loE a0 xs) snaps true = squash (loE a0 xs) snaps true from if_pos hLo] at hT2
            have hAl := squash_len (l := hiE a0 xs) (snaps := snaps) (last := false)
            have hBl := squash_len (l := loE a0 xs) (snaps := snaps) (last := true)
            have hkE : ∀ (l : List Ent), ordOk l = true → OkE l := fun l h e he => by
              have h1 := ordOk_all h e he
              unfold entOk at h1
              rw [Bool.and_eq_true, Bool.and_eq_true, Bool.and_eq_true, Bool.and_eq_true, decide_eq_true_iff, decide_eq_true_iff, decide_eq_true_iff] at h1
              have hk := h1.1
              unfold keyOk at hk
              rw [Bool.and_eq_true, Bool.and_eq_true, decide_eq_true_iff, decide_eq_true_iff] at hk
              exact ⟨Nat.le_trans hk.1.2 (by decide), Nat.le_trans h1.2.2.2.1 (by decide)⟩
            have hex : ∃ H, hiE a0 xs = H := ⟨_, rfl⟩
            obtain ⟨H, hH⟩ := hex
            have hex : ∃ L, loE a0 xs = L := ⟨_, rfl⟩
            obtain ⟨L, hL⟩ := hex
            rw [hH] at hR1 hpc hHl hT1 hAl
            rw [hL] at hR2 hpc hLl hT2 hBl
            have hex : ∃ A, squash H snaps false = A := ⟨_, rfl⟩
            obtain ⟨A, hA⟩ := hex
            have hex : ∃ B, squash L snaps true = B := ⟨_, rfl⟩
            obtain ⟨B, hB⟩ := hex
            rw [hA] at hpc hT1 hAl
            rw [hB] at hpc hT2 hBl
            have hM := impl_MergeAll [A, B] (by simp; omega) (by simp)
            have hfl : [A, B].flatten = A ++ B := by simp
            rw [hfl] at hM
            have hob : ordOk (isort eLess (A ++ B)) = true := (hpc ⟨#[]⟩ 100000 (.inr fun e he => by have := (hE e he).2.2.2.1; omega)).1
            have hbl2 : (isort eLess (A ++ B)).length ≤ 30 := by rw [isort_len, List.length_append]; omega
            have hT3 := impl_Squash (isort eLess (A ++ B)) snaps (by omega) (by omega) (hkE _ hob) true
            rw [show squashed (isort eLess (A ++ B)) snaps true = squash (isort eLess (A ++ B)) snaps true from if_pos hob] at hT3
            have hZl := squash_len (l := isort eLess (A ++ B)) (snaps := snaps) (last := true)
            have hex : ∃ D, isort eLess (A ++ B) = D := ⟨_, rfl⟩
            obtain ⟨D, hD2⟩ := hex
            rw [hD2] at hM hT3 hpc hbl2 hZl
            have hex : ∃ Z, squash D snaps true = Z := ⟨_, rfl⟩
            obtain ⟨Z, hZ⟩ := hex
            rw [hZ] at hT3 hpc hZl
            have hAn : (A.map Ent.enc).length = A.length := List.length_map ..
            have hBn : (B.map Ent.enc).length = B.length := List.length_map ..
            have hZn : (Z.map Ent.enc).length = Z.length := List.length_map ..
            have hfT : Frz (.us 3 ([[vi 100000]] ++ snaps.map encI)) (.sl ((100000 :: snaps).map encI)) := frzI (100000 :: snaps)
            have hex : ∃ ts, 100000 :: snaps = ts := ⟨_, rfl⟩
            obtain ⟨ts, hts⟩ := hex
            have htl : ts.length ≤ 4 := by rw [← hts]; simp; omega
            have htm : ∀ t ∈ ts, t ∈ snaps ∨ ∀ e ∈ xs, e.seq ≤ t := fun t h => by
              rw [← hts] at h
              rcases List.mem_cons.1 h with h | h
              · exact .inr fun e he => by have := (hE e he).2.2.2.1; omega
              · exact .inl h
            rw [hts] at hfT
            have htn : (ts.map encI).length = ts.length := List.length_map ..
            have hcell : ∀ key t, t ∈ ts → cellAll Z key t = cellAll o key t := fun key t ht => by
              rw [hgood]
              exact (hpc key t (htm t ht)).2
            have hfX : Frz (.us 23 [[.us 32 (A.map Ent.enc)], [.us 32 (B.map Ent.enc)]]) (.sl ([A, B].map encX)) := frzX [A, B]
            subst hR1
            subst hR2
            subst hs
            refine Split.mk fun t h1 => ?_
            cases t
            case true => (exfalso; rw [decide_eq_true_iff] at h1; omega)
            rw [decide_eq_false_iff_not] at h1
            refine Fz.mk _ (frzE _) ?_
            refine ACall.mk _ _ hT1 ?_
            refine Need.mk (⟨ClL.mem (.us (clE _) .nil), no_objs⟩) ?_
            refine Fz.mk _ (frzE _) ?_
            refine ACall.mk _ _ hT2 ?_
            refine Need.mk (⟨ClL.mem (.us (clE _) .nil), no_objs⟩) ?_
            refine Fz.mk _ (frzE _) ?_
            refine Fz.mk _ (frzE _) ?_
            refine Fz.mk _ (FrzLL.frz (.cons (.cons .sl .nil) (.cons (.cons .sl .nil) .nil))) ?_
            refine ACall.mk _ _ hM ?_
            refine Need.mk (⟨ClL.mem (.us (clE _) .nil), no_objs⟩) ?_
            refine Fz.mk _ (frzE _) ?_
            refine ACall.mk _ _ hT3 ?_
            refine Fz.mk _ (frzE _) ?_
            refine Need.mk (⟨(plainI _), (lenI _)⟩) ?_
            refine Need.mk (appEq (A' := [[vi 100000]]) (B' := _) rfl rfl (by simp only [List.length_append, List.length_map, List.length_take, List.length_drop, List.length_cons, List.length_nil, List.length_reverse, List.length_replicate, List.length_set]; omega) (by decide)) ?_
            refine Fz.mk _ hfT ?_
            let S2 : Nat → St := fun i => ⟨none :: none :: none :: none :: none :: some (sl (List.map Ent.enc xs)) :: none :: none :: some (sl (List.map Ent.enc o)) :: none :: none :: none :: none :: none :: some (sl (List.map Ent.enc Z)) :: some (sl (List.map encI ts)) :: some (av (.int .i64 i)) :: List.replicate 126 none, List.replicate 143 absent⟩
            refine ALoop.mk (fun m s => ∃ i : Nat, i ≤ xs.length ∧ m = xs.length - i ∧ s = S2 i)
              ⟨_, _, Weak.nrm [false, false, false, false, false, true, false, false, true, false, false, false, false, false, true, true, true] [] rfl rfl rfl, 0, Nat.zero_le _, rfl, rfl⟩ ?_
            rintro m s ⟨i, hi, rfl, hs⟩
            by_cases hin : i < xs.length
            · exact absurd hin (by omega)
            · subst hs
              refine Split.mk fun t h1 => ?_
              cases t
              case true => (exfalso; rw [decide_eq_true_iff] at h1; omega)
              rw [decide_eq_false_iff_not] at h1
              exact Need.mk ⟨[], _, .same, rfl, rfl⟩ trivial
        · by_cases ho0 : o.length = 0
          · have hq0 : ¬ q.length = 0 := fun h => hx0 ⟨by omega, ho0, h⟩
            refine AFn.introX (E := En 0 md0 (fz := [5, 6, 8, 100, 13, 14, 15])) (en_ok 0 _ _ _ _ _) Try.func9 rfl rfl rfl fun _ _ => ?_
            refine Split.mk fun t h1 => ?_
            cases t
            case true => (exfalso; rw [decide_eq_true_iff] at h1; omega)
            rw [decide_eq_false_iff_not] at h1
            refine Split.mk fun t h2 => ?_
            cases t
            case true => (exfalso; rw [decide_eq_true_iff] at h2; omega)
            rw [decide_eq_false_iff_not] at h2
            refine ACall.mk _ _ hD ?_
            refine Fz.mk _ (frzE _) ?_
            refine Fz.mk _ (frzI _) ?_
            refine ACall.mk _ _ hS1 ?_
            refine Fz.mk _ (frzE _) ?_
            refine ACall.mk _ _ hS2 ?_
            refine Fz.mk _ (frzE _) ?_
            refine ACall.mk _ _ hW ?_
            refine Need.mk (⟨ClL.mem (.v .nil), no_objs⟩) ?_
            refine Split.mk fun t h3 => ?_
            cases t
            case false => cases h3
            refine Split.mk fun t h4 => ?_
            cases t
            case false => (exfalso; rw [decide_eq_false_iff_not] at h4; omega)
            rw [decide_eq_true_iff] at h4
            refine Split.mk fun t h5 => ?_
            cases t
            case false => (exfalso; rw [beq_eq_false_iff_ne] at h5; omega)
            rw [beq_iff_eq] at h5
            refine ACall.mk _ _ hS3 ?_
            refine Split.mk fun t h6 => ?_
            cases t
            case true => (exfalso; rw [beq_iff_eq] at h6; omega)
            rw [beq_eq_false_iff_ne] at h6
            refine Need.mk (by omega) ?_
            let S : Nat → List (List C) → List (List C) → St := fun i R1 R2 => ⟨none :: none :: none :: none :: none :: some (sl (List.map Ent.enc xs)) :: some (sl (List.map encI snaps)) :: none :: some (sl (List.map Ent.enc o)) :: some (av (.int .i64 (Int.tmod ↑(List.map encB ms).length 30))) :: some (.one (.ref 10 0 (.cell 0))) :: some (.one (.ref 11 0 (.cell 0))) :: some (av (.int .i64 i)) :: List.replicate 130 none, absent :: absent :: absent :: absent :: absent :: absent :: absent :: absent :: absent :: absent :: ⟨0, 1, some [.us 32 R1]⟩ :: ⟨0, 1, some [.us 32 R2]⟩ :: List.replicate 131 absent⟩
            refine ALoop.mk (fun m s => ∃ (i : Nat) (R1 R2 : List (List C)), i ≤ xs.length ∧ m = xs.length - i ∧ R1 = (hiE (Int.tmod ↑(List.map encB ms).length 30) (xs.take i)).map Ent.enc ∧ R2 = (loE (Int.tmod ↑(List.map encB ms).length 30) (xs.take i)).map Ent.enc ∧ s = S i R1 R2)
              ⟨_, _, Weak.trans (Weak.nrm [false, false, false, false, false, true, true, false, true, true, true, true, true] [(65, 10), (66, 11)] rfl rfl rfl) Weak.one, 0, [], [], Nat.zero_le _, rfl, rfl, rfl, rfl⟩ ?_
            rintro m s ⟨i, R1, R2, hi, rfl, hR1, hR2, hs⟩
            have hR1l : R1.length ≤ 15 := by rw [hR1, List.length_map]; exact Nat.le_trans (List.length_filter_le _ _) (by rw [List.length_take]; omega)
            have hR2l : R2.length ≤ 15 := by rw [hR2, List.length_map]; exact Nat.le_trans (List.length_filter_le _ _) (by rw [List.length_take]; omega)
            by_cases hin : i < xs.length
            · have htk := List.take_succ_eq_append_getElem hin
              by_cases hgt : Int.tmod ↑(List.map encB ms).length 30 < xs[i].seq
              · obtain ⟨k1, k2⟩ := hiE_snoc (l := xs.take i) hgt
                have hR3 : R1 ++ [xs[i].enc] = (hiE (Int.tmod ↑(List.map encB ms).length 30) (xs.take (i + 1))).map Ent.enc := by rw [htk, k1, List.map_append, hR1]; rfl
                have hR4 : R2 = (loE (Int.tmod ↑(List.map encB ms).length 30) (xs.take (i + 1))).map Ent.enc := by rw [htk, k2, hR2]
                subst hs
                refine Split.mk fun t h1 => ?_
                cases t
                case false => (exfalso; rw [decide_eq_false_iff_not] at h1; omega)
                rw [decide_eq_true_iff] at h1
                refine Need.mk (by omega) ?_
                refine Row.mk _ (map_get _ xs i (by omega)) ?_
                refine Split.mk fun t h2 => ?_
                cases t
                case false => (exfalso; rw [decide_eq_false_iff_not] at h2; omega)
                rw [decide_eq_true_iff] at h2
                refine Need.mk (by omega) ?_
                refine Row.mk _ (map_get _ xs i (by omega)) ?_
                refine Need.mk (appEq (A' := _) (B' := [xs[i].enc]) rfl rfl (by simp only [List.length_append, List.length_map, List.length_take, List.length_drop, List.length_cons, List.length_nil, List.length_reverse, List.length_replicate, List.length_set]; omega) (by decide)) ?_
                refine Num.mk _ (wrapS (by omega)) ?_
                exact ⟨_, _, by omega, Weak.nrm [false, false, false, false, false, true, true, false, true, true, true, true, true] [(86, 10), (11, 11)] rfl rfl rfl, i + 1, _, _, by omega, rfl, hR3, hR4, rfl⟩
              · obtain ⟨k1, k2⟩ := loE_snoc (l := xs.take i) hgt
                have hR3 : R1 = (hiE (Int.tmod ↑(List.map encB ms).length 30) (xs.take (i + 1))).map Ent.enc := by rw [htk, k1, hR1]
                have hR4 : R2 ++ [xs[i].enc] = (loE (Int.tmod ↑(List.map encB ms).length 30) (xs.take (i + 1))).map Ent.enc := by rw [htk, k2, List.map_append, hR2]; rfl
                subst hs
                refine Split.mk fun t h1 => ?_
                cases t
                case false => (exfalso; rw [decide_eq_false_iff_not] at h1; omega)
                rw [decide_eq_true_iff] at h1
                refine Need.mk (by omega) ?_
                refine Row.mk _ (map_get _ xs i (by omega)) ?_
                refine Split.mk fun t h2 => ?_
                cases t
                case true => (exfalso; rw [decide_eq_true_iff] at h2; omega)
                rw [decide_eq_false_iff_not] at h2
                refine Need.mk (by omega) ?_
                refine Row.mk _ (map_get _ xs i (by omega)) ?_
                refine Need.mk (appEq (A' := _) (B' := [xs[i].enc]) rfl rfl (by simp only [List.length_append, List.length_map, List.length_take, List.length_drop, List.length_cons, List.length_nil, List.length_reverse, List.length_replicate, List.length_set]; omega) (by decide)) ?_
                refine Num.mk _ (wrapS (by omega)) ?_
                exact ⟨_, _, by omega, Weak.nrm [false, false, false, false, false, true, true, false, true, true, true, true, true] [(10, 10), (93, 11)] rfl rfl rfl, i + 1, _, _, by omega, rfl, hR3, hR4, rfl⟩
            · have hin : i = xs.length := by omega
              rw [hin, List.take_length] at hR1 hR2
              have hex : ∃ a0, Int.tmod ↑(List.map encB ms).length 30 = a0 := ⟨_, rfl⟩
              obtain ⟨a0, ha0⟩ := hex
              rw [ha0] at hR1 hR2
              have hpc := fun key t ht => parts_cell (a := a0) (snaps := snaps) (key := key) (t := t) hord ht
              have hHo : ordOk (hiE a0 xs) = true := part_ord _ hord
              have hLo : ordOk (loE a0 xs) = true := part_ord _ hord
              have hHl : (hiE a0 xs).length ≤ 15 := Nat.le_trans (List.length_filter_le _ _) (by omega)
              have hLl : (loE a0 xs).length ≤ 15 := Nat.le_trans (List.length_filter_le _ _) (by omega)
              have hHk : OkE (hiE a0 xs) := fun e he => hOk e (List.mem_filter.1 he).1
              have hLk : OkE (loE a0 xs) := fun e he => hOk e (List.mem_filter.1 he).1
              have hT1 := impl_Squash (hiE a0 xs) snaps (by omega) (by omega) hHk false
              have hT2 := impl_Squash (loE a0 xs) snaps (by omega) (by omega) hLk true
              rw [show squashed (hiE a0 xs) snaps false = squash (hiE a0 xs) snaps false from if_pos hHo] at hT1
              rw [show squashed (loE a0 xs) snaps true = squash (loE a0 xs) snaps true from if_pos hLo] at hT2
              have hAl := squash_len (l := hiE a0 xs) (snaps := snaps) (last := false)
              have hBl := squash_len (l := loE a0 xs) (snaps := snaps) (last := true)
              have hkE : ∀ (l : List Ent), ordOk l = true → OkE l := fun l h e he => by
                have h1 := ordOk_all h e he
                unfold entOk at h1
                rw [Bool.and_eq_true, Bool.and_eq_true, Bool.and_eq_true, Bool.and_eq_true, decide_eq_true_iff, decide_eq_true_iff, decide_eq_true_iff] at h1
                have hk := h1.1
                unfold keyOk at hk
                rw [Bool.and_eq_true, Bool.and_eq_true, decide_eq_true_iff, decide_eq_true_iff] at hk
                exact ⟨Nat.le_trans hk.1.2 (by decide), Nat.le_trans h1.2.2.2.1 (by decide)⟩
              have hex : ∃ H, hiE a0 xs = H := ⟨_, rfl⟩
              obtain ⟨H, hH⟩ := hex
              have hex : ∃ L, loE a0 xs = L := ⟨_, rfl⟩
              obtain ⟨L, hL⟩ := hex
              rw [hH] at hR1 hpc hHl hT1 hAl
              rw [hL] at hR2 hpc hLl hT2 hBl
              have hex : ∃ A, squash H snaps false = A := ⟨_, rfl⟩
              obtain ⟨A, hA⟩ := hex
              have hex : ∃ B, squash L snaps true = B := ⟨_, rfl⟩
              obtain ⟨B, hB⟩ := hex
              rw [hA] at hpc hT1 hAl
              rw [hB] at hpc hT2 hBl
              have hM := impl_MergeAll [A, B] (by simp; omega) (by simp)
              have hfl : [A, B].flatten = A ++ B := by simp
              rw [hfl] at hM
              have hob : ordOk (isort eLess (A ++ B)) = true := (hpc ⟨#[]⟩ 100000 (.inr fun e he => by have := (hE e he).2.2.2.1; omega)).1
              have hbl2 : (isort eLess (A ++ B)).length ≤ 30 := by rw [isort_len, List.length_append]; omega
              have hT3 := impl_Squash (isort eLess (A ++ B)) snaps (by omega) (by omega) (hkE _ hob) true
              rw [show squashed (isort eLess (A ++ B)) snaps true = squash (isort eLess (A ++ B)) snaps true from if_pos hob] at hT3
              have hZl := squash_len (l := isort eLess (A ++ B)) (snaps := snaps) (last := true)
              have hex : ∃ D, isort eLess (A ++ B) = D := ⟨_, rfl⟩
              obtain ⟨D, hD2⟩ := hex
              rw [hD2] at hM hT3 hpc hbl2 hZl
              have hex : ∃ Z, squash D snaps true = Z := ⟨_, rfl⟩
              obtain ⟨Z, hZ⟩ := hex
              rw [hZ] at hT3 hpc hZl
              have hAn : (A.map Ent.enc).length = A.length := List.length_map ..
              have hBn : (B.map Ent.enc).length = B.length := List.length_map ..
              have hZn : (Z.map Ent.enc).length = Z.length := List.length_map ..
              have hfT : Frz (.us 3 ([[vi 100000]] ++ snaps.map encI)) (.sl ((100000 :: snaps).map encI)) := frzI (100000 :: snaps)
              have hex : ∃ ts, 100000 :: snaps = ts := ⟨_, rfl⟩
              obtain ⟨ts, hts⟩ := hex
              have htl : ts.length ≤ 4 := by rw [← hts]; simp; omega
              have htm : ∀ t ∈ ts, t ∈ snaps ∨ ∀ e ∈ xs, e.seq ≤ t := fun t h => by
                rw [← hts] at h
                rcases List.mem_cons.1 h with h | h
                · exact .inr fun e he => by have := (hE e he).2.2.2.1; omega
                · exact .inl h
              rw [hts] at hfT
              have htn : (ts.map encI).length = ts.length := List.length_map ..
              have hcell : ∀ key t, t ∈ ts → cellAll Z key t = cellAll o key t := fun key t ht => by
                rw [hgood]
                exact (hpc key t (htm t ht)).2
              have hfX : Frz (.us 23 [[.us 32 (A.map Ent.enc)], [.us 32 (B.map Ent.enc)]]) (.sl ([A, B].map encX)) := frzX [A, B]
              subst hR1
              subst hR2
              subst hs
              refine Split.mk fun t h1 => ?_
              cases t
              case true => (exfalso; rw [decide_eq_true_iff] at h1; omega)
              rw [decide_eq_false_iff_not] at h1
              refine Fz.mk _ (frzE _) ?_
              refine ACall.mk _ _ hT1 ?_
              refine Need.mk (⟨ClL.mem (.us (clE _) .nil), no_objs⟩) ?_
              refine Fz.mk _ (frzE _) ?_
              refine ACall.mk _ _ hT2 ?_
              refine Need.mk (⟨ClL.mem (.us (clE _) .nil), no_objs⟩) ?_
              refine Fz.mk _ (frzE _) ?_
              refine Fz.mk _ (frzE _) ?_
              refine Fz.mk _ (FrzLL.frz (.cons (.cons .sl .nil) (.cons (.cons .sl .nil) .nil))) ?_
              refine ACall.mk _ _ hM ?_
              refine Need.mk (⟨ClL.mem (.us (clE _) .nil), no_objs⟩) ?_
              refine Fz.mk _ (frzE _) ?_
              refine ACall.mk _ _ hT3 ?_
              refine Fz.mk _ (frzE _) ?_
              refine Need.mk (⟨(plainI _), (lenI _)⟩) ?_
              refine Need.mk (appEq (A' := [[vi 100000]]) (B' := _) rfl rfl (by simp only [List.length_append, List.length_map, List.length_take, List.length_drop, List.length_cons, List.length_nil, List.length_reverse, List.length_replicate, List.length_set]; omega) (by decide)) ?_
              refine Fz.mk _ hfT ?_
              let S2 : Nat → St := fun i => ⟨none :: none :: none :: none :: none :: some (sl (List.map Ent.enc xs)) :: none :: none :: some (sl (List.map Ent.enc o)) :: none :: none :: none :: none :: none :: some (sl (List.map Ent.enc Z)) :: some (sl (List.map encI ts)) :: some (av (.int .i64 i)) :: List.replicate 126 none, List.replicate 143 absent⟩
              refine ALoop.mk (fun m s => ∃ i : Nat, i ≤ xs.length ∧ m = xs.length - i ∧ s = S2 i)
                ⟨_, _, Weak.nrm [false, false, false, false, false, true, false, false, true, false, false, false, false, false, true, true, true] [] rfl rfl rfl, 0, Nat.zero_le _, rfl, rfl⟩ ?_
              rintro m s ⟨i, hi, rfl, hs⟩
              by_cases hin : i < xs.length
              · have hC : ∀ t, AFn Try.prog 28 [sl (Z.map Ent.enc), av (.string xs[i].key), av (.int .i64 t)] [] (.agg (cellAll Z xs[i].key t).enc) [] := fun t => impl_CellAll Z _ t (by omega)
                have hC' : ∀ t, AFn Try.prog 28 [sl (o.map Ent.enc), av (.string xs[i].key), av (.int .i64 t)] [] (.agg (cellAll o xs[i].key t).enc) [] := fun t => impl_CellAll o _ t (by omega)
                subst hs
                refine Split.mk fun t h1 => ?_
                cases t
                case false => (exfalso; rw [decide_eq_false_iff_not] at h1; omega)
                rw [decide_eq_true_iff] at h1
                let S3 : Nat → St := fun k => ⟨none :: none :: none :: none :: none :: some (sl (List.map Ent.enc xs)) :: none :: none :: some (sl (List.map Ent.enc o)) :: none :: none :: none :: none :: none :: some (sl (List.map Ent.enc Z)) :: some (sl (List.map encI ts)) :: some (av (.int .i64 i)) :: some (av (.int .i64 k)) :: List.replicate 125 none, List.replicate 143 absent⟩
                refine ALoop.mk (fun m s => ∃ k : Nat, k ≤ ts.length ∧ m = ts.length - k ∧ s = S3 k)
                  ⟨_, _, Weak.nrm [false, false, false, false, false, true, false, false, true, false, false, false, false, false, true, true, true, true] [] rfl rfl rfl, 0, Nat.zero_le _, rfl, rfl⟩ ?_
                rintro m s ⟨k, hk, rfl, hs⟩
                by_cases hkn : k < ts.length
                · have hC1 := hC ts[k]
                  have hC2 := hC' ts[k]
                  have hce := hcell xs[i].key ts[k] (List.getElem_mem hkn)
                  have hex : ∃ c, cellAll o xs[i].key ts[k] = c := ⟨_, rfl⟩
                  obtain ⟨c, hc⟩ := hex
                  rw [hc] at hce hC2
                  rw [hce] at hC1
                  have hcr : c = c := rfl
                  subst hs
                  refine Split.mk fun t h1 => ?_
                  cases t
                  case false => (exfalso; rw [decide_eq_false_iff_not] at h1; omega)
                  rw [decide_eq_true_iff] at h1
                  refine Need.mk (by omega) ?_
                  refine Row.mk _ (map_get _ xs i (by omega)) ?_
                  refine Need.mk (by omega) ?_
                  refine Row.mk _ (map_get _ ts k (by omega)) ?_
                  refine ACall.mk _ _ hC1 ?_
                  refine Need.mk (by omega) ?_
                  refine Row.mk _ (map_get _ xs i (by omega)) ?_
                  refine Need.mk (by omega) ?_
                  refine Row.mk _ (map_get _ ts k (by omega)) ?_
                  refine ACall.mk _ _ hC2 ?_
                  refine Split.mk fun t h2 => ?_
                  cases t
                  case true => (exfalso; rw [Bool.not_eq_true', cel_beq, decide_eq_false_iff_not] at h2; exact absurd ‹_› h2)
                  rw [Bool.not_eq_false', cel_beq, decide_eq_true_iff] at h2
                  refine Need.mk (rfl) ?_
                  refine Num.mk _ (wrapS (by omega)) ?_
                  exact ⟨_, _, by omega, Weak.nrm [false, false, false, false, false, true, false, false, true, false, false, false, false, false, true, true, true, true] [] rfl rfl rfl, k + 1, by omega, rfl, rfl⟩
                · subst hs
                  refine Split.mk fun t h1 => ?_
                  cases t
                  case true => (exfalso; rw [decide_eq_true_iff] at h1; omega)
                  rw [decide_eq_false_iff_not] at h1
                  refine Num.mk _ (wrapS (by omega)) ?_
                  exact ⟨_, _, by omega, Weak.nrm [false, false, false, false, false, true, false, false, true, false, false, false, false, false, true, true, true] [] rfl rfl rfl, i + 1, by omega, rfl, rfl⟩
              · subst hs
                refine Split.mk fun t h1 => ?_
                cases t
                case true => (exfalso; rw [decide_eq_true_iff] at h1; omega)
                rw [decide_eq_false_iff_not] at h1
                exact Need.mk ⟨[], _, .same, rfl, rfl⟩ trivial
          · refine AFn.introX (E := En 0 md0 (fz := [5, 6, 8, 100, 13, 14, 15])) (en_ok 0 _ _ _ _ _) Try.func9 rfl rfl rfl fun _ _ => ?_
            refine Split.mk fun t h1 => ?_
            cases t
            case true => (exfalso; rw [decide_eq_true_iff] at h1; omega)
            rw [decide_eq_false_iff_not] at h1
            refine Split.mk fun t h2 => ?_
            cases t
            case true => (exfalso; rw [decide_eq_true_iff] at h2; omega)
            rw [decide_eq_false_iff_not] at h2
            refine ACall.mk _ _ hD ?_
            refine Fz.mk _ (frzE _) ?_
            refine Fz.mk _ (frzI _) ?_
            refine ACall.mk _ _ hS1 ?_
            refine Fz.mk _ (frzE _) ?_
            refine ACall.mk _ _ hS2 ?_
            refine Fz.mk _ (frzE _) ?_
            refine ACall.mk _ _ hW ?_
            refine Need.mk (⟨ClL.mem (.v .nil), no_objs⟩) ?_
            refine Split.mk fun t h3 => ?_
            cases t
            case false => cases h3
            refine Split.mk fun t h4 => ?_
            cases t
            case false => (exfalso; rw [decide_eq_false_iff_not] at h4; omega)
            rw [decide_eq_true_iff] at h4
            refine Split.mk fun t h5 => ?_
            cases t
            case true => (exfalso; rw [beq_iff_eq] at h5; omega)
            rw [beq_eq_false_iff_ne] at h5
            refine Need.mk (by omega) ?_
            let S : Nat → List (List C) → List (List C) → St := fun i R1 R2 => ⟨none :: none :: none :: none :: none :: some (sl (List.map Ent.enc xs)) :: some (sl (List.map encI snaps)) :: none :: some (sl (List.map Ent.enc o)) :: some (av (.int .i64 (Int.tmod ↑(List.map encB ms).length 30))) :: some (.one (.ref 10 0 (.cell 0))) :: some (.one (.ref 11 0 (.cell 0))) :: some (av (.int .i64 i)) :: List.replicate 130 none, absent :: absent :: absent :: absent :: absent :: absent :: absent :: absent :: absent :: absent :: ⟨0, 1, some [.us 32 R1]⟩ :: ⟨0, 1, some [.us 32 R2]⟩ :: List.replicate 131 absent⟩
            refine ALoop.mk (fun m s => ∃ (i : Nat) (R1 R2 : List (List C)), i ≤ xs.length ∧ m = xs.length - i ∧ R1 = (hiE (Int.tmod ↑(List.map encB ms).length 30) (xs.take i)).map Ent.enc ∧ R2 = (loE (Int.tmod ↑(List.map encB ms).length 30) (xs.take i)).map Ent.enc ∧ s = S i R1 R2)
              ⟨_, _, Weak.trans (Weak.nrm [false, false, false, false, false, true, true, false, true, true, true, true, true] [(65, 10), (66, 11)] rfl rfl rfl) Weak.one, 0, [], [], Nat.zero_le _, rfl, rfl, rfl, rfl⟩ ?_
            rintro m s ⟨i, R1, R2, hi, rfl, hR1, hR2, hs⟩
            have hR1l : R1.length ≤ 15 := by rw [hR1, List.length_map]; exact Nat.le_trans (List.length_filter_le _ _) (by rw [List.length_take]; omega)
            have hR2l : R2.length ≤ 15 := by rw [hR2, List.length_map]; exact Nat.le_trans (List.length_filter_le _ _) (by rw [List.length_take]; omega)
            by_cases hin : i < xs.length
            · have htk := List.take_succ_eq_append_getElem hin
              by_cases hgt : Int.tmod ↑(List.map encB ms).length 30 < xs[i].seq
              · obtain ⟨k1, k2⟩ := hiE_snoc (l := xs.take i) hgt
                have hR3 : R1 ++ [xs[i].enc] = (hiE (Int.tmod ↑(List.map encB ms).length 30) (xs.take (i + 1))).map Ent.enc := by rw [htk, k1, List.map_append, hR1]; rfl
                have hR4 : R2 = (loE (Int.tmod ↑(List.map encB ms).length 30) (xs.take (i + 1))).map Ent.enc := by rw [htk, k2, hR2]
                subst hs
                refine Split.mk fun t h1 => ?_
                cases t
                case false => (exfalso; rw [decide_eq_false_iff_not] at h1; omega)
                rw [decide_eq_true_iff] at h1
                refine Need.mk (by omega) ?_
                refine Row.mk _ (map_get _ xs i (by omega)) ?_
                refine Split.mk fun t h2 => ?_
                cases t
                case false => (exfalso; rw [decide_eq_false_iff_not] at h2; omega)
                rw [decide_eq_true_iff] at h2
                refine Need.mk (by omega) ?_
                refine Row.mk _ (map_get _ xs i (by omega)) ?_
                refine Need.mk (appEq (A' := _) (B' := [xs[i].enc]) rfl rfl (by simp only [List.length_append, List.length_map, List.length_take, List.length_drop, List.length_cons, List.length_nil, List.length_reverse, List.length_replicate, List.length_set]; omega) (by decide)) ?_
                refine Num.mk _ (wrapS (by omega)) ?_
                exact ⟨_, _, by omega, Weak.nrm [false, false, false, false, false, true, true, false, true, true, true, true, true] [(86, 10), (11, 11)] rfl rfl rfl, i + 1, _, _, by omega, rfl, hR3, hR4, rfl⟩
              · obtain ⟨k1, k2⟩ := loE_snoc (l := xs.take i) hgt
                have hR3 : R1 = (hiE (Int.tmod ↑(List.map encB ms).length 30) (xs.take (i + 1))).map Ent.enc := by rw [htk, k1, hR1]
                have hR4 : R2 ++ [xs[i].enc] = (loE (Int.tmod ↑(List.map encB ms).length 30) (xs.take (i + 1))).map Ent.enc := by rw [htk, k2, List.map_append, hR2]; rfl
                subst hs
                refine Split.mk fun t h1 => ?_
                cases t
                case false => (exfalso; rw [decide_eq_false_iff_not] at h1; omega)
                rw [decide_eq_true_iff] at h1
                refine Need.mk (by omega) ?_
                refine Row.mk _ (map_get _ xs i (by omega)) ?_
                refine Split.mk fun t h2 => ?_
                cases t
                case true => (exfalso; rw [decide_eq_true_iff] at h2; omega)
                rw [decide_eq_false_iff_not] at h2
                refine Need.mk (by omega) ?_
                refine Row.mk _ (map_get _ xs i (by omega)) ?_
                refine Need.mk (appEq (A' := _) (B' := [xs[i].enc]) rfl rfl (by simp only [List.length_append, List.length_map, List.length_take, List.length_drop, List.length_cons, List.length_nil, List.length_reverse, List.length_replicate, List.length_set]; omega) (by decide)) ?_
                refine Num.mk _ (wrapS (by omega)) ?_
                exact ⟨_, _, by omega, Weak.nrm [false, false, false, false, false, true, true, false, true, true, true, true, true] [(10, 10), (93, 11)] rfl rfl rfl, i + 1, _, _, by omega, rfl, hR3, hR4, rfl⟩
            · have hin : i = xs.length := by omega
              rw [hin, List.take_length] at hR1 hR2
              have hex : ∃ a0, Int.tmod ↑(List.map encB ms).length 30 = a0 := ⟨_, rfl⟩
              obtain ⟨a0, ha0⟩ := hex
              rw [ha0] at hR1 hR2
              have hpc := fun key t ht => parts_cell (a := a0) (snaps := snaps) (key := key) (t := t) hord ht
              have hHo : ordOk (hiE a0 xs) = true := part_ord _ hord
              have hLo : ordOk (loE a0 xs) = true := part_ord _ hord
              have hHl : (hiE a0 xs).length ≤ 15 := Nat.le_trans (List.length_filter_le _ _) (by omega)
              have hLl : (loE a0 xs).length ≤ 15 := Nat.le_trans (List.length_filter_le _ _) (by omega)
              have hHk : OkE (hiE a0 xs) := fun e he => hOk e (List.mem_filter.1 he).1
              have hLk : OkE (loE a0 xs) := fun e he => hOk e (List.mem_filter.1 he).1
              have hT1 := impl_Squash (hiE a0 xs) snaps (by omega) (by omega) hHk false
              have hT2 := impl_Squash (loE a0 xs) snaps (by omega) (by omega) hLk true
              rw [show squashed (hiE a0 xs) snaps false = squash (hiE a0 xs) snaps false from if_pos hHo] at hT1
              rw [show squashed (loE a0 xs) snaps true = squash (loE a0 xs) snaps true from if_pos hLo] at hT2
              have hAl := squash_len (l := hiE a0 xs) (snaps := snaps) (last := false)
              have hBl := squash_len (l := loE a0 xs) (snaps := snaps) (last := true)
              have hkE : ∀ (l : List Ent), ordOk l = true → OkE l := fun l h e he => by
                have h1 := ordOk_all h e he
                unfold entOk at h1
                rw [Bool.and_eq_true, Bool.and_eq_true, Bool.and_eq_true, Bool.and_eq_true, decide_eq_true_iff, decide_eq_true_iff, decide_eq_true_iff] at h1
                have hk := h1.1
                unfold keyOk at hk
                rw [Bool.and_eq_true, Bool.and_eq_true, decide_eq_true_iff, decide_eq_true_iff] at hk
                exact ⟨Nat.le_trans hk.1.2 (by decide), Nat.le_trans h1.2.2.2.1 (by decide)⟩
              have hex : ∃ H, hiE a0 xs = H := ⟨_, rfl⟩
              obtain ⟨H, hH⟩ := hex
              have hex : ∃ L, loE a0 xs = L := ⟨_, rfl⟩
              obtain ⟨L, hL⟩ := hex
              rw [hH] at hR1 hpc hHl hT1 hAl
              rw [hL] at hR2 hpc hLl hT2 hBl
              have hex : ∃ A, squash H snaps false = A := ⟨_, rfl⟩
              obtain ⟨A, hA⟩ := hex
              have hex : ∃ B, squash L snaps true = B := ⟨_, rfl⟩
              obtain ⟨B, hB⟩ := hex
              rw [hA] at hpc hT1 hAl
              rw [hB] at hpc hT2 hBl
              have hM := impl_MergeAll [A, B] (by simp; omega) (by simp)
              have hfl : [A, B].flatten = A ++ B := by simp
              rw [hfl] at hM
              have hob : ordOk (isort eLess (A ++ B)) = true := (hpc ⟨#[]⟩ 100000 (.inr fun e he => by have := (hE e he).2.2.2.1; omega)).1
              have hbl2 : (isort eLess (A ++ B)).length ≤ 30 := by rw [isort_len, List.length_append]; omega
              have hT3 := impl_Squash (isort eLess (A ++ B)) snaps (by omega) (by omega) (hkE _ hob) true
              rw [show squashed (isort eLess (A ++ B)) snaps true = squash (isort eLess (A ++ B)) snaps true from if_pos hob] at hT3
              have hZl := squash_len (l := isort eLess (A ++ B)) (snaps := snaps) (last := true)
              have hex : ∃ D, isort eLess (A ++ B) = D := ⟨_, rfl⟩
              obtain ⟨D, hD2⟩ := hex
              rw [hD2] at hM hT3 hpc hbl2 hZl
              have hex : ∃ Z, squash D snaps true = Z := ⟨_, rfl⟩
              obtain ⟨Z, hZ⟩ := hex
              rw [hZ] at hT3 hpc hZl
              have hAn : (A.map Ent.enc).length = A.length := List.length_map ..
              have hBn : (B.map Ent.enc).length = B.length := List.length_map ..
              have hZn : (Z.map Ent.enc).length = Z.length := List.length_map ..
              have hfT : Frz (.us 3 ([[vi 100000]] ++ snaps.map encI)) (.sl ((100000 :: snaps).map encI)) := frzI (100000 :: snaps)
              have hex : ∃ ts, 100000 :: snaps = ts := ⟨_, rfl⟩
              obtain ⟨ts, hts⟩ := hex
              have htl : ts.length ≤ 4 := by rw [← hts]; simp; omega
              have htm : ∀ t ∈ ts, t ∈ snaps ∨ ∀ e ∈ xs, e.seq ≤ t := fun t h => by
                rw [← hts] at h
                rcases List.mem_cons.1 h with h | h
                · exact .inr fun e he => by have := (hE e he).2.2.2.1; omega
                · exact .inl h
              rw [hts] at hfT
              have htn : (ts.map encI).length = ts.length := List.length_map ..
              have hcell : ∀ key t, t ∈ ts → cellAll Z key t = cellAll o key t := fun key t ht => by
                rw [hgood]
                exact (hpc key t (htm t ht)).2
              have hfX : Frz (.us 23 [[.us 32 (A.map Ent.enc)], [.us 32 (B.map Ent.enc)]]) (.sl ([A, B].map encX)) := frzX [A, B]
              subst hR1
              subst hR2
              subst hs
              refine Split.mk fun t h1 => ?_
              cases t
              case true => (exfalso; rw [decide_eq_true_iff] at h1; omega)
              rw [decide_eq_false_iff_not] at h1
              refine Fz.mk _ (frzE _) ?_
              refine ACall.mk _ _ hT1 ?_
              refine Need.mk (⟨ClL.mem (.us (clE _) .nil), no_objs⟩) ?_
              refine Fz.mk _ (frzE _) ?_
              refine ACall.mk _ _ hT2 ?_
              refine Need.mk (⟨ClL.mem (.us (clE _) .nil), no_objs⟩) ?_
              refine Fz.mk _ (frzE _) ?_
              refine Fz.mk _ (frzE _) ?_
              refine Fz.mk _ (FrzLL.frz (.cons (.cons .sl .nil) (.cons (.cons .sl .nil) .nil))) ?_
              refine ACall.mk _ _ hM ?_
              refine Need.mk (⟨ClL.mem (.us (clE _) .nil), no_objs⟩) ?_
              refine Fz.mk _ (frzE _) ?_
              refine ACall.mk _ _ hT3 ?_
              refine Fz.mk _ (frzE _) ?_
              refine Need.mk (⟨(plainI _), (lenI _)⟩) ?_
              refine Need.mk (appEq (A' := [[vi 100000]]) (B' := _) rfl rfl (by simp only [List.length_append, List.length_map, List.length_take, List.length_drop, List.length_cons, List.length_nil, List.length_reverse, List.length_replicate, List.length_set]; omega) (by decide)) ?_
              refine Fz.mk _ hfT ?_
              let S2 : Nat → St := fun i => ⟨none :: none :: none :: none :: none :: some (sl (List.map Ent.enc xs)) :: none :: none :: some (sl (List.map Ent.enc o)) :: none :: none :: none :: none :: none :: some (sl (List.map Ent.enc Z)) :: some (sl (List.map encI ts)) :: some (av (.int .i64 i)) :: List.replicate 126 none, List.replicate 143 absent⟩
              refine ALoop.mk (fun m s => ∃ i : Nat, i ≤ xs.length ∧ m = xs.length - i ∧ s = S2 i)
                ⟨_, _, Weak.nrm [false, false, false, false, false, true, false, false, true, false, false, false, false, false, true, true, true] [] rfl rfl rfl, 0, Nat.zero_le _, rfl, rfl⟩ ?_
              rintro m s ⟨i, hi, rfl, hs⟩
              by_cases hin : i < xs.length
              · have hC : ∀ t, AFn Try.prog 28 [sl (Z.map Ent.enc), av (.string xs[i].key), av (.int .i64 t)] [] (.agg (cellAll Z xs[i].key t).enc) [] := fun t => impl_CellAll Z _ t (by omega)
                have hC' : ∀ t, AFn Try.prog 28 [sl (o.map Ent.enc), av (.string xs[i].key), av (.int .i64 t)] [] (.agg (cellAll o xs[i].key t).enc) [] := fun t => impl_CellAll o _ t (by omega)
                subst hs
                refine Split.mk fun t h1 => ?_
                cases t
                case false => (exfalso; rw [decide_eq_false_iff_not] at h1; omega)
                rw [decide_eq_true_iff] at h1
                let S3 : Nat → St := fun k => ⟨none :: none :: none :: none :: none :: some (sl (List.map Ent.enc xs)) :: none :: none :: some (sl (List.map Ent.enc o)) :: none :: none :: none :: none :: none :: some (sl (List.map Ent.enc Z)) :: some (sl (List.map encI ts)) :: some (av (.int .i64 i)) :: some (av (.int .i64 k)) :: List.replicate 125 none, List.replicate 143 absent⟩
                refine ALoop.mk (fun m s => ∃ k : Nat, k ≤ ts.length ∧ m = ts.length - k ∧ s = S3 k)
                  ⟨_, _, Weak.nrm [false, false, false, false, false, true, false, false, true, false, false, false, false, false, true, true, true, true] [] rfl rfl rfl, 0, Nat.zero_le _, rfl, rfl⟩ ?_
                rintro m s ⟨k, hk, rfl, hs⟩
                by_cases hkn : k < ts.length
                · have hC1 := hC ts[k]
                  have hC2 := hC' ts[k]
                  have hce := hcell xs[i].key ts[k] (List.getElem_mem hkn)
                  have hex : ∃ c, cellAll o xs[i].key ts[k] = c := ⟨_, rfl⟩
                  obtain ⟨c, hc⟩ := hex
                  rw [hc] at hce hC2
                  rw [hce] at hC1
                  have hcr : c = c := rfl
                  subst hs
                  refine Split.mk fun t h1 => ?_
                  cases t
                  case false => (exfalso; rw [decide_eq_false_iff_not] at h1; omega)
                  rw [decide_eq_true_iff] at h1
                  refine Need.mk (by omega) ?_
                  refine Row.mk _ (map_get _ xs i (by omega)) ?_
                  refine Need.mk (by omega) ?_
                  refine Row.mk _ (map_get _ ts k (by omega)) ?_
                  refine ACall.mk _ _ hC1 ?_
                  refine Need.mk (by omega) ?_
                  refine Row.mk _ (map_get _ xs i (by omega)) ?_
                  refine Need.mk (by omega) ?_
                  refine Row.mk _ (map_get _ ts k (by omega)) ?_
                  refine ACall.mk _ _ hC2 ?_
                  refine Split.mk fun t h2 => ?_
                  cases t
                  case true => (exfalso; rw [Bool.not_eq_true', cel_beq, decide_eq_false_iff_not] at h2; exact absurd ‹_› h2)
                  rw [Bool.not_eq_false', cel_beq, decide_eq_true_iff] at h2
                  refine Need.mk (rfl) ?_
                  refine Num.mk _ (wrapS (by omega)) ?_
                  exact ⟨_, _, by omega, Weak.nrm [false, false, false, false, false, true, false, false, true, false, false, false, false, false, true, true, true, true] [] rfl rfl rfl, k + 1, by omega, rfl, rfl⟩
                · subst hs
                  refine Split.mk fun t h1 => ?_
                  cases t
                  case true => (exfalso; rw [decide_eq_true_iff] at h1; omega)
                  rw [decide_eq_false_iff_not] at h1
                  refine Num.mk _ (wrapS (by omega)) ?_
                  exact ⟨_, _, by omega, Weak.nrm [false, false, false, false, false, true, false, false, true, false, false, false, false, false, true, true, true] [] rfl rfl rfl, i + 1, by omega, rfl, rfl⟩
              · subst hs
                refine Split.mk fun t h1 => ?_
                cases t
                case true => (exfalso; rw [decide_eq_true_iff] at h1; omega)
                rw [decide_eq_false_iff_not] at h1
                exact Need.mk ⟨[], _, .same, rfl, rfl⟩ trivial
    · refine AFn.introX (E := En 0 md0 (fz := [5, 6, 8, 100, 13, 14, 15])) (en_ok 0 _ _ _ _ _) Try.func9 rfl rfl rfl fun _ _ => ?_
      refine Split.mk fun t h1 => ?_
      cases t
      case true => (exfalso; rw [decide_eq_true_iff] at h1; omega)
      rw [decide_eq_false_iff_not] at h1
      refine Split.mk fun t h2 => ?_
      cases t
      case false => (exfalso; rw [decide_eq_false_iff_not] at h2; omega)
      rw [decide_eq_true_iff] at h2
      exact Need.mk ⟨[], _, .same, rfl, rfl⟩ trivial
  · refine AFn.introX (E := En 0 md0 (fz := [5, 6, 8, 100, 13, 14, 15])) (en_ok 0 _ _ _ _ _) Try.func9 rfl rfl rfl fun _ _ => ?_
    refine Split.mk fun t h1 => ?_
    cases t
    case false => (exfalso; rw [decide_eq_false_iff_not] at h1; omega)
    rw [decide_eq_true_iff] at h1
    exact Need.mk ⟨[], _, .same, rfl, rfl⟩ trivial
theorem laws_FnSquashParts_any (c0 : C) (h0 : Sh (.slice tyB) c0) (c1 : C) (h1 : Sh (.slice tyB) c1) : AFn Try.prog 9 [.one (.c c0), .one (.c c1)] [] (rb true) [] := by
  obtain ⟨bs, rfl, hb⟩ := dec_bytes h0
  obtain ⟨ms, rfl, hm⟩ := dec_bytes h1
  exact laws_FnSquashParts bs ms hb hm
end Go.Proofs.Ytlmdheeammfihaa
