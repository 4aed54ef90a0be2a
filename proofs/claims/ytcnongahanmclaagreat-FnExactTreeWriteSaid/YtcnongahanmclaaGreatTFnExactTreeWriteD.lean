/-
  Contracts of functions, part 4.
-/
import Derived.Test.YtcnongahanmclaaGreatTFnExactTreeWriteC
namespace Go.Proofs.YtcnongahanmclaaGreat
open Go Go.Proofs Ev
set_option maxRecDepth 100000
set_option linter.unusedSimpArgs false
set_option linter.unusedVariables false
set_option maxHeartbeats 8000000
theorem spec_TreeOk (t : Tre) (ht : t.Ok) (hsn : t.snaps.length ≤ 1099511627776) (hz : ∀ l ∈ t.levels, ∀ r ∈ l, r.ents.length ≤ 1099511627776) : AFn Tryz.prog 34 [.agg (t.enc.map .c)] [] (rb (treeOk t)) [] := by
  have hmn : (t.mem.map Ent.enc).length = t.mem.length := List.length_map ..
  have hln : (t.levels.map encL).length = t.levels.length := List.length_map ..
  have hT := @treeOk_first t
  have hS := spec_l5Snaps t hsn
  by_cases a1 : 0 ≤ t.seq
  · by_cases a2 : t.seq ≤ 100000
    · by_cases a3 : t.mem.length ≤ 60
      · have hO := spec_l4Right t.mem ht.1 (by omega)
        have hW := spec_l5Within t.mem t.seq (by omega)
        by_cases a4 : ordOk t.mem = true
        · skip
          rw [a4] at hO
          by_cases a5 : withinB t.mem t.seq = true
          · skip
            rw [a5] at hW
            by_cases hl3 : t.levels.length = 3
            · obtain ⟨l0, l1, l2, hlev⟩ := three_of hl3
              have hm0 : l0 ∈ t.levels := by rw [hlev]; simp
              have hm1 : l1 ∈ t.levels := by rw [hlev]; simp
              have hm2 : l2 ∈ t.levels := by rw [hlev]; simp
              have hR0 := spec_l5Runs l0 4 false t.seq (ht.2 _ hm0) (hz _ hm0) (by omega)
              have hR1 := spec_l5Runs l1 8 true t.seq (ht.2 _ hm1) (hz _ hm1) (by omega)
              have hR2 := spec_l5Runs l2 8 true t.seq (ht.2 _ hm2) (hz _ hm2) (by omega)
              have hr0 : (t.levels.map encL)[0]? = some (encL l0) := by rw [hlev]; rfl
              have hr1 : (t.levels.map encL)[1]? = some (encL l1) := by rw [hlev]; rfl
              have hr2 : (t.levels.map encL)[2]? = some (encL l2) := by rw [hlev]; rfl
              by_cases a6 : snapsB t.snaps t.seq = true
              · skip
                rw [a6] at hS
                by_cases a7 : levW l0 4 false t.seq = true
                · skip
                  rw [a7] at hR0
                  by_cases a8 : levW l1 8 true t.seq = true
                  · skip
                    rw [a8] at hR1
                    by_cases a9 : levW l2 8 true t.seq = true
                    · skip
                      rw [a9] at hR2
                      have k0 := levB_ok (Bool.and_eq_true_iff.1 a7).1
                      have k1 := levB_ok (Bool.and_eq_true_iff.1 a8).1
                      have k2 := levB_ok (Bool.and_eq_true_iff.1 a9).1
                      have hA := spec_l5Aged t.seq t.mem l0 l1 l2 t.snaps (by omega) (by omega) (by omega) (by omega) (fun r hr => by have := runOk_len (k0.2 r hr); omega) (fun r hr => by have := runOk_len (k1.2 r hr); omega) (fun r hr => by have := runOk_len (k2.2 r hr); omega)
                      have htt : (Tre.mk t.seq t.mem [l0, l1, l2] t.snaps) = t := by rw [← hlev]
                      rw [htt] at hA
                      by_cases a10 : agedB (parts3 l0 l1 l2 t.mem) = true
                      · skip
                        rw [a10] at hA
                        have hres : treeOk t = true := (treeS_iff hlev).2 ⟨a1, a2, a3, a4, a5, a6, a7, a8, a9, a10⟩
                        refine AFn.introX (E := En 0 md0) (en_ok 0 _ _ _ _ _) Tryz.func34 rfl rfl rfl fun _ _ => ?_
                        refine Split.mk fun t h1 => ?_
                        cases t
                        case true => (exfalso; rw [decide_eq_true_iff] at h1; omega)
                        rw [decide_eq_false_iff_not] at h1
                        refine Split.mk fun t h2 => ?_
                        cases t
                        case true => (exfalso; rw [decide_eq_true_iff] at h2; omega)
                        rw [decide_eq_false_iff_not] at h2
                        refine Split.mk fun t h3 => ?_
                        cases t
                        case true => (exfalso; rw [decide_eq_true_iff] at h3; omega)
                        rw [decide_eq_false_iff_not] at h3
                        refine ACall.mk _ _ hO ?_
                        refine Split.mk fun t h4 => ?_
                        cases t
                        case false => cases h4
                        refine ACall.mk _ _ hW ?_
                        refine Split.mk fun t h5 => ?_
                        cases t
                        case false => cases h5
                        refine Split.mk fun t h6 => ?_
                        cases t
                        case true => (exfalso; rw [bne_iff_ne] at h6; omega)
                        rw [bne_eq_false_iff_eq] at h6
                        refine ACall.mk _ _ hS ?_
                        refine Split.mk fun t h7 => ?_
                        cases t
                        case false => cases h7
                        refine Need.mk (by omega) ?_
                        refine Row.mk _ hr0 ?_
                        refine ACall.mk _ _ hR0 ?_
                        refine Split.mk fun t h8 => ?_
                        cases t
                        case false => cases h8
                        refine Need.mk (by omega) ?_
                        refine Row.mk _ hr1 ?_
                        refine ACall.mk _ _ hR1 ?_
                        refine Split.mk fun t h9 => ?_
                        cases t
                        case false => cases h9
                        refine Need.mk (by omega) ?_
                        refine Row.mk _ hr2 ?_
                        refine ACall.mk _ _ hR2 ?_
                        refine Split.mk fun t h10 => ?_
                        cases t
                        case false => cases h10
                        refine ACall.mk _ _ hA ?_
                        refine Split.mk fun t h11 => ?_
                        cases t
                        case false => cases h11
                        refine Need.mk (rfl) ?_
                        exact Need.mk ⟨[], _, .same, congrArg rb hres.symm, rfl⟩ trivial
                      · skip
                        have hres : treeOk t = false := Bool.eq_false_iff.2 fun h => a10 ((treeS_iff hlev).1 h).2.2.2.2.2.2.2.2.2
                        rw [Bool.not_eq_true] at a10
                        rw [a10] at hA
                        refine AFn.introX (E := En 0 md0) (en_ok 0 _ _ _ _ _) Tryz.func34 rfl rfl rfl fun _ _ => ?_
                        refine Split.mk fun t h1 => ?_
                        cases t
                        case true => (exfalso; rw [decide_eq_true_iff] at h1; omega)
                        rw [decide_eq_false_iff_not] at h1
                        refine Split.mk fun t h2 => ?_
                        cases t
                        case true => (exfalso; rw [decide_eq_true_iff] at h2; omega)
                        rw [decide_eq_false_iff_not] at h2
                        refine Split.mk fun t h3 => ?_
                        cases t
                        case true => (exfalso; rw [decide_eq_true_iff] at h3; omega)
                        rw [decide_eq_false_iff_not] at h3
                        refine ACall.mk _ _ hO ?_
                        refine Split.mk fun t h4 => ?_
                        cases t
                        case false => cases h4
                        refine ACall.mk _ _ hW ?_
                        refine Split.mk fun t h5 => ?_
                        cases t
                        case false => cases h5
                        refine Split.mk fun t h6 => ?_
                        cases t
                        case true => (exfalso; rw [bne_iff_ne] at h6; omega)
                        rw [bne_eq_false_iff_eq] at h6
                        refine ACall.mk _ _ hS ?_
                        refine Split.mk fun t h7 => ?_
                        cases t
                        case false => cases h7
                        refine Need.mk (by omega) ?_
                        refine Row.mk _ hr0 ?_
                        refine ACall.mk _ _ hR0 ?_
                        refine Split.mk fun t h8 => ?_
                        cases t
                        case false => cases h8
                        refine Need.mk (by omega) ?_
                        refine Row.mk _ hr1 ?_
                        refine ACall.mk _ _ hR1 ?_
                        refine Split.mk fun t h9 => ?_
                        cases t
                        case false => cases h9
                        refine Need.mk (by omega) ?_
                        refine Row.mk _ hr2 ?_
                        refine ACall.mk _ _ hR2 ?_
                        refine Split.mk fun t h10 => ?_
                        cases t
                        case false => cases h10
                        refine ACall.mk _ _ hA ?_
                        refine Split.mk fun t h11 => ?_
                        cases t
                        case true => cases h11
                        refine Need.mk (rfl) ?_
                        exact Need.mk ⟨[], _, .same, congrArg rb hres.symm, rfl⟩ trivial
                    · skip
                      have hres : treeOk t = false := Bool.eq_false_iff.2 fun h => a9 ((treeS_iff hlev).1 h).2.2.2.2.2.2.2.2.1
                      rw [Bool.not_eq_true] at a9
                      rw [a9] at hR2
                      refine AFn.introX (E := En 0 md0) (en_ok 0 _ _ _ _ _) Tryz.func34 rfl rfl rfl fun _ _ => ?_
                      refine Split.mk fun t h1 => ?_
                      cases t
                      case true => (exfalso; rw [decide_eq_true_iff] at h1; omega)
                      rw [decide_eq_false_iff_not] at h1
                      refine Split.mk fun t h2 => ?_
                      cases t
                      case true => (exfalso; rw [decide_eq_true_iff] at h2; omega)
                      rw [decide_eq_false_iff_not] at h2
                      refine Split.mk fun t h3 => ?_
                      cases t
                      case true => (exfalso; rw [decide_eq_true_iff] at h3; omega)
                      rw [decide_eq_false_iff_not] at h3
                      refine ACall.mk _ _ hO ?_
                      refine Split.mk fun t h4 => ?_
                      cases t
                      case false => cases h4
                      refine ACall.mk _ _ hW ?_
                      refine Split.mk fun t h5 => ?_
                      cases t
                      case false => cases h5
                      refine Split.mk fun t h6 => ?_
                      cases t
                      case true => (exfalso; rw [bne_iff_ne] at h6; omega)
                      rw [bne_eq_false_iff_eq] at h6
                      refine ACall.mk _ _ hS ?_
                      refine Split.mk fun t h7 => ?_
                      cases t
                      case false => cases h7
                      refine Need.mk (by omega) ?_
                      refine Row.mk _ hr0 ?_
                      refine ACall.mk _ _ hR0 ?_
                      refine Split.mk fun t h8 => ?_
                      cases t
                      case false => cases h8
                      refine Need.mk (by omega) ?_
                      refine Row.mk _ hr1 ?_
                      refine ACall.mk _ _ hR1 ?_
                      refine Split.mk fun t h9 => ?_
                      cases t
                      case false => cases h9
                      refine Need.mk (by omega) ?_
                      refine Row.mk _ hr2 ?_
                      refine ACall.mk _ _ hR2 ?_
                      refine Split.mk fun t h10 => ?_
                      cases t
                      case true => cases h10
                      refine Need.mk (rfl) ?_
                      exact Need.mk ⟨[], _, .same, congrArg rb hres.symm, rfl⟩ trivial
                  · skip
                    have hres : treeOk t = false := Bool.eq_false_iff.2 fun h => a8 ((treeS_iff hlev).1 h).2.2.2.2.2.2.2.1
                    rw [Bool.not_eq_true] at a8
                    rw [a8] at hR1
                    refine AFn.introX (E := En 0 md0) (en_ok 0 _ _ _ _ _) Tryz.func34 rfl rfl rfl fun _ _ => ?_
                    refine Split.mk fun t h1 => ?_
                    cases t
                    case true => (exfalso; rw [decide_eq_true_iff] at h1; omega)
                    rw [decide_eq_false_iff_not] at h1
                    refine Split.mk fun t h2 => ?_
                    cases t
                    case true => (exfalso; rw [decide_eq_true_iff] at h2; omega)
                    rw [decide_eq_false_iff_not] at h2
                    refine Split.mk fun t h3 => ?_
                    cases t
                    case true => (exfalso; rw [decide_eq_true_iff] at h3; omega)
                    rw [decide_eq_false_iff_not] at h3
                    refine ACall.mk _ _ hO ?_
                    refine Split.mk fun t h4 => ?_
                    cases t
                    case false => cases h4
                    refine ACall.mk _ _ hW ?_
                    refine Split.mk fun t h5 => ?_
                    cases t
                    case false => cases h5
                    refine Split.mk fun t h6 => ?_
                    cases t
                    case true => (exfalso; rw [bne_iff_ne] at h6; omega)
                    rw [bne_eq_false_iff_eq] at h6
                    refine ACall.mk _ _ hS ?_
                    refine Split.mk fun t h7 => ?_
                    cases t
                    case false => cases h7
                    refine Need.mk (by omega) ?_
                    refine Row.mk _ hr0 ?_
                    refine ACall.mk _ _ hR0 ?_
                    refine Split.mk fun t h8 => ?_
                    cases t
                    case false => cases h8
                    refine Need.mk (by omega) ?_
                    refine Row.mk _ hr1 ?_
                    refine ACall.mk _ _ hR1 ?_
                    refine Split.mk fun t h9 => ?_
                    cases t
                    case true => cases h9
                    refine Need.mk (rfl) ?_
                    exact Need.mk ⟨[], _, .same, congrArg rb hres.symm, rfl⟩ trivial
                · skip
                  have hres : treeOk t = false := Bool.eq_false_iff.2 fun h => a7 ((treeS_iff hlev).1 h).2.2.2.2.2.2.1
                  rw [Bool.not_eq_true] at a7
                  rw [a7] at hR0
                  refine AFn.introX (E := En 0 md0) (en_ok 0 _ _ _ _ _) Tryz.func34 rfl rfl rfl fun _ _ => ?_
                  refine Split.mk fun t h1 => ?_
                  cases t
                  case true => (exfalso; rw [decide_eq_true_iff] at h1; omega)
                  rw [decide_eq_false_iff_not] at h1
                  refine Split.mk fun t h2 => ?_
                  cases t
                  case true => (exfalso; rw [decide_eq_true_iff] at h2; omega)
                  rw [decide_eq_false_iff_not] at h2
                  refine Split.mk fun t h3 => ?_
                  cases t
                  case true => (exfalso; rw [decide_eq_true_iff] at h3; omega)
                  rw [decide_eq_false_iff_not] at h3
                  refine ACall.mk _ _ hO ?_
                  refine Split.mk fun t h4 => ?_
                  cases t
                  case false => cases h4
                  refine ACall.mk _ _ hW ?_
                  refine Split.mk fun t h5 => ?_
                  cases t
                  case false => cases h5
                  refine Split.mk fun t h6 => ?_
                  cases t
                  case true => (exfalso; rw [bne_iff_ne] at h6; omega)
                  rw [bne_eq_false_iff_eq] at h6
                  refine ACall.mk _ _ hS ?_
                  refine Split.mk fun t h7 => ?_
                  cases t
                  case false => cases h7
                  refine Need.mk (by omega) ?_
                  refine Row.mk _ hr0 ?_
                  refine ACall.mk _ _ hR0 ?_
                  refine Split.mk fun t h8 => ?_
                  cases t
                  case true => cases h8
                  refine Need.mk (rfl) ?_
                  exact Need.mk ⟨[], _, .same, congrArg rb hres.symm, rfl⟩ trivial
              · skip
                have hres : treeOk t = false := Bool.eq_false_iff.2 fun h => a6 ((treeS_iff hlev).1 h).2.2.2.2.2.1
                rw [Bool.not_eq_true] at a6
                rw [a6] at hS
                refine AFn.introX (E := En 0 md0) (en_ok 0 _ _ _ _ _) Tryz.func34 rfl rfl rfl fun _ _ => ?_
                refine Split.mk fun t h1 => ?_
                cases t
                case true => (exfalso; rw [decide_eq_true_iff] at h1; omega)
                rw [decide_eq_false_iff_not] at h1
                refine Split.mk fun t h2 => ?_
                cases t
                case true => (exfalso; rw [decide_eq_true_iff] at h2; omega)
                rw [decide_eq_false_iff_not] at h2
                refine Split.mk fun t h3 => ?_
                cases t
                case true => (exfalso; rw [decide_eq_true_iff] at h3; omega)
                rw [decide_eq_false_iff_not] at h3
                refine ACall.mk _ _ hO ?_
                refine Split.mk fun t h4 => ?_
                cases t
                case false => cases h4
                refine ACall.mk _ _ hW ?_
                refine Split.mk fun t h5 => ?_
                cases t
                case false => cases h5
                refine Split.mk fun t h6 => ?_
                cases t
                case true => (exfalso; rw [bne_iff_ne] at h6; omega)
                rw [bne_eq_false_iff_eq] at h6
                refine ACall.mk _ _ hS ?_
                refine Split.mk fun t h7 => ?_
                cases t
                case true => cases h7
                exact Need.mk ⟨[], _, .same, congrArg rb hres.symm, rfl⟩ trivial
            · skip
              refine AFn.introX (E := En 0 md0) (en_ok 0 _ _ _ _ _) Tryz.func34 rfl rfl rfl fun _ _ => ?_
              refine Split.mk fun t h1 => ?_
              cases t
              case true => (exfalso; rw [decide_eq_true_iff] at h1; omega)
              rw [decide_eq_false_iff_not] at h1
              refine Split.mk fun t h2 => ?_
              cases t
              case true => (exfalso; rw [decide_eq_true_iff] at h2; omega)
              rw [decide_eq_false_iff_not] at h2
              refine Split.mk fun t h3 => ?_
              cases t
              case true => (exfalso; rw [decide_eq_true_iff] at h3; omega)
              rw [decide_eq_false_iff_not] at h3
              refine ACall.mk _ _ hO ?_
              refine Split.mk fun t h4 => ?_
              cases t
              case false => cases h4
              refine ACall.mk _ _ hW ?_
              refine Split.mk fun t h5 => ?_
              cases t
              case false => cases h5
              refine Split.mk fun t h6 => ?_
              cases t
              case false => (exfalso; rw [bne_eq_false_iff_eq] at h6; omega)
              rw [bne_iff_ne] at h6
              exact Need.mk ⟨[], _, .same, congrArg rb (Bool.eq_false_iff.2 fun h => by have := hT h; omega).symm, rfl⟩ trivial
          · skip
            have hres : treeOk t = false := Bool.eq_false_iff.2 fun h => by
              obtain ⟨_, _, _, hlev, _⟩ := treeOk_levels h
              exact a5 ((treeS_iff hlev).1 h).2.2.2.2.1
            rw [Bool.not_eq_true] at a5
            rw [a5] at hW
            refine AFn.introX (E := En 0 md0) (en_ok 0 _ _ _ _ _) Tryz.func34 rfl rfl rfl fun _ _ => ?_
            refine Split.mk fun t h1 => ?_
            cases t
            case true => (exfalso; rw [decide_eq_true_iff] at h1; omega)
            rw [decide_eq_false_iff_not] at h1
            refine Split.mk fun t h2 => ?_
            cases t
            case true => (exfalso; rw [decide_eq_true_iff] at h2; omega)
            rw [decide_eq_false_iff_not] at h2
            refine Split.mk fun t h3 => ?_
            cases t
            case true => (exfalso; rw [decide_eq_true_iff] at h3; omega)
            rw [decide_eq_false_iff_not] at h3
            refine ACall.mk _ _ hO ?_
            refine Split.mk fun t h4 => ?_
            cases t
            case false => cases h4
            refine ACall.mk _ _ hW ?_
            refine Split.mk fun t h5 => ?_
            cases t
            case true => cases h5
            exact Need.mk ⟨[], _, .same, congrArg rb hres.symm, rfl⟩ trivial
        · skip
          have hres : treeOk t = false := Bool.eq_false_iff.2 fun h => by
            obtain ⟨_, _, _, hlev, _⟩ := treeOk_levels h
            exact a4 ((treeS_iff hlev).1 h).2.2.2.1
          rw [Bool.not_eq_true] at a4
          rw [a4] at hO
          refine AFn.introX (E := En 0 md0) (en_ok 0 _ _ _ _ _) Tryz.func34 rfl rfl rfl fun _ _ => ?_
          refine Split.mk fun t h1 => ?_
          cases t
          case true => (exfalso; rw [decide_eq_true_iff] at h1; omega)
          rw [decide_eq_false_iff_not] at h1
          refine Split.mk fun t h2 => ?_
          cases t
          case true => (exfalso; rw [decide_eq_true_iff] at h2; omega)
          rw [decide_eq_false_iff_not] at h2
          refine Split.mk fun t h3 => ?_
          cases t
          case true => (exfalso; rw [decide_eq_true_iff] at h3; omega)
          rw [decide_eq_false_iff_not] at h3
          refine ACall.mk _ _ hO ?_
          refine Split.mk fun t h4 => ?_
          cases t
          case true => cases h4
          exact Need.mk ⟨[], _, .same, congrArg rb hres.symm, rfl⟩ trivial
      · skip
        refine AFn.introX (E := En 0 md0) (en_ok 0 _ _ _ _ _) Tryz.func34 rfl rfl rfl fun _ _ => ?_
        refine Split.mk fun t h1 => ?_
        cases t
        case true => (exfalso; rw [decide_eq_true_iff] at h1; omega)
        rw [decide_eq_false_iff_not] at h1
        refine Split.mk fun t h2 => ?_
        cases t
        case true => (exfalso; rw [decide_eq_true_iff] at h2; omega)
        rw [decide_eq_false_iff_not] at h2
        refine Split.mk fun t h3 => ?_
        cases t
        case false => (exfalso; rw [decide_eq_false_iff_not] at h3; omega)
        rw [decide_eq_true_iff] at h3
        exact Need.mk ⟨[], _, .same, congrArg rb (Bool.eq_false_iff.2 fun h => by have := hT h; omega).symm, rfl⟩ trivial
    · skip
      refine AFn.introX (E := En 0 md0) (en_ok 0 _ _ _ _ _) Tryz.func34 rfl rfl rfl fun _ _ => ?_
      refine Split.mk fun t h1 => ?_
      cases t
      case true => (exfalso; rw [decide_eq_true_iff] at h1; omega)
      rw [decide_eq_false_iff_not] at h1
      refine Split.mk fun t h2 => ?_
      cases t
      case false => (exfalso; rw [decide_eq_false_iff_not] at h2; omega)
      rw [decide_eq_true_iff] at h2
      exact Need.mk ⟨[], _, .same, congrArg rb (Bool.eq_false_iff.2 fun h => by have := hT h; omega).symm, rfl⟩ trivial
  · skip
    refine AFn.introX (E := En 0 md0) (en_ok 0 _ _ _ _ _) Tryz.func34 rfl rfl rfl fun _ _ => ?_
    refine Split.mk fun t h1 => ?_
    cases t
    case false => (exfalso; rw [decide_eq_false_iff_not] at h1; omega)
    rw [decide_eq_true_iff] at h1
    exact Need.mk ⟨[], _, .same, congrArg rb (Bool.eq_false_iff.2 fun h => by have := hT h; omega).symm, rfl⟩ trivial
end Go.Proofs.YtcnongahanmclaaGreat

namespace Go.Proofs.YtcnongahanmclaaGreat
open Go Go.Proofs Ev
set_option maxRecDepth 100000
set_option linter.unusedSimpArgs false
set_option linter.unusedVariables false
set_option maxHeartbeats 4000000
def encXI (l : List Int) : List C := [.sl (l.map encI)]
def growI_ren : Go.Shelf.Ren := ⟨fun | 4 => 154 | n => n, fun | 22 => 24 | 25 => 3 | n => n, fun | n => n⟩
theorem growI_lays : Go.Proofs.Lays8.n4 Tryz.prog growI_ren := {
  mixed := by kernel_rfl
  f4 := ⟨Tryz.f154.name, by decide, Tryz.func154.trans (congrArg some (by kernel_rfl))⟩
  t0 := Tryz.underlying0
  a0 := Tryz.isAgg0
  z0 := Tryz.sizeOf0
  v0 := Tryz.zeroValue0
  t3 := Tryz.underlying3
  a3 := Tryz.isAgg3
  z3 := Tryz.sizeOf3
  v3 := Tryz.zeroValue3
  t4 := Tryz.underlying4
  a4 := Tryz.isAgg4
  z4 := Tryz.sizeOf4
  v4 := Tryz.zeroValue4
  t9 := Tryz.underlying9
  a9 := Tryz.isAgg9
  z9 := Tryz.sizeOf9
  v9 := Tryz.zeroValue9
  t20 := Tryz.underlying20
  a20 := Tryz.isAgg20
  z20 := Tryz.sizeOf20
  v20 := Tryz.zeroValue20
  t22 := Tryz.underlying24
  a22 := Tryz.isAgg24
  z22 := Tryz.sizeOf24
  v22 := Tryz.zeroValue24 }
theorem growI_info : (Tryz.prog.info? 3).map (fun i => (i.zero, i.size, i.bytes)) = some (some (.int .i64 0), 1, 8) := by kernel_rfl
theorem slices_GrowI (n : Nat) (hn : n ≤ 1099511627776) : AFn Tryz.prog 154 [.one (.c (.v nilV)), av (.int .i64 n)] [] (.one (.us 3 [])) [] := by
  cases hi : Tryz.prog.info? 3 with
  | none => have h := growI_info; rw [hi] at h; cases h
  | some i0 =>
    have h := growI_info
    rw [hi] at h
    simp only [Option.map_some, Option.some.injEq, Prod.mk.injEq] at h
    obtain ⟨h1, h2, h3⟩ := h
    exact grow_ok growI_lays rfl rfl hi h1 (by omega) (by kernel_rfl) (pos_of tab_ok (t := 3) rfl) n (by rw [h3]; omega) (by omega)
theorem slices_ConcatI (L : List (List Int)) (hL : L.length ≤ 1000000) (hl : ∀ l ∈ L, l.length ≤ 1000000) (hf : L.flatten.length ≤ 1000000) : AFn Tryz.prog 95 [sl (L.map encXI)] [] (.one (.us 3 (L.flatten.map encI))) [] := by
  have hn : (L.map encXI).length = L.length := List.length_map ..
  have hsum : ∀ i, (L.take i).flatten.length ≤ 1000000 := fun i => Nat.le_trans (flat_take_le L i) hf
  refine AFn.introX (E := En 0 (fun f => if f = 154 then 3 else 0)) (en_ok 0 _) Tryz.func95 rfl rfl rfl fun _ _ => ?_
  let S : Nat → Nat → St := fun n i => ⟨some (sl (L.map encXI)) :: none :: none :: some (av (.int .i64 n)) :: none :: none :: none :: none :: none :: some (sl (L.map encXI)) :: some (av (.int .i64 (L.map encXI).length)) :: some (av (.int .i64 i)) :: List.replicate 24 none, List.replicate 36 absent⟩
  refine ALoop.mk (fun m s => ∃ i : Nat, i ≤ L.length ∧ m = L.length - i ∧ s = S (L.take i).flatten.length i)
    ⟨_, _, Weak.nrm [true, false, false, true, false, false, false, false, false, true, true, true] [] rfl rfl rfl, 0, Nat.zero_le _, rfl, rfl⟩ ?_
  rintro m s ⟨i, hi, rfl, hs⟩
  by_cases hin : i = L.length
  · rw [hin, List.take_length] at hs
    have hG := slices_GrowI L.flatten.length (by omega)
    have hex : ∃ n, L.flatten.length = n := ⟨_, rfl⟩
    obtain ⟨n, hN⟩ := hex
    rw [hN] at hs hG
    subst hs
    refine Split.mk fun t h1 => ?_
    cases t
    case true => (exfalso; rw [decide_eq_true_iff] at h1; omega)
    rw [decide_eq_false_iff_not] at h1
    refine ACall.mk _ _ hG ?_
    let S2 : List (List C) → Nat → St := fun R i => ⟨none :: none :: none :: none :: none :: none :: some (.one (.ref 6 0 (.cell 0))) :: none :: none :: none :: none :: none :: none :: none :: none :: none :: none :: none :: none :: none :: none :: none :: none :: none :: none :: some (sl (L.map encXI)) :: some (av (.int .i64 (L.map encXI).length)) :: some (av (.int .i64 i)) :: List.replicate 8 none, absent :: absent :: absent :: absent :: absent :: absent :: ⟨0, 1, some [.us 3 R]⟩ :: List.replicate 29 absent⟩
    refine ALoop.mk (fun m s => ∃ i : Nat, i ≤ L.length ∧ m = L.length - i ∧ s = S2 ((L.take i).flatten.map encI) i)
      ⟨_, _, Weak.nrm [false, false, false, false, false, false, true, false, false, false, false, false, false, false, false, false, false, false, false, false, false, false, false, false, false, true, true, true] [(24, 6)] rfl rfl rfl, 0, Nat.zero_le _, rfl, rfl⟩ ?_
    rintro m s ⟨i, hi, hm2, hs⟩
    by_cases hin : i = L.length
    · rw [hin, List.take_length] at hs
      subst hs
      refine Split.mk fun t h1 => ?_
      cases t
      case true => (exfalso; rw [decide_eq_true_iff] at h1; omega)
      rw [decide_eq_false_iff_not] at h1
      exact Need.mk ⟨[], _, .same, rfl, rfl⟩ trivial
    · have hia : i < L.length := by omega
      have hft := flat_take L hia
      have hs1 := hsum i
      have hx := hl _ (List.getElem_mem hia)
      have hex : ∃ xs, L[i] = xs := ⟨_, rfl⟩
      obtain ⟨xs, hxs⟩ := hex
      have hrow : (L.map encXI)[i]? = some (encXI xs) := by rw [map_get _ L i hia, hxs]
      rw [hxs] at hft hx
      have hex : ∃ G, (L.take i).flatten = G := ⟨_, rfl⟩
      obtain ⟨G, hG2⟩ := hex
      rw [hG2] at hs hs1 hft
      subst hs
      refine Split.mk fun t h1 => ?_
      cases t
      case false => (exfalso; rw [decide_eq_false_iff_not] at h1; omega)
      rw [decide_eq_true_iff] at h1
      refine Need.mk (by omega) ?_
      refine Row.mk _ hrow ?_
      refine Need.mk (⟨(plainI _), (lenI _)⟩) ?_
      refine Need.mk (appEq (A' := _) (B' := _) rfl rfl (by simp only [List.length_append, List.length_map, List.length_take, List.length_drop, List.length_cons, List.length_nil, List.length_reverse, List.length_replicate, List.length_set]; omega) (by decide)) ?_
      refine Num.mk _ (wrapS (by omega)) ?_
      exact ⟨_, _, by omega, Weak.nrm [false, false, false, false, false, false, true, false, false, false, false, false, false, false, false, false, false, false, false, false, false, false, false, false, false, true, true, true] [(33, 6)] rfl rfl rfl, i + 1, by omega, rfl, Eq.trans (b := S2 (G.map encI ++ xs.map encI) (i + 1)) rfl (by rw [hft, List.map_append])⟩
  · have hia : i < L.length := by omega
    have hft := flat_take L hia
    have hs1 := hsum i
    have hx := hl _ (List.getElem_mem hia)
    have hex : ∃ xs, L[i] = xs := ⟨_, rfl⟩
    obtain ⟨xs, hxs⟩ := hex
    have hrow : (L.map encXI)[i]? = some (encXI xs) := by rw [map_get _ L i hia, hxs]
    rw [hxs] at hft hx
    have hfl : (L.take (i + 1)).flatten.length = (L.take i).flatten.length + xs.length := by rw [hft, List.length_append]
    have hxn : (xs.map encI).length = xs.length := List.length_map ..
    have hex : ∃ n, (L.take i).flatten.length = n := ⟨_, rfl⟩
    obtain ⟨n, hN⟩ := hex
    rw [hN] at hs hs1 hfl
    have hwr : IntKind.i64.wrap ((n : Int) + ((xs.map encI).length : Nat)) = ((n + xs.length : Nat) : Int) := wrapI' (by omega) (by omega)
    subst hs
    refine Split.mk fun t h1 => ?_
    cases t
    case false => (exfalso; rw [decide_eq_false_iff_not] at h1; omega)
    rw [decide_eq_true_iff] at h1
    refine Need.mk (by omega) ?_
    refine Row.mk _ hrow ?_
    refine Num.mk _ hwr ?_
    refine Split.mk fun t h2 => ?_
    cases t
    case true => cases h2
    refine Num.mk _ (wrapS (by omega)) ?_
    exact ⟨_, _, by omega, Weak.nrm [true, false, false, true, false, false, false, false, false, true, true, true] [] rfl rfl rfl, i + 1, by omega, rfl, Eq.trans (b := S (n + xs.length) (i + 1)) rfl (by rw [hfl])⟩
end Go.Proofs.YtcnongahanmclaaGreat

namespace Go.Proofs.YtcnongahanmclaaGreat
open Go Go.Proofs Ev
set_option maxRecDepth 100000
set_option linter.unusedSimpArgs false
set_option linter.unusedVariables false
set_option maxHeartbeats 8000000
theorem impl_treeCopy (t : Tre) (ht : t.Small) : AFn Tryz.prog 125 [.agg (t.enc.map .c)] [] (.agg (encTO t)) [] := by
  have h1 := ht.1
  have h2 := ht.2.2.2
  have hL := impl_levelsCopy t.levels ht.2.1 ht.2.2.1
  refine AFn.introX (E := En 0 md0) (en_ok 0 _) Tryz.func125 rfl rfl rfl fun _ _ => ?_
  refine Need.mk (⟨(plainE _), (lenE _)⟩) ?_
  refine Need.mk (appEq (A' := []) (B' := _) rfl rfl (by simp only [List.length_append, List.length_map, List.length_take, List.length_drop, List.length_cons, List.length_nil, List.length_reverse, List.length_replicate, List.length_set]; omega) (by decide)) ?_
  refine ACall.mk _ _ hL ?_
  refine Need.mk (⟨(plainI _), (lenI _)⟩) ?_
  refine Need.mk (appEq (A' := []) (B' := _) rfl rfl (by simp only [List.length_append, List.length_map, List.length_take, List.length_drop, List.length_cons, List.length_nil, List.length_reverse, List.length_replicate, List.length_set]; omega) (by decide)) ?_
  refine Need.mk (rfl) ?_
  exact Need.mk ⟨[], _, .same, rfl, rfl⟩ trivial
theorem spec_l5Copy (t : Tre) (ht : t.Small) : AFn Tryz.prog 60 [.agg (t.enc.map .c)] [] (.agg (encTO t)) [] := by
  have h1 := ht.1
  have h2 := ht.2.2.2
  have hL := spec_l5CopyLevels t.levels ht.2.1 ht.2.2.1
  refine AFn.introX (E := En 0 md0) (en_ok 0 _) Tryz.func60 rfl rfl rfl fun _ _ => ?_
  refine Need.mk (⟨(plainE _), (lenE _)⟩) ?_
  refine Need.mk (appEq (A' := []) (B' := _) rfl rfl (by simp only [List.length_append, List.length_map, List.length_take, List.length_drop, List.length_cons, List.length_nil, List.length_reverse, List.length_replicate, List.length_set]; omega) (by decide)) ?_
  refine ACall.mk _ _ hL ?_
  refine Need.mk (⟨(plainI _), (lenI _)⟩) ?_
  refine Need.mk (appEq (A' := []) (B' := _) rfl rfl (by simp only [List.length_append, List.length_map, List.length_take, List.length_drop, List.length_cons, List.length_nil, List.length_reverse, List.length_replicate, List.length_set]; omega) (by decide)) ?_
  refine Need.mk (rfl) ?_
  exact Need.mk ⟨[], _, .same, rfl, rfl⟩ trivial
end Go.Proofs.YtcnongahanmclaaGreat

namespace Go.Proofs.YtcnongahanmclaaGreat
open Go Go.Proofs Ev
set_option maxRecDepth 100000
set_option linter.unusedSimpArgs false
set_option linter.unusedVariables false
set_option maxHeartbeats 8000000
theorem slices_ContainsI (xs : List Int) (z : Int) (hl : xs.length ≤ 1048576) : AFn Tryz.prog 143 [sl (xs.map encI), av (.int .i64 z)] [] (rb (decide (idxV xs z ≥ 0))) [] := by
  have hI := slices_IndexI xs z hl
  refine AFn.introX (E := En 0 md0) (en_ok 0 _) Tryz.func143 rfl rfl rfl fun _ _ => ?_
  refine ACall.mk _ _ hI ?_
  refine Split.mk fun t h1 => ?_
  cases t
  · skip
    rw [decide_eq_false_iff_not] at h1
    exact Need.mk ⟨[], _, .same, congrArg rb (decide_eq_false h1).symm, rfl⟩ trivial
  · skip
    rw [decide_eq_true_iff] at h1
    exact Need.mk ⟨[], _, .same, congrArg rb (decide_eq_true h1).symm, rfl⟩ trivial
theorem impl_treeSnap (t : Tre) (hs : t.snaps.length ≤ 1048576) : AFn Tryz.prog 83 [.agg (t.enc.map .c)] [] (.tup [.agg (snapD t).1.enc, .one (vb (snapD t).2)]) [] := by
  have hC := slices_ContainsI t.snaps t.seq hs
  have hn : (t.snaps.map encI).length = t.snaps.length := List.length_map ..
  by_cases h0 : 0 ≤ idxV t.snaps t.seq
  · rw [decide_eq_true h0] at hC
    rw [show snapD t = (t, false) by unfold snapD; rw [if_pos (.inl h0)]]
    refine AFn.introX (E := En 0 md0) (en_ok 0 _) Tryz.func83 rfl rfl rfl fun _ _ => ?_
    refine ACall.mk _ _ hC ?_
    refine Split.mk fun t h1 => ?_
    cases t
    case false => cases h1
    exact Need.mk ⟨[], _, .same, rfl, rfl⟩ trivial
  · rw [decide_eq_false h0] at hC
    by_cases h4 : 4 ≤ t.snaps.length
    · rw [show snapD t = (t, false) by unfold snapD; rw [if_pos (.inr h4)]]
      refine AFn.introX (E := En 0 md0) (en_ok 0 _) Tryz.func83 rfl rfl rfl fun _ _ => ?_
      refine ACall.mk _ _ hC ?_
      refine Split.mk fun t h1 => ?_
      cases t
      case true => cases h1
      refine Split.mk fun t h2 => ?_
      cases t
      case false => (exfalso; rw [decide_eq_false_iff_not] at h2; omega)
      rw [decide_eq_true_iff] at h2
      exact Need.mk ⟨[], _, .same, rfl, rfl⟩ trivial
    · rw [show snapD t = ({ t with snaps := t.snaps ++ [t.seq] }, true) by unfold snapD; rw [if_neg (fun h => h.elim h0 h4)]]
      have hF := frzI (e := 3) [t.seq]
      have hK := slices_ConcatI [t.snaps, [t.seq]] (by simp) (by simp; omega) (by simp; omega)
      rw [show [t.snaps, [t.seq]].flatten = t.snaps ++ [t.seq] by simp] at hK
      refine AFn.introX (E := En 0 md0 (fb := [4])) (en_ok 0 _ _ _ _ _) Tryz.func83 rfl rfl rfl fun _ _ => ?_
      refine ACall.mk _ _ hC ?_
      refine Split.mk fun t h1 => ?_
      cases t
      case true => cases h1
      refine Split.mk fun t h2 => ?_
      cases t
      case true => (exfalso; rw [decide_eq_true_iff] at h2; omega)
      rw [decide_eq_false_iff_not] at h2
      refine Fz.mk _ (FrzLL.frz (.cons (.cons .sl .nil) (.cons (.cons (FrzLL.frz (.cons (.cons .v .nil) .nil)) .nil) .nil))) ?_
      refine ACall.mk _ _ hK ?_
      refine Need.mk (⟨ClL.mem (.us (clI _) .nil), no_objs⟩) ?_
      refine Fz.mk _ (frzI _) ?_
      exact Need.mk ⟨[], _, .same, rfl, rfl⟩ trivial
theorem treeDo_f (f : FuncId) (d : Tre → Tre × Bool) (t : Tre) (ht : t.Ok) (hsm : t.Small) (hd : treeOk t = true → AFn Tryz.prog f [.agg (t.enc.map .c)] [] (.tup [.agg (d t).1.enc, .one (vb (d t).2)]) []) (hds : treeOk t = true → (d t).1.Small) :
    AFn Tryz.prog 64 [.agg (t.enc.map .c), av (.func (.func f) #[] #[])] [] (.tup [.agg (encTO (treeDo t d).1), .one (vb (treeDo t d).2)]) [] := by
  have hO := impl_TreeOk t ht fun l hl r hr => Nat.le_trans ((hsm.2.2.1 l hl).2 r hr) (by decide)
  cases hb : treeOk t with
  | false =>
    rw [hb] at hO
    rw [show treeDo t d = (tre00, false) by unfold treeDo; rw [hb]; rfl]
    refine AFn.introX (E := En 0 md0) (en_ok 0 _ _ _ _ _) Tryz.func64 rfl rfl rfl fun _ _ => ?_
    refine ACall.mk _ _ hO ?_
    refine Split.mk fun t h1 => ?_
    cases t
    case true => cases h1
    exact Need.mk ⟨[], _, .same, rfl, rfl⟩ trivial
  | true =>
    rw [hb] at hO
    have hd := hd hb
    have hds := hds hb
    have hc1 := impl_treeCopy t hsm
    have hc2 := impl_treeCopy (d t).1 hds
    cases hb2 : (d t).2 with
    | false =>
      rw [hb2] at hd
      rw [show treeDo t d = (t, false) by unfold treeDo; rw [if_pos hb, if_neg (by rw [hb2]; simp)]]
      refine AFn.introX (E := En 0 md0) (en_ok 0 _ _ _ _ _) Tryz.func64 rfl rfl rfl fun _ _ => ?_
      refine ACall.mk _ _ hO ?_
      refine Split.mk fun t h1 => ?_
      cases t
      case false => cases h1
      refine ACall.mk _ _ hd ?_
      refine Split.mk fun t h2 => ?_
      cases t
      case true => cases h2
      refine ACall.mk _ _ hc1 ?_
      exact Need.mk ⟨[], _, .same, rfl, rfl⟩ trivial
    | true =>
      rw [hb2] at hd
      rw [show treeDo t d = ((d t).1, true) by unfold treeDo; rw [if_pos hb, if_pos hb2]; exact Prod.ext rfl hb2]
      have hex : ∃ x, (d t).1 = x := ⟨_, rfl⟩
      obtain ⟨x, hx⟩ := hex
      rw [hx] at hd hc2
      rw [hx]
      refine AFn.introX (E := En 0 md0) (en_ok 0 _ _ _ _ _) Tryz.func64 rfl rfl rfl fun _ _ => ?_
      refine ACall.mk _ _ hO ?_
      refine Split.mk fun t h1 => ?_
      cases t
      case false => cases h1
      refine ACall.mk _ _ hd ?_
      refine Split.mk fun t h2 => ?_
      cases t
      case false => cases h2
      refine ACall.mk _ _ hc2 ?_
      exact Need.mk ⟨[], _, .same, rfl, rfl⟩ trivial
theorem treeDo_c1 (f : FuncId) (o : C) (d : Tre → Tre × Bool) (t : Tre) (ht : t.Ok) (hsm : t.Small) (hd : treeOk t = true → AFnK Tryz.prog f [.agg (t.enc.map .c), .bx 0 0] [[o]] [0] (.tup [.agg (d t).1.enc, .one (vb (d t).2)]) [[o]]) (hds : treeOk t = true → (d t).1.Small) :
    AFnK Tryz.prog 64 [.agg (t.enc.map .c), .clo f [.bx 0 0]] [[o]] [0] (.tup [.agg (encTO (treeDo t d).1), .one (vb (treeDo t d).2)]) [[o]] := by
  have hO := impl_TreeOk t ht fun l hl r hr => Nat.le_trans ((hsm.2.2.1 l hl).2 r hr) (by decide)
  cases hb : treeOk t with
  | false =>
    rw [hb] at hO
    rw [show treeDo t d = (tre00, false) by unfold treeDo; rw [hb]; rfl]
    refine AFnK.introX (E := En 1 md0) (en_ok 1 _ _ _ _ _) Tryz.func64 rfl rfl rfl fun _ _ => ?_
    refine ACall.mk _ _ hO ?_
    refine Split.mk fun t h1 => ?_
    cases t
    case true => cases h1
    exact Need.mk ⟨[], _, .same, rfl, rfl⟩ trivial
  | true =>
    rw [hb] at hO
    have hd := hd hb
    have hds := hds hb
    have hc1 := impl_treeCopy t hsm
    have hc2 := impl_treeCopy (d t).1 hds
    cases hb2 : (d t).2 with
    | false =>
      rw [hb2] at hd
      rw [show treeDo t d = (t, false) by unfold treeDo; rw [if_pos hb, if_neg (by rw [hb2]; simp)]]
      refine AFnK.introX (E := En 1 md0) (en_ok 1 _ _ _ _ _) Tryz.func64 rfl rfl rfl fun _ _ => ?_
      refine ACall.mk _ _ hO ?_
      refine Split.mk fun t h1 => ?_
      cases t
      case false => cases h1
      refine ACall.mk _ _ hd ?_
      refine Split.mk fun t h2 => ?_
      cases t
      case true => cases h2
      refine ACall.mk _ _ hc1 ?_
      exact Need.mk ⟨[], _, .same, rfl, rfl⟩ trivial
    | true =>
      rw [hb2] at hd
      rw [show treeDo t d = ((d t).1, true) by unfold treeDo; rw [if_pos hb, if_pos hb2]; exact Prod.ext rfl hb2]
      have hex : ∃ x, (d t).1 = x := ⟨_, rfl⟩
      obtain ⟨x, hx⟩ := hex
      rw [hx] at hd hc2
      rw [hx]
      refine AFnK.introX (E := En 1 md0) (en_ok 1 _ _ _ _ _) Tryz.func64 rfl rfl rfl fun _ _ => ?_
      refine ACall.mk _ _ hO ?_
      refine Split.mk fun t h1 => ?_
      cases t
      case false => cases h1
      refine ACall.mk _ _ hd ?_
      refine Split.mk fun t h2 => ?_
      cases t
      case false => cases h2
      refine ACall.mk _ _ hc2 ?_
      exact Need.mk ⟨[], _, .same, rfl, rfl⟩ trivial
theorem snapD_small {t : Tre} (h : t.Small) : (snapD t).1.Small := by
  unfold snapD
  split
  · exact h
  · rename_i hh
    exact ⟨h.1, h.2.1, h.2.2.1, by show (t.snaps ++ [t.seq]).length ≤ _; rw [List.length_append]; have : ¬ 4 ≤ t.snaps.length := fun h4 => hh (.inr h4); simp; omega⟩
theorem impl_TreeSnap (t : Tre) (ht : t.Ok) (hsm : t.Small) : AFn Tryz.prog 31 [.agg (t.enc.map .c)] [] (.tup [.agg (encTO (treeDo t snapD).1), .one (vb (treeDo t snapD).2)]) [] := by
  have hD := treeDo_f 83 snapD t ht hsm (fun _ => impl_treeSnap t hsm.2.2.2) (fun _ => snapD_small hsm)
  have hex : ∃ x, treeDo t snapD = x := ⟨_, rfl⟩
  obtain ⟨x, hx⟩ := hex
  rw [hx] at hD
  rw [hx]
  refine AFn.introX (E := En 0 md0) (en_ok 0 _ _ _ _ _) Tryz.func31 rfl rfl rfl fun _ _ => ?_
  refine ACall.mk _ _ hD ?_
  refine Split.mk fun t h1 => ?_
  cases t
  · skip
    exact Need.mk ⟨[], _, .same, by rw [h1]; rfl, rfl⟩ trivial
  · skip
    exact Need.mk ⟨[], _, .same, by rw [h1]; rfl, rfl⟩ trivial
theorem spec_l5Has (t : Tre) (seq : Int) (hs : t.snaps.length ≤ 1048576) : AFn Tryz.prog 84 [.agg (t.enc.map .c), av (.int .i64 seq)] [] (rb (decide (0 ≤ idxV t.snaps seq))) [] := by
  have hn : (t.snaps.map encI).length = t.snaps.length := List.length_map ..
  refine AFn.introX (E := En 0 md0) (en_ok 0 _ _ _ _ _) Tryz.func84 rfl rfl rfl fun _ _ => ?_
  let S : Nat → St := fun i => ⟨none :: some (av (.int .i64 seq)) :: some (.bx 2 0) :: none :: none :: some (av (.int .i64 i)) :: List.replicate 14 none, absent :: absent :: ⟨0, 0, some t.enc⟩ :: List.replicate 17 absent⟩
  refine ALoop.mk (fun m s => ∃ i : Nat, i ≤ t.snaps.length ∧ m = t.snaps.length - i ∧ (∀ j, j < i → ∀ h : j < t.snaps.length, t.snaps[j] ≠ seq) ∧ s = S i)
    ⟨_, _, Weak.nrm [false, true, true, false, false, true] [(2, 2)] rfl rfl rfl, 0, Nat.zero_le _, rfl, fun j h => absurd h (by omega), rfl⟩ ?_
  rintro m s ⟨i, hi, rfl, hall, hs⟩
  by_cases hin : i = t.snaps.length
  · have hres : decide (0 ≤ idxV t.snaps seq) = false := by rw [idxV_none fun j hj => hall j (by omega)]; rfl
    subst hs
    refine Split.mk fun t h1 => ?_
    cases t
    case true => (exfalso; rw [decide_eq_true_iff] at h1; omega)
    rw [decide_eq_false_iff_not] at h1
    exact Need.mk ⟨[], _, .same, congrArg rb hres.symm, rfl⟩ trivial
  · have hia : i < t.snaps.length := by omega
    by_cases hz : t.snaps[i] = seq
    · have hres : decide (0 ≤ idxV t.snaps seq) = true := by rw [idxV_some hia hz hall]; exact decide_eq_true (by omega)
      subst hs
      refine Split.mk fun t h1 => ?_
      cases t
      case false => (exfalso; rw [decide_eq_false_iff_not] at h1; omega)
      rw [decide_eq_true_iff] at h1
      refine Need.mk (by omega) ?_
      refine Row.mk _ (map_get _ t.snaps i (by omega)) ?_
      refine Split.mk fun t h2 => ?_
      cases t
      case false => (exfalso; rw [beq_eq_false_iff_ne] at h2; omega)
      rw [beq_iff_eq] at h2
      exact Need.mk ⟨[], _, .same, congrArg rb hres.symm, rfl⟩ trivial
    · have hok : ∀ h : i < t.snaps.length, t.snaps[i] ≠ seq := fun _ h => hz h
      subst hs
      refine Split.mk fun t h1 => ?_
      cases t
      case false => (exfalso; rw [decide_eq_false_iff_not] at h1; omega)
      rw [decide_eq_true_iff] at h1
      refine Need.mk (by omega) ?_
      refine Row.mk _ (map_get _ t.snaps i (by omega)) ?_
      refine Split.mk fun t h2 => ?_
      cases t
      case true => (exfalso; rw [beq_iff_eq] at h2; omega)
      rw [beq_eq_false_iff_ne] at h2
      refine Num.mk _ (wrapS (by omega)) ?_
      exact ⟨_, _, by omega, Weak.nrm [false, true, true, false, false, true] [(2, 2)] rfl rfl rfl, i + 1, by omega, rfl, allS hall hok, rfl⟩
theorem spec_TreeSnap (t : Tre) (ht : t.Ok) (hsm : t.Small) : AFn Tryz.prog 32 [.agg (t.enc.map .c)] [] (.tup [.agg (encTO (treeDo t snapD).1), .one (vb (treeDo t snapD).2)]) [] := by
  have hO := spec_TreeOk t ht (Nat.le_trans hsm.2.2.2 (by decide)) fun l hl r hr => Nat.le_trans ((hsm.2.2.1 l hl).2 r hr) (by decide)
  cases hb : treeOk t with
  | false =>
    rw [hb] at hO
    rw [show treeDo t snapD = (tre00, false) by unfold treeDo; rw [hb]; rfl]
    refine AFn.introX (E := En 0 md0) (en_ok 0 _ _ _ _ _) Tryz.func32 rfl rfl rfl fun _ _ => ?_
    refine ACall.mk _ _ hO ?_
    refine Split.mk fun t h1 => ?_
    cases t
    case true => cases h1
    exact Need.mk ⟨[], _, .same, rfl, rfl⟩ trivial
  | true =>
    rw [hb] at hO
    have hC := spec_l5Copy t hsm
    have hH := spec_l5Has t t.seq hsm.2.2.2
    have hn : (t.snaps.map encI).length = t.snaps.length := List.length_map ..
    by_cases h0 : 0 ≤ idxV t.snaps t.seq
    · rw [decide_eq_true h0] at hH
      have e1 : snapD t = (t, false) := by unfold snapD; rw [if_pos (.inl h0)]
      rw [show treeDo t snapD = (t, false) by unfold treeDo; rw [if_pos hb, e1]; rfl]
      refine AFn.introX (E := En 0 md0) (en_ok 0 _ _ _ _ _) Tryz.func32 rfl rfl rfl fun _ _ => ?_
      refine ACall.mk _ _ hO ?_
      refine Split.mk fun t h1 => ?_
      cases t
      case false => cases h1
      refine ACall.mk _ _ hC ?_
      refine ACall.mk _ _ hH ?_
      refine Split.mk fun t h2 => ?_
      cases t
      case false => cases h2
      exact Need.mk ⟨[], _, .same, rfl, rfl⟩ trivial
    · rw [decide_eq_false h0] at hH
      by_cases h4 : 4 ≤ t.snaps.length
      · have e1 : snapD t = (t, false) := by unfold snapD; rw [if_pos (.inr h4)]
        rw [show treeDo t snapD = (t, false) by unfold treeDo; rw [if_pos hb, e1]; rfl]
        refine AFn.introX (E := En 0 md0) (en_ok 0 _ _ _ _ _) Tryz.func32 rfl rfl rfl fun _ _ => ?_
        refine ACall.mk _ _ hO ?_
        refine Split.mk fun t h1 => ?_
        cases t
        case false => cases h1
        refine ACall.mk _ _ hC ?_
        refine ACall.mk _ _ hH ?_
        refine Split.mk fun t h2 => ?_
        cases t
        case true => cases h2
        refine Split.mk fun t h3 => ?_
        cases t
        case false => (exfalso; rw [decide_eq_false_iff_not] at h3; omega)
        rw [decide_eq_true_iff] at h3
        exact Need.mk ⟨[], _, .same, rfl, rfl⟩ trivial
      · have e1 : snapD t = ({ t with snaps := t.snaps ++ [t.seq] }, true) := by unfold snapD; rw [if_neg (fun h => h.elim h0 h4)]
        rw [show treeDo t snapD = ({ t with snaps := t.snaps ++ [t.seq] }, true) by unfold treeDo; rw [if_pos hb, e1]; rfl]
        have hres : RV.tup [.agg [vi t.seq, .us 54 (t.mem.map Ent.enc), .us 66 (t.levels.map encLO), .us 3 (t.snaps.map encI ++ [encI t.seq])], .one (vb true)] = .tup [.agg (encTO { t with snaps := t.snaps ++ [t.seq] }), .one (vb true)] := by unfold encTO; rw [List.map_append]; rfl
        refine AFn.introX (E := En 0 md0) (en_ok 0 _ _ _ _ _) Tryz.func32 rfl rfl rfl fun _ _ => ?_
        refine ACall.mk _ _ hO ?_
        refine Split.mk fun t h1 => ?_
        cases t
        case false => cases h1
        refine ACall.mk _ _ hC ?_
        refine ACall.mk _ _ hH ?_
        refine Split.mk fun t h2 => ?_
        cases t
        case true => cases h2
        refine Split.mk fun t h3 => ?_
        cases t
        case true => (exfalso; rw [decide_eq_true_iff] at h3; omega)
        rw [decide_eq_false_iff_not] at h3
        refine Need.mk (appEq (A' := _) (B' := [[vi t.seq]]) rfl rfl (by simp only [List.length_append, List.length_map, List.length_take, List.length_drop, List.length_cons, List.length_nil, List.length_reverse, List.length_replicate, List.length_set]; omega) (by decide)) ?_
        exact Need.mk ⟨[], _, .same, hres, rfl⟩ trivial
end Go.Proofs.YtcnongahanmclaaGreat

namespace Go.Proofs.YtcnongahanmclaaGreat
open Go Go.Proofs Ev
set_option maxRecDepth 100000
set_option linter.unusedSimpArgs false
set_option linter.unusedVariables false
set_option maxHeartbeats 8000000
theorem dropD_none {t : Tre} {seq : Int} (h : idxI t.snaps seq = none) : dropD seq t = (t, false) := by unfold dropD; rw [h]
theorem dropD_some {t : Tre} {seq : Int} {i : Nat} (h : idxI t.snaps seq = some i) : dropD seq t = ({ t with snaps := t.snaps.take i ++ t.snaps.drop (i + 1) }, true) := by unfold dropD; rw [h]
theorem idxI_lt {xs : List Int} {z : Int} {i : Nat} (h : idxI xs z = some i) : i < xs.length ∧ idxV xs z = (i : Int) := by
  have h0 := h
  unfold idxI at h
  rw [List.findIdx?_eq_some_iff_getElem] at h
  obtain ⟨h1, _⟩ := h
  refine ⟨h1, ?_⟩
  unfold idxV
  rw [h0]
theorem impl_TreeDrop1 (t : Tre) (seq : Int) (hs : t.snaps.length ≤ 999999) : AFnK Tryz.prog 93 [.agg (t.enc.map .c), .bx 0 0] [[vi seq]] [0] (.tup [.agg (dropD seq t).1.enc, .one (vb (dropD seq t).2)]) [[vi seq]] := by
  have hI := slices_IndexI t.snaps seq (by omega)
  have hn : (t.snaps.map encI).length = t.snaps.length := List.length_map ..
  cases hi : idxI t.snaps seq with
  | none =>
    rw [dropD_none hi]
    rw [show idxV t.snaps seq = -1 by unfold idxV; rw [hi]] at hI
    refine AFnK.introX (E := En 1 md0) (en_ok 1 _ _ _ _ _) Tryz.func93 rfl rfl rfl fun _ _ => ?_
    refine ACall.mk _ _ hI ?_
    refine Split.mk fun t h1 => ?_
    cases t
    case false => cases h1
    exact Need.mk ⟨[], _, .same, rfl, rfl⟩ trivial
  | some i =>
    rw [dropD_some hi]
    obtain ⟨hlt, hv⟩ := idxI_lt hi
    rw [hv] at hI
    have e1 : ((t.snaps.map encI).drop (0 : Int).toNat).take ((i : Int) - 0).toNat = (t.snaps.take i).map encI := by
      rw [show ((i : Int) - 0).toNat = i by omega, show (0 : Int).toNat = 0 from rfl, List.drop_zero, List.map_take]
    have e2 : ((t.snaps.map encI).drop ((i + 1 : Nat) : Int).toNat).take (((t.snaps.map encI).length : Int) - ((i + 1 : Nat) : Int)).toNat = (t.snaps.drop (i + 1)).map encI := by
      rw [Int.toNat_natCast, ← List.map_drop]
      exact List.take_of_length_le (by rw [List.length_map, List.length_drop, hn]; omega)
    have hK := slices_ConcatI [t.snaps.take i, t.snaps.drop (i + 1)] (by simp) (by simp; omega) (by simp; omega)
    rw [show [t.snaps.take i, t.snaps.drop (i + 1)].flatten = t.snaps.take i ++ t.snaps.drop (i + 1) by simp] at hK
    have hK2 : AFn Tryz.prog 95 [sl [[.sl (((t.snaps.map encI).drop (0 : Int).toNat).take ((i : Int) - 0).toNat)], [.sl (((t.snaps.map encI).drop ((i + 1 : Nat) : Int).toNat).take (((t.snaps.map encI).length : Int) - ((i + 1 : Nat) : Int)).toNat)]]] [] (.one (.us 3 ((t.snaps.take i ++ t.snaps.drop (i + 1)).map encI))) [] := by
      rw [e1, e2]; exact hK
    refine AFnK.introX (E := En 1 md0 (fb := [7])) (en_ok 1 _ _ _ _ _) Tryz.func93 rfl rfl rfl fun _ _ => ?_
    refine ACall.mk _ _ hI ?_
    refine Split.mk fun t h1 => ?_
    cases t
    case true => cases h1
    refine Need.mk (⟨by omega, by omega, by omega, lenI _⟩) ?_
    refine Num.mk _ (wrapS (by omega)) ?_
    refine Need.mk (⟨by omega, by omega, by omega, lenI _⟩) ?_
    refine Fz.mk _ (FrzLL.frz (.cons (.cons .sl .nil) (.cons (.cons .sl .nil) .nil))) ?_
    refine ACall.mk _ _ hK2 ?_
    refine Need.mk (⟨ClL.mem (.us (clI _) .nil), no_objs⟩) ?_
    refine Fz.mk _ (frzI _) ?_
    refine Need.mk (rfl) ?_
    exact Need.mk ⟨[], _, .same, rfl, rfl⟩ trivial
theorem dropD_small {t : Tre} {seq : Int} (h : t.Small) : (dropD seq t).1.Small := by
  unfold dropD
  split
  · exact ⟨h.1, h.2.1, h.2.2.1, by show (t.snaps.take _ ++ t.snaps.drop _).length ≤ _; have := h.2.2.2; rw [List.length_append, List.length_take, List.length_drop]; omega⟩
  · exact h
theorem impl_TreeDrop (t : Tre) (seq : Int) (ht : t.Ok) (hsm : t.Small) : AFn Tryz.prog 35 [.agg (t.enc.map .c), av (.int .i64 seq)] [] (.tup [.agg (encTO (treeDo t (dropD seq)).1), .one (vb (treeDo t (dropD seq)).2)]) [] := by
  have hD := treeDo_c1 93 (vi seq) (dropD seq) t ht hsm (fun hb => impl_TreeDrop1 t seq (by have := treeOk_snaps hb; omega)) (fun _ => dropD_small hsm)
  have hex : ∃ x, treeDo t (dropD seq) = x := ⟨_, rfl⟩
  obtain ⟨x, hx⟩ := hex
  rw [hx] at hD
  rw [hx]
  refine AFn.introX (E := En 0 md0) (en_ok 0 _ _ _ _ _) Tryz.func35 rfl rfl rfl fun _ _ => ?_
  refine ACall.mk _ _ hD ?_
  refine Split.mk fun t h1 => ?_
  cases t
  · skip
    exact Need.mk ⟨[], _, .same, by rw [h1]; rfl, rfl⟩ trivial
  · skip
    exact Need.mk ⟨[], _, .same, by rw [h1]; rfl, rfl⟩ trivial
theorem Weak_frz {P : Program} {m : Nat} {st : St} (id : Nat) (p : Pth) (e : TypeId) (rows : List (List C)) (c' : C) (ob : Ob) (cells : List C) (ho : st.o[id]? = some ob) (hc : ob.cells = some cells) (hg : getC cells p = some (.us e rows)) (hz : Frz (.us e rows) c') : Weak P m st ⟨st.s, st.o.set id ⟨ob.g, ob.kind, some (putC cells c' p)⟩⟩ :=
  fun _ _ _ L _ _ h => ⟨L, _, (h.freeze ho hc hg hz).1⟩
theorem spec_TreeDrop_ok (t : Tre) (seq : Int) (ht : t.Ok) (hsm : t.Small) (hb : treeOk t = true) (X : List Int) (b : Bool) (hX : t.snaps.filter (fun x => decide (x ≠ seq)) = X) (hbb : decide (X.length < t.snaps.length) = b) : AFn Tryz.prog 54 [.agg (t.enc.map .c), av (.int .i64 seq)] [] (.tup [.agg ({ t with snaps := X } : Tre).enc, .one (vb b)]) [] := by
  have hO := spec_TreeOk t ht (Nat.le_trans hsm.2.2.2 (by decide)) fun l hl r hr => Nat.le_trans ((hsm.2.2.1 l hl).2 r hr) (by decide)
  rw [hb] at hO
  have hC := spec_l5Copy t hsm
  have hn : (t.snaps.map encI).length = t.snaps.length := List.length_map ..
  have hsn := (treeOk_snaps hb).1
  refine AFn.introX (E := En 0 md0) (en_ok 0 _ _ _ _ _) Tryz.func54 rfl rfl rfl fun _ _ => ?_
  refine ACall.mk _ _ hO ?_
  refine Split.mk fun t h1 => ?_
  cases t
  case false => cases h1
  refine ACall.mk _ _ hC ?_
  let G : C → C → C → Nat → St := fun c1 c2 c3 i => ⟨none :: some (av (.int .i64 seq)) :: some (.bx 2 0) :: none :: some (.bx 4 0) :: none :: some (.bx 6 0) :: some (av (.int .i64 i)) :: List.replicate 40 none, absent :: absent :: ⟨0, 0, some t.enc⟩ :: absent :: ⟨0, 0, some [vi 0, .us 54 [], .us 66 [], .us 3 []]⟩ :: absent :: ⟨0, 0, some [vi t.seq, c1, c2, c3]⟩ :: List.replicate 41 absent⟩
  let S : List (List C) → Nat → St := fun R i => G (.us 54 (t.mem.map Ent.enc)) (.us 66 (t.levels.map encLO)) (.us 3 R) i
  let S' : List (List C) → Nat → St := fun R i => G (.sl (t.mem.map Ent.enc)) (.sl (t.levels.map encL)) (.sl R) i
  have hW : ∀ (R : List Int) (i : Nat), Weak Tryz.prog 0 (S (R.map encI) i) (S' (R.map encI) i) := fun R i => by
    have h1 : Weak Tryz.prog 0 (G (.us 54 (t.mem.map Ent.enc)) (.us 66 (t.levels.map encLO)) (.us 3 (R.map encI)) i) (G (.sl (t.mem.map Ent.enc)) (.us 66 (t.levels.map encLO)) (.us 3 (R.map encI)) i) :=
      Weak_frz (st := G (.us 54 (t.mem.map Ent.enc)) (.us 66 (t.levels.map encLO)) (.us 3 (R.map encI)) i) 6 (.cell 1) 54 (t.mem.map Ent.enc) (.sl (t.mem.map Ent.enc)) ⟨0, 0, some [vi t.seq, (.us 54 (t.mem.map Ent.enc)), (.us 66 (t.levels.map encLO)), (.us 3 (R.map encI))]⟩ [vi t.seq, (.us 54 (t.mem.map Ent.enc)), (.us 66 (t.levels.map encLO)), (.us 3 (R.map encI))] rfl rfl rfl (frzE _)
    have h2 : Weak Tryz.prog 0 (G (.sl (t.mem.map Ent.enc)) (.us 66 (t.levels.map encLO)) (.us 3 (R.map encI)) i) (G (.sl (t.mem.map Ent.enc)) (.sl (t.levels.map encL)) (.us 3 (R.map encI)) i) :=
      Weak_frz (st := G (.sl (t.mem.map Ent.enc)) (.us 66 (t.levels.map encLO)) (.us 3 (R.map encI)) i) 6 (.cell 2) 66 (t.levels.map encLO) (.sl (t.levels.map encL)) ⟨0, 0, some [vi t.seq, (.sl (t.mem.map Ent.enc)), (.us 66 (t.levels.map encLO)), (.us 3 (R.map encI))]⟩ [vi t.seq, (.sl (t.mem.map Ent.enc)), (.us 66 (t.levels.map encLO)), (.us 3 (R.map encI))] rfl rfl rfl (frzRR _)
    have h3 : Weak Tryz.prog 0 (G (.sl (t.mem.map Ent.enc)) (.sl (t.levels.map encL)) (.us 3 (R.map encI)) i) (G (.sl (t.mem.map Ent.enc)) (.sl (t.levels.map encL)) (.sl (R.map encI)) i) :=
      Weak_frz (st := G (.sl (t.mem.map Ent.enc)) (.sl (t.levels.map encL)) (.us 3 (R.map encI)) i) 6 (.cell 3) 3 (R.map encI) (.sl (R.map encI)) ⟨0, 0, some [vi t.seq, (.sl (t.mem.map Ent.enc)), (.sl (t.levels.map encL)), (.us 3 (R.map encI))]⟩ [vi t.seq, (.sl (t.mem.map Ent.enc)), (.sl (t.levels.map encL)), (.us 3 (R.map encI))] rfl rfl rfl (frzI _)
    exact Weak.trans h1 (Weak.trans h2 h3)
  let F : Nat → List Int := fun i => (t.snaps.take i).filter (fun x => decide (x ≠ seq))
  have hcase : ∀ (i : Nat) (st : St), i ≤ t.snaps.length → Weak Tryz.prog 0 st (S ((F i).map encI) i) → ∃ s', Weak Tryz.prog 0 st s' ∧ ((i < t.snaps.length ∧ s' = S ((F i).map encI) i) ∨ (i = t.snaps.length ∧ s' = S' ((F i).map encI) i)) := fun i st hi hw => by
    by_cases h : i < t.snaps.length
    · exact ⟨_, hw, .inl ⟨h, rfl⟩⟩
    · exact ⟨_, Weak.trans hw (hW _ _), .inr ⟨by omega, rfl⟩⟩
  have hin0 : ∀ st : St, Weak Tryz.prog 0 st (S ((F 0).map encI) 0) → ∃ m s', Weak Tryz.prog 0 st s' ∧ ∃ i : Nat, m = t.snaps.length - i ∧ ((i < t.snaps.length ∧ s' = S ((F i).map encI) i) ∨ (i = t.snaps.length ∧ s' = S' ((F i).map encI) i)) := fun st hw => by
    obtain ⟨s', h1, h2⟩ := hcase 0 st (Nat.zero_le _) hw
    exact ⟨_, s', h1, 0, rfl, h2⟩
  refine ALoop.mk (fun m s => ∃ i : Nat, m = t.snaps.length - i ∧ ((i < t.snaps.length ∧ s = S ((F i).map encI) i) ∨ (i = t.snaps.length ∧ s = S' ((F i).map encI) i)))
    (hin0 _ (Weak.nrm [false, true, true, false, true, false, true, true] [(2, 2), (4, 4), (6, 6)] rfl rfl rfl)) ?_
  rintro m s ⟨i, rfl, hs⟩
  by_cases hin : i = t.snaps.length
  · have hs : s = S' ((F i).map encI) i := hs.elim (fun h => absurd h.1 (by omega)) fun h => h.2
    have hFX : F i = X := by show (t.snaps.take i).filter _ = X; rw [hin, List.take_length, hX]
    rw [hFX, hin] at hs
    have hXn : (X.map encI).length = X.length := List.length_map ..
    have hbb2 : decide (((X.map encI).length : Int) < ((t.snaps.map encI).length : Int)) = b := by rw [hXn, hn, ← hbb]; simp
    subst hs
    refine Split.mk fun t h1 => ?_
    cases t
    case true => (exfalso; rw [decide_eq_true_iff] at h1; omega)
    rw [decide_eq_false_iff_not] at h1
    refine Split.mk fun t h2 => ?_
    cases t
    · skip
      rw [decide_eq_false_iff_not] at h2
      refine Need.mk (rfl) ?_
      refine Need.mk ⟨[], _, .same, ?_, rfl⟩ trivial
      have hb3 : b = false := by rw [← hbb2]; exact decide_eq_false h2
      subst hb3
      rfl
    · skip
      rw [decide_eq_true_iff] at h2
      refine Need.mk (rfl) ?_
      refine Need.mk ⟨[], _, .same, ?_, rfl⟩ trivial
      have hb3 : b = true := by rw [← hbb2]; exact decide_eq_true h2
      subst hb3
      rfl
  · have hia : i < t.snaps.length := hs.elim (fun h => h.1) fun h => absurd h.1 hin
    have hs : s = S ((F i).map encI) i := hs.elim (fun h => h.2) fun h => absurd h.1 hin
    have hF : F i = (t.snaps.take i).filter (fun x => decide (x ≠ seq)) := rfl
    have hF1 : F (i + 1) = (t.snaps.take (i + 1)).filter (fun x => decide (x ≠ seq)) := rfl
    have hfl : ((t.snaps.take i).filter (fun x => decide (x ≠ seq))).length ≤ 4 := by
      have := List.length_filter_le (fun x => decide (x ≠ seq)) (t.snaps.take i)
      rw [List.length_take] at this; omega
    have hst : (t.snaps.take (i + 1)).filter (fun x => decide (x ≠ seq)) = (t.snaps.take i).filter (fun x => decide (x ≠ seq)) ++ if t.snaps[i] = seq then [] else [t.snaps[i]] := by
      rw [List.take_succ_eq_append_getElem hia, List.filter_append]
      congr 1
      by_cases h : t.snaps[i] = seq <;> simp [h]
    have hex : ∃ G0, (t.snaps.take i).filter (fun x => decide (x ≠ seq)) = G0 := ⟨_, rfl⟩
    obtain ⟨G0, hG⟩ := hex
    rw [hF, hG] at hs
    rw [hG] at hst hfl
    rw [← hF1] at hst
    by_cases hz : t.snaps[i] = seq
    · rw [if_pos hz, List.append_nil] at hst
      have hround2 : ∀ st : St, Weak Tryz.prog 0 st (S (G0.map encI) (i + 1)) → ∃ m' s', m' < t.snaps.length - i ∧ Weak Tryz.prog 0 st s' ∧ ∃ j : Nat, m' = t.snaps.length - j ∧ ((j < t.snaps.length ∧ s' = S ((F j).map encI) j) ∨ (j = t.snaps.length ∧ s' = S' ((F j).map encI) j)) := fun st hw => by
        obtain ⟨s', h1, h2⟩ := hcase (i + 1) st hia (by rw [hst]; exact hw)
        exact ⟨_, s', by omega, h1, i + 1, rfl, h2⟩
      subst hs
      refine Split.mk fun t h1 => ?_
      cases t
      case false => (exfalso; rw [decide_eq_false_iff_not] at h1; omega)
      rw [decide_eq_true_iff] at h1
      refine Need.mk (by omega) ?_
      refine Row.mk _ (map_get _ t.snaps i (by omega)) ?_
      refine Split.mk fun t h2 => ?_
      cases t
      case true => (exfalso; rw [bne_iff_ne] at h2; omega)
      rw [bne_eq_false_iff_eq] at h2
      refine Num.mk _ (wrapS (by omega)) ?_
     
      exact hround2 _ (Weak.nrm [false, true, true, false, true, false, true, true] [(2, 2), (4, 4), (6, 6)] rfl rfl rfl)
    · rw [if_neg hz] at hst
      have hround2 : ∀ st : St, Weak Tryz.prog 0 st (S (G0.map encI ++ [[vi t.snaps[i]]]) (i + 1)) → ∃ m' s', m' < t.snaps.length - i ∧ Weak Tryz.prog 0 st s' ∧ ∃ j : Nat, m' = t.snaps.length - j ∧ ((j < t.snaps.length ∧ s' = S ((F j).map encI) j) ∨ (j = t.snaps.length ∧ s' = S' ((F j).map encI) j)) := fun st hw => by
        obtain ⟨s', h1, h2⟩ := hcase (i + 1) st hia (by rw [hst, List.map_append]; exact hw)
        exact ⟨_, s', by omega, h1, i + 1, rfl, h2⟩
      subst hs
      refine Split.mk fun t h1 => ?_
      cases t
      case false => (exfalso; rw [decide_eq_false_iff_not] at h1; omega)
      rw [decide_eq_true_iff] at h1
      refine Need.mk (by omega) ?_
      refine Row.mk _ (map_get _ t.snaps i (by omega)) ?_
      refine Split.mk fun t h2 => ?_
      cases t
      case false => (exfalso; rw [bne_eq_false_iff_eq] at h2; omega)
      rw [bne_iff_ne] at h2
      refine Need.mk (by omega) ?_
      refine Row.mk _ (map_get _ t.snaps i (by omega)) ?_
      refine Need.mk (appEq (A' := _) (B' := [[vi t.snaps[i]]]) rfl rfl (by simp only [List.length_append, List.length_map, List.length_take, List.length_drop, List.length_cons, List.length_nil, List.length_reverse, List.length_replicate, List.length_set]; omega) (by decide)) ?_
      refine Need.mk (rfl) ?_
      refine Num.mk _ (wrapS (by omega)) ?_
     
      exact hround2 _ (Weak.nrm [false, true, true, false, true, false, true, true] [(2, 2), (4, 4), (6, 6)] rfl rfl rfl)
theorem spec_TreeDrop (t : Tre) (seq : Int) (ht : t.Ok) (hsm : t.Small) : AFn Tryz.prog 54 [.agg (t.enc.map .c), av (.int .i64 seq)] [] (.tup [.agg (treeDo t (dropD seq)).1.enc, .one (vb (treeDo t (dropD seq)).2)]) [] := by
  cases hb : treeOk t with
  | false =>
    have hO := spec_TreeOk t ht (Nat.le_trans hsm.2.2.2 (by decide)) fun l hl r hr => Nat.le_trans ((hsm.2.2.1 l hl).2 r hr) (by decide)
    rw [hb] at hO
    rw [show treeDo t (dropD seq) = (tre00, false) by unfold treeDo; rw [hb]; rfl]
    refine AFn.introX (E := En 0 md0) (en_ok 0 _ _ _ _ _) Tryz.func54 rfl rfl rfl fun _ _ => ?_
    refine ACall.mk _ _ hO ?_
    refine Split.mk fun t h1 => ?_
    cases t
    case true => cases h1
    exact Need.mk ⟨[false, true, true, true], _, .keep (.frz (frzE []) (.frz (frzRR []) (.frz (frzI []) .same))), rfl, rfl⟩ trivial
  | true =>
    have hfl := filter_ne (treeOk_snaps hb).2 seq
    cases hi : idxI t.snaps seq with
    | none =>
      rw [hi] at hfl
      rw [show treeDo t (dropD seq) = (t, false) by unfold treeDo; rw [if_pos hb, dropD_none hi]; rfl]
      exact spec_TreeDrop_ok t seq ht hsm hb t.snaps false hfl (by simp)
    | some i =>
      rw [hi] at hfl
      rw [show treeDo t (dropD seq) = ({ t with snaps := t.snaps.take i ++ t.snaps.drop (i + 1) }, true) by unfold treeDo; rw [if_pos hb, dropD_some hi]; rfl]
      exact spec_TreeDrop_ok t seq ht hsm hb _ true hfl (decide_eq_true (by have := (idxI_lt hi).1; rw [List.length_append, List.length_take, List.length_drop]; omega))
end Go.Proofs.YtcnongahanmclaaGreat

namespace Go.Proofs.YtcnongahanmclaaGreat
open Go Go.Proofs Ev
set_option maxRecDepth 100000
set_option linter.unusedSimpArgs false
set_option linter.unusedVariables false
set_option maxHeartbeats 4000000
theorem heads_Len (hs : List Hd1) : AFn Tryz.prog 243 [sl (hs.map encH)] [] (.one (vi (hs.length : Nat))) [] := by
  refine AFn.introX (E := En 0 md0) (en_ok 0 md0) Tryz.func243 rfl rfl rfl fun _ _ => ?_
  refine Need.mk ⟨[], _, .same, ?_, rfl⟩ trivial
  exact congrArg (fun n : Nat => RV.one (vi (n : Int))) (List.length_map encH : (hs.map encH).length = hs.length)
theorem heads_Less (hs : List Hd1) (i j : Nat) (a b : Hd1) (hA : hs[i]? = some a) (hB : hs[j]? = some b) (ha : a.1 ≠ []) (hb : b.1 ≠ []) :
    AFn Tryz.prog 244 [sl (hs.map encH), av (.int .i64 i), av (.int .i64 j)] [] (rb (hl a b)) [] := by
  refine AFn.introX (E := En 0 md0) (en_ok 0 md0) Tryz.func244 rfl rfl rfl fun _ _ => ?_
  have r1 : (hs.map encH)[i]? = some (encH a) := by rw [List.getElem?_map, hA]; rfl
  have r2 : (hs.map encH)[j]? = some (encH b) := by rw [List.getElem?_map, hB]; rfl
  have r3 := hdE_get ha
  have r4 := hdE_get hb
  have hq := hl_eq a b
  have hO := impl_entryOrder (hdE a) (hdE b)
  have fin : ∀ {c : Bool}, c = hl a b → rb c = rb (hl a b) := fun h => by rw [h]
  refine Need.mk (by omega) ?_
  refine Row.mk _ r1 ?_
  refine Need.mk (by omega) ?_
  refine Row.mk _ r2 ?_
  refine Need.mk rfl ?_
  refine Need.mk (by decide) ?_
  refine Row.mk _ r3 ?_
  refine Need.mk (by decide) ?_
  refine Row.mk _ r4 ?_
  refine ACall.mk _ _ hO ?_
  refine Need.mk rfl ?_
  refine Split.mk fun t ht => ?_
  cases t
  · refine Split.mk fun t ht2 => ?_
    refine Need.mk ⟨[], _, .same, fin ?_, rfl⟩ trivial
    have h0 : eord (hdE a) (hdE b) = 0 := by simpa using ht
    rw [hq, if_pos h0, ← ht2]
    exact decide_eq_decide.2 Int.ofNat_lt
  · refine Split.mk fun t ht2 => ?_
    refine Need.mk ⟨[], _, .same, fin ?_, rfl⟩ trivial
    have h0 : ¬ eord (hdE a) (hdE b) = 0 := by simpa using ht
    rw [hq, if_neg h0, ← ht2]
theorem heads_Swap (hs : List Hd1) (i j : Nat) (hi : i < hs.length) (hj : j < hs.length) :
    AFn Tryz.prog 245 [.one (.ref 0 0 (.cell 0)), av (.int .i64 i), av (.int .i64 j)] [[.us 162 (hs.map encH)]] (.tup []) [[.us 162 ((swapL hd0 hs i j).map encH)]] := by
  refine AFn.introX (E := En 1 md0) (en_ok 1 md0) Tryz.func245 rfl rfl rfl fun _ _ => ?_
  have hl : (hs.map encH).length = hs.length := List.length_map ..
  have r1 : (hs.map encH)[i]? = some (encH (hs.getD i hd0)) := by rw [List.getElem?_map, getH hi]; rfl
  have r2 : (hs.map encH)[j]? = some (encH (hs.getD j hd0)) := by rw [List.getElem?_map, getH hj]; rfl
  have hsl : (hs.set i (hs.getD j hd0)).length = hs.length := List.length_set ..
  have r3 : ((hs.map encH).set i (encH (hs.getD j hd0)))[j]? = some (encH ((hs.set i (hs.getD j hd0)).getD j hd0)) := by
    rw [← List.map_set, List.getElem?_map, getH (by rw [hsl]; exact hj)]; rfl
  have hl3 : ((hs.map encH).set i (encH (hs.getD j hd0))).length = hs.length := by rw [List.length_set, hl]
  have e2 : ((hs.map encH).set i (encH (hs.getD j hd0))).set j (encH (hs.getD i hd0)) = (swapL hd0 hs i j).map encH := by rw [← List.map_set, ← List.map_set]; rfl
  refine Need.mk ⟨by omega, by rw [hl]; omega⟩ ?_
  refine Row.mk _ r2 ?_
  refine Need.mk ⟨by omega, by rw [hl]; omega⟩ ?_
  refine Row.mk _ r1 ?_
  refine Need.mk ⟨by omega, by rw [hl]; omega⟩ ?_
  refine Row.mk _ r1 ?_
  refine Need.mk ⟨by omega, show ((j : Nat) : Int) < ((((hs.map encH).set i (encH (hs.getD j hd0))).length : Nat) : Int) from by rw [hl3]; omega⟩ ?_
  refine Row.mk _ r3 ?_
  refine Need.mk rfl ?_
  refine Need.mk ⟨[], _, .same, rfl, ?_⟩ trivial
  exact congrArg (fun R => [[C.us 162 R]]) e2
theorem heads_Pop (hs : List Hd1) (h0 : 0 < hs.length) (hx : hs.length ≤ 1099511627776) :
    AFnK Tryz.prog 246 [.bx 0 0] [[.us 162 (hs.map encH)]] [0] (.one .x) [[.us 162 ((hs.take (hs.length - 1)).map encH)]] := by
  refine AFnK.introX (E := En 1 md0) (en_ok 1 md0) Tryz.func246 rfl rfl rfl fun _ _ => ?_
  have hl : (hs.map encH).length = hs.length := List.length_map ..
  have r1 : (hs.map encH)[hs.length - 1]? = some (encH (hs.getD (hs.length - 1) hd0)) := by rw [List.getElem?_map, getH (by omega)]; rfl
  have e1 : (hs.map encH).take (((hs.length - 1 : Nat) : Int) - 0).toNat = (hs.take (hs.length - 1)).map encH := by
    rw [Int.sub_zero, Int.toNat_natCast, List.map_take]
  refine Num.mk ((hs.length - 1 : Nat) : Int) (wrapI' (by rw [hl]; omega) (by omega)) ?_
  refine Need.mk ⟨by omega, by rw [hl]; omega⟩ ?_
  refine Row.mk _ r1 ?_
  refine Num.mk ((hs.length - 1 : Nat) : Int) (wrapI' (by rw [hl]; omega) (by omega)) ?_
  refine Need.mk ⟨by omega, by omega, by rw [hl]; omega⟩ ?_
  refine Need.mk ?_ trivial
  exact congrArg (fun R => [[C.us 162 R]]) e1
theorem heap_down (hs0 : List Hd1) (i0 n : Nat) (hnl : n ≤ hs0.length) (hll : hs0.length ≤ 1099511627776) (hi0 : i0 ≤ n) (hne : ∀ k, k < n → (hs0.getD k hd0).1 ≠ []) :
    AFnK Tryz.prog 200 [.ifc 164 (.bx 0 0), av (.int .i64 i0), av (.int .i64 n)] [[.us 162 (hs0.map encH)]] [0] (rb (decide (i0 < downJ hl hd0 (n - i0) hs0 i0 n))) [[.us 162 ((downF hl hd0 (n - i0) hs0 i0 n).map encH)]] := by
  refine AFnK.introX (E := En 1 (md1 [245])) (en_ok 1 _) Tryz.func200 rfl rfl rfl fun _ _ => ?_
  have hex : ∃ R, downF hl hd0 (n - i0) hs0 i0 n = R := ⟨_, rfl⟩
  obtain ⟨R, hR0⟩ := hex
  rw [hR0]
  have hex : ∃ J, downJ hl hd0 (n - i0) hs0 i0 n = J := ⟨_, rfl⟩
  obtain ⟨J, hJ00⟩ := hex
  rw [hJ00]
  have fin : ∀ {c : Bool}, c = decide (i0 < J) → rb c = rb (decide (i0 < J)) := fun h => by rw [h]
  let S : List Hd1 → Nat → St := fun hs i => ⟨some (.ifc 164 (.bx 0 0)) :: some (av (.int .i64 i0)) :: some (av (.int .i64 n)) :: none :: none :: none :: none :: some (av (.int .i64 i)) :: List.replicate 40 none, ⟨0, 0, some [.us 162 (hs.map encH)]⟩ :: List.replicate 48 absent⟩
  refine ALoop.mk (fun m s => ∃ (f i : Nat) (hs : List Hd1), m = f ∧ n ≤ i + f ∧ i ≤ n ∧ n ≤ hs.length ∧ hs.length ≤ 1099511627776 ∧ (∀ k, k < n → (hs.getD k hd0).1 ≠ []) ∧ downF hl hd0 f hs i n = R ∧ downJ hl hd0 f hs i n = J ∧ s = S hs i)
    ⟨n - i0, _, Weak.nrm [true, true, true, false, false, false, false, true] [(0, 0)] rfl rfl rfl, n - i0, i0, hs0, rfl, by omega, hi0, hnl, hll, hne, hR0, hJ00, rfl⟩ ?_
  clear hR0 hJ00 hne hll hnl hi0
  rintro m s ⟨f, i, hs, rfl, hf, hin, hnl, hll, hne, hR, hJ0, hs0⟩
  by_cases hn1 : n ≤ 2 * i + 1
  · have hF : hs = R := by rw [← hR]; cases m with
      | zero => rfl
      | succ f => rw [downF, if_pos hn1]
    have hJ : i = J := by rw [← hJ0]; cases m with
      | zero => rfl
      | succ f => rw [downJ, if_pos hn1]
    subst hs0
    refine Num.mk ((2 * i : Nat) : Int) (wrapI' (by omega) (by omega)) ?_
    refine Num.mk ((2 * i + 1 : Nat) : Int) (wrapI' (by omega) (by omega)) ?_
    refine Split.mk fun t ht => ?_
    cases t
    case false => rw [decide_eq_false_iff_not] at ht; omega
    refine Split.mk fun t ht => ?_
    refine Need.mk ⟨[], _, .same, fin ?_, congrArg (fun x : List Hd1 => [[C.us 162 (x.map encH)]]) hF⟩ trivial
    rw [← hJ, ← ht]
    exact decide_eq_decide.2 Int.ofNat_lt
  · have hex : ∃ g, m = g + 1 := ⟨m - 1, by omega⟩
    obtain ⟨g, hg⟩ := hex
    subst hg
    rw [downF, if_neg hn1] at hR
    rw [downJ, if_neg hn1] at hJ0
    have hi : i < hs.length := by omega
    have h1 : 2 * i + 1 < hs.length := by omega
    have m1 := hne (2 * i + 1) (by omega)
    have m0 := hne i (by omega)
    by_cases hc : 2 * i + 2 < n ∧ hl (hs.getD (2 * i + 2) hd0) (hs.getD (2 * i + 1) hd0) = true
    · skip
      have hb : best hl hd0 hs i n = 2 * i + 2 := by rw [best, if_pos hc]
      rw [hb] at hR hJ0
      have h2 : 2 * i + 2 < hs.length := by omega
      have m2 := hne (2 * i + 2) (by omega)
      have hL := heads_Less hs (2 * i + 2) (2 * i + 1) _ _ (getH h2) (getH h1) m2 m1
      rw [hc.2] at hL
      have hL2 := heads_Less hs (2 * i + 2) i _ _ (getH h2) (getH hi) m2 m0
      by_cases hq : hl (hs.getD (2 * i + 2) hd0) (hs.getD i hd0) = true
      · rw [hq] at hL2
        rw [if_pos hq] at hR hJ0
        have hS := heads_Swap hs i (2 * i + 2) hi (by omega)
        have hmem : ∀ k, k < n → ((swapL hd0 hs i (2 * i + 2)).getD k hd0).1 ≠ [] := fun k hk => by
          rw [swapL_get hi (by omega)]
          split
          · exact hne i (by omega)
          · split
            · exact hne _ (by omega)
            · exact hne k hk
        subst hs0
        refine Num.mk ((2 * i : Nat) : Int) (wrapI' (by omega) (by omega)) ?_
        refine Num.mk ((2 * i + 1 : Nat) : Int) (wrapI' (by omega) (by omega)) ?_
        refine Split.mk fun t ht => ?_
        cases t
        case true => rw [decide_eq_true_iff] at ht; omega
        refine Split.mk fun t ht => ?_
        cases t
        case true => rw [decide_eq_true_iff] at ht; omega
        refine Num.mk ((2 * i + 2 : Nat) : Int) (wrapI' (by omega) (by omega)) ?_
        refine Split.mk fun t ht => ?_
        cases t
        case false => rw [decide_eq_false_iff_not] at ht; omega
        refine Fz.mk _ (frzH hs) ?_
        refine ACall.mk _ _ hL ?_
        refine Need.mk ⟨closed_v, no_objs⟩ ?_
        refine Split.mk fun t h => ?_
        cases t
        case false => cases h
        refine Fz.mk _ (frzH hs) ?_
        refine ACall.mk _ _ hL2 ?_
        refine Need.mk ⟨closed_v, no_objs⟩ ?_
        refine Split.mk fun t h => ?_
        cases t
        case false => cases h
        refine ACall.mk _ _ hS ?_
        exact ⟨g, _, by omega, Weak.nrm [true, true, true, false, false, false, false, true] [(0, 0)] rfl rfl rfl, g, 2 * i + 2, swapL hd0 hs i (2 * i + 2), rfl, by omega, by omega, by rw [swapL_len]; exact hnl, by rw [swapL_len]; exact hll, hmem, hR, hJ0, rfl⟩
      · have hq : hl (hs.getD (2 * i + 2) hd0) (hs.getD i hd0) = false := by simpa using hq
        have hF : hs = R := by rw [← hR, if_neg (by rw [hq]; simp)]
        have hJ : i = J := by rw [← hJ0, if_neg (by rw [hq]; simp)]
        rw [hq] at hL2
        subst hs0
        refine Num.mk ((2 * i : Nat) : Int) (wrapI' (by omega) (by omega)) ?_
        refine Num.mk ((2 * i + 1 : Nat) : Int) (wrapI' (by omega) (by omega)) ?_
        refine Split.mk fun t ht => ?_
        cases t
        case true => rw [decide_eq_true_iff] at ht; omega
        refine Split.mk fun t ht => ?_
        cases t
        case true => rw [decide_eq_true_iff] at ht; omega
        refine Num.mk ((2 * i + 2 : Nat) : Int) (wrapI' (by omega) (by omega)) ?_
        refine Split.mk fun t ht => ?_
        cases t
        case false => rw [decide_eq_false_iff_not] at ht; omega
        refine Fz.mk _ (frzH hs) ?_
        refine ACall.mk _ _ hL ?_
        refine Need.mk ⟨closed_v, no_objs⟩ ?_
        refine Split.mk fun t h => ?_
        cases t
        case false => cases h
        refine Fz.mk _ (frzH hs) ?_
        refine ACall.mk _ _ hL2 ?_
        refine Need.mk ⟨closed_v, no_objs⟩ ?_
        refine Split.mk fun t h => ?_
        cases t
        case true => cases h
        refine Split.mk fun t ht => ?_
        refine Need.mk ⟨[], _, .same, fin ?_, congrArg (fun x : List Hd1 => [[C.us 162 (x.map encH)]]) hF⟩ trivial
        rw [← hJ, ← ht]
        exact decide_eq_decide.2 Int.ofNat_lt
    · by_cases hc2 : 2 * i + 2 < n
      · skip
        have hb : best hl hd0 hs i n = 2 * i + 1 := by rw [best, if_neg hc]
        rw [hb] at hR hJ0
        have h2 : 2 * i + 2 < hs.length := by omega
        have m2 := hne (2 * i + 2) (by omega)
        have hL := heads_Less hs (2 * i + 2) (2 * i + 1) _ _ (getH h2) (getH h1) m2 m1
        have hlf : hl (hs.getD (2 * i + 2) hd0) (hs.getD (2 * i + 1) hd0) = false := by
          cases hx : hl (hs.getD (2 * i + 2) hd0) (hs.getD (2 * i + 1) hd0) with
          | false => rfl
          | true => exact absurd ⟨hc2, hx⟩ hc
        rw [hlf] at hL
        have hL2 := heads_Less hs (2 * i + 1) i _ _ (getH h1) (getH hi) m1 m0
        by_cases hq : hl (hs.getD (2 * i + 1) hd0) (hs.getD i hd0) = true
        · rw [hq] at hL2
          rw [if_pos hq] at hR hJ0
          have hS := heads_Swap hs i (2 * i + 1) hi (by omega)
          have hmem : ∀ k, k < n → ((swapL hd0 hs i (2 * i + 1)).getD k hd0).1 ≠ [] := fun k hk => by
            rw [swapL_get hi (by omega)]
            split
            · exact hne i (by omega)
            · split
              · exact hne _ (by omega)
              · exact hne k hk
          subst hs0
          refine Num.mk ((2 * i : Nat) : Int) (wrapI' (by omega) (by omega)) ?_
          refine Num.mk ((2 * i + 1 : Nat) : Int) (wrapI' (by omega) (by omega)) ?_
          refine Split.mk fun t ht => ?_
          cases t
          case true => rw [decide_eq_true_iff] at ht; omega
          refine Split.mk fun t ht => ?_
          cases t
          case true => rw [decide_eq_true_iff] at ht; omega
          refine Num.mk ((2 * i + 2 : Nat) : Int) (wrapI' (by omega) (by omega)) ?_
          refine Split.mk fun t ht => ?_
          cases t
          case false => rw [decide_eq_false_iff_not] at ht; omega
          refine Fz.mk _ (frzH hs) ?_
          refine ACall.mk _ _ hL ?_
          refine Need.mk ⟨closed_v, no_objs⟩ ?_
          refine Split.mk fun t h => ?_
          cases t
          case true => cases h
          refine Fz.mk _ (frzH hs) ?_
          refine ACall.mk _ _ hL2 ?_
          refine Need.mk ⟨closed_v, no_objs⟩ ?_
          refine Split.mk fun t h => ?_
          cases t
          case false => cases h
          refine ACall.mk _ _ hS ?_
          exact ⟨g, _, by omega, Weak.nrm [true, true, true, false, false, false, false, true] [(0, 0)] rfl rfl rfl, g, 2 * i + 1, swapL hd0 hs i (2 * i + 1), rfl, by omega, by omega, by rw [swapL_len]; exact hnl, by rw [swapL_len]; exact hll, hmem, hR, hJ0, rfl⟩
        · have hq : hl (hs.getD (2 * i + 1) hd0) (hs.getD i hd0) = false := by simpa using hq
          have hF : hs = R := by rw [← hR, if_neg (by rw [hq]; simp)]
          have hJ : i = J := by rw [← hJ0, if_neg (by rw [hq]; simp)]
          rw [hq] at hL2
          subst hs0
          refine Num.mk ((2 * i : Nat) : Int) (wrapI' (by omega) (by omega)) ?_
          refine Num.mk ((2 * i + 1 : Nat) : Int) (wrapI' (by omega) (by omega)) ?_
          refine Split.mk fun t ht => ?_
          cases t
          case true => rw [decide_eq_true_iff] at ht; omega
          refine Split.mk fun t ht => ?_
          cases t
          case true => rw [decide_eq_true_iff] at ht; omega
          refine Num.mk ((2 * i + 2 : Nat) : Int) (wrapI' (by omega) (by omega)) ?_
          refine Split.mk fun t ht => ?_
          cases t
          case false => rw [decide_eq_false_iff_not] at ht; omega
          refine Fz.mk _ (frzH hs) ?_
          refine ACall.mk _ _ hL ?_
          refine Need.mk ⟨closed_v, no_objs⟩ ?_
          refine Split.mk fun t h => ?_
          cases t
          case true => cases h
          refine Fz.mk _ (frzH hs) ?_
          refine ACall.mk _ _ hL2 ?_
          refine Need.mk ⟨closed_v, no_objs⟩ ?_
          refine Split.mk fun t h => ?_
          cases t
          case true => cases h
          refine Split.mk fun t ht => ?_
          refine Need.mk ⟨[], _, .same, fin ?_, congrArg (fun x : List Hd1 => [[C.us 162 (x.map encH)]]) hF⟩ trivial
          rw [← hJ, ← ht]
          exact decide_eq_decide.2 Int.ofNat_lt
      · skip
        have hb : best hl hd0 hs i n = 2 * i + 1 := by rw [best, if_neg hc]
        rw [hb] at hR hJ0
        have hL2 := heads_Less hs (2 * i + 1) i _ _ (getH h1) (getH hi) m1 m0
        by_cases hq : hl (hs.getD (2 * i + 1) hd0) (hs.getD i hd0) = true
        · rw [hq] at hL2
          rw [if_pos hq] at hR hJ0
          have hS := heads_Swap hs i (2 * i + 1) hi (by omega)
          have hmem : ∀ k, k < n → ((swapL hd0 hs i (2 * i + 1)).getD k hd0).1 ≠ [] := fun k hk => by
            rw [swapL_get hi (by omega)]
            split
            · exact hne i (by omega)
            · split
              · exact hne _ (by omega)
              · exact hne k hk
          subst hs0
          refine Num.mk ((2 * i : Nat) : Int) (wrapI' (by omega) (by omega)) ?_
          refine Num.mk ((2 * i + 1 : Nat) : Int) (wrapI' (by omega) (by omega)) ?_
          refine Split.mk fun t ht => ?_
          cases t
          case true => rw [decide_eq_true_iff] at ht; omega
          refine Split.mk fun t ht => ?_
          cases t
          case true => rw [decide_eq_true_iff] at ht; omega
          refine Num.mk ((2 * i + 2 : Nat) : Int) (wrapI' (by omega) (by omega)) ?_
          refine Split.mk fun t ht => ?_
          cases t
          case true => rw [decide_eq_true_iff] at ht; omega
          refine Fz.mk _ (frzH hs) ?_
          refine ACall.mk _ _ hL2 ?_
          refine Need.mk ⟨closed_v, no_objs⟩ ?_
          refine Split.mk fun t h => ?_
          cases t
          case false => cases h
          refine ACall.mk _ _ hS ?_
          exact ⟨g, _, by omega, Weak.nrm [true, true, true, false, false, false, false, true] [(0, 0)] rfl rfl rfl, g, 2 * i + 1, swapL hd0 hs i (2 * i + 1), rfl, by omega, by omega, by rw [swapL_len]; exact hnl, by rw [swapL_len]; exact hll, hmem, hR, hJ0, rfl⟩
        · have hq : hl (hs.getD (2 * i + 1) hd0) (hs.getD i hd0) = false := by simpa using hq
          have hF : hs = R := by rw [← hR, if_neg (by rw [hq]; simp)]
          have hJ : i = J := by rw [← hJ0, if_neg (by rw [hq]; simp)]
          rw [hq] at hL2
          subst hs0
          refine Num.mk ((2 * i : Nat) : Int) (wrapI' (by omega) (by omega)) ?_
          refine Num.mk ((2 * i + 1 : Nat) : Int) (wrapI' (by omega) (by omega)) ?_
          refine Split.mk fun t ht => ?_
          cases t
          case true => rw [decide_eq_true_iff] at ht; omega
          refine Split.mk fun t ht => ?_
          cases t
          case true => rw [decide_eq_true_iff] at ht; omega
          refine Num.mk ((2 * i + 2 : Nat) : Int) (wrapI' (by omega) (by omega)) ?_
          refine Split.mk fun t ht => ?_
          cases t
          case true => rw [decide_eq_true_iff] at ht; omega
          refine Fz.mk _ (frzH hs) ?_
          refine ACall.mk _ _ hL2 ?_
          refine Need.mk ⟨closed_v, no_objs⟩ ?_
          refine Split.mk fun t h => ?_
          cases t
          case true => cases h
          refine Split.mk fun t ht => ?_
          refine Need.mk ⟨[], _, .same, fin ?_, congrArg (fun x : List Hd1 => [[C.us 162 (x.map encH)]]) hF⟩ trivial
          rw [← hJ, ← ht]
          exact decide_eq_decide.2 Int.ofNat_lt
def initF (n : Nat) : Nat → List Hd1 → List Hd1
  | 0, hs => hs
  | k + 1, hs => initF n k (downF hl hd0 (n - k) hs k n)
theorem initF_ok : ∀ (k n : Nat) (hs : List Hd1), n ≤ hs.length → k ≤ n → HP hl hd0 hs n k → HP hl hd0 (initF n k hs) n 0 ∧ (initF n k hs).Perm hs := by
  intro k
  induction k with
  | zero => intro n hs _ _ h; exact ⟨h, List.Perm.refl _⟩
  | succ k ih =>
    intro n hs hn hk h
    have h1 : HP hl hd0 (downF hl hd0 (n - k) hs k n) n k := down_ok hl_wk (n - k) hs k n k hn (by omega) (Nat.le_refl _)
      (fun c h0 hc hlo hp => h c h0 hc (by omega)) (fun h0 hlo => by unfold par at hlo; omega)
    obtain ⟨q1, q2⟩ := ih n (downF hl hd0 (n - k) hs k n) (by rw [down_len]; exact hn) (by omega) h1
    exact ⟨q1, q2.trans (down_perm _ _ _ _ hn)⟩
theorem heap_Init (hs0 : List Hd1) (hll : hs0.length ≤ 1099511627776) (hne : ∀ a ∈ hs0, a.1 ≠ []) :
    AFnK Tryz.prog 166 [.ifc 164 (.bx 0 0)] [[.us 162 (hs0.map encH)]] [0] (.tup []) [[.us 162 ((initF hs0.length (hs0.length / 2) hs0).map encH)]] := by
  refine AFnK.introX (E := En 1 md0) (en_ok 1 _) Tryz.func166 rfl rfl rfl fun _ _ => ?_
  have hLen := heads_Len hs0
  have hex : ∃ R, initF hs0.length (hs0.length / 2) hs0 = R := ⟨_, rfl⟩
  obtain ⟨R, hR0⟩ := hex
  rw [hR0]
  have hex : ∃ n, hs0.length = n := ⟨_, rfl⟩
  obtain ⟨n, hn⟩ := hex
  rw [hn] at hLen hR0 hll
  let S : List Hd1 → Int → St := fun hs i => ⟨some (.ifc 164 (.bx 0 0)) :: none :: some (av (.int .i64 n)) :: some (av (.int .i64 i)) :: List.replicate 13 none, ⟨0, 0, some [.us 162 (hs.map encH)]⟩ :: List.replicate 17 absent⟩
  refine Fz.mk _ (frzH hs0) ?_
  refine ACall.mk _ _ hLen ?_
  refine Need.mk ⟨closed_v, no_objs⟩ ?_
  refine Need.mk (by decide) ?_
  refine Num.mk ((n / 2 : Nat) : Int) (wrapI' (tdivN' n 2) (by omega)) ?_
  refine Num.mk (((n / 2 : Nat) : Int) - 1) (wrapI (by omega) (by omega)) ?_
  refine ALoop.mk (fun m s => ∃ (k : Nat) (hs : List Hd1), m = k ∧ k ≤ n ∧ hs.length = n ∧ (∀ a ∈ hs, a.1 ≠ []) ∧ initF n k hs = R ∧ s = S hs ((k : Int) - 1))
    ⟨n / 2, _, Weak.nrm [true, false, true, true] [(0, 0)] rfl rfl rfl, n / 2, hs0, rfl, by omega, hn, hne, hR0, rfl⟩ ?_
  clear hR0
  rintro m s ⟨k, hs, rfl, hk, hln, hne, hR, hs0⟩
  by_cases h0 : m = 0
  · subst h0
    have hF : hs = R := hR
    rw [hF] at hs0
    subst hs0
    refine Split.mk fun t ht => ?_
    cases t
    · exact Need.mk ⟨[], _, .same, rfl, rfl⟩ trivial
    · cases ht
  · have hex : ∃ g, m = g + 1 := ⟨m - 1, by omega⟩
    obtain ⟨g, hg⟩ := hex
    subst hg
    have hii : (((g + 1 : Nat) : Int) - 1) = (g : Int) := by omega
    rw [hii] at hs0
    have hD := heap_down hs g n (by omega) (by omega) (by omega) (fun k hk => hne _ (getH_mem (by omega)))
    have hne2 : ∀ a ∈ downF hl hd0 (n - g) hs g n, a.1 ≠ [] := fun a ha => hne a ((down_perm _ _ _ _ (by omega)).mem_iff.1 ha)
    have hR2 : initF n g (downF hl hd0 (n - g) hs g n) = R := hR
    subst hs0
    refine Split.mk fun t ht => ?_
    cases t
    case false => rw [decide_eq_false_iff_not] at ht; omega
    refine ACall.mk _ _ hD ?_
    refine Split.mk fun t _ => ?_
    refine Num.mk ((g : Int) - 1) (wrapI (by omega) (by omega)) ?_
    exact ⟨g, _, by omega, Weak.nrm [true, false, true, true] [(0, 0)] rfl rfl rfl, g, downF hl hd0 (n - g) hs g n, rfl, by omega, by rw [down_len]; exact hln, hne2, hR2, rfl⟩
theorem heap_up0 (hs : List Hd1) : AFnK Tryz.prog 201 [.ifc 164 (.bx 0 0), av (.int .i64 0)] [[.us 162 (hs.map encH)]] [0] (.tup []) [[.us 162 (hs.map encH)]] := by
  refine AFnK.introX (E := En 1 md0) (en_ok 1 _) Tryz.func201 rfl rfl rfl fun _ _ => ?_
  let S : St := ⟨some (.ifc 164 (.bx 0 0)) :: some (av (.int .i64 0)) :: List.replicate 21 none, ⟨0, 0, some [.us 162 (hs.map encH)]⟩ :: List.replicate 23 absent⟩
  refine ALoop.mk (fun m s => s = S) ⟨0, _, Weak.nrm [true, true] [(0, 0)] rfl rfl rfl, rfl⟩ ?_
  rintro m s hs0
  subst hs0
  refine Num.mk (-1) (wrapI (by decide) (by decide)) ?_
  refine Need.mk (by decide) ?_
  refine Num.mk 0 (wrapI (by decide) (by decide)) ?_
  refine Split.mk fun t ht => ?_
  cases t
  · cases ht
  · exact Need.mk ⟨[], _, .same, rfl, rfl⟩ trivial
theorem heap_Fix (hs : List Hd1) (n : Nat) (hn : n = hs.length) (hll : hs.length ≤ 1099511627776) (hne : ∀ a ∈ hs, a.1 ≠ []) :
    AFnK Tryz.prog 168 [.ifc 164 (.bx 0 0), av (.int .i64 0)] [[.us 162 (hs.map encH)]] [0] (.tup []) [[.us 162 ((downF hl hd0 n hs 0 n).map encH)]] := by
  refine AFnK.introX (E := En 1 md0) (en_ok 1 _) Tryz.func168 rfl rfl rfl fun _ _ => ?_
  have hLen := heads_Len hs
  rw [← hn] at hLen
  have hD := heap_down hs 0 n (by omega) hll (by omega) (fun k hk => hne _ (getH_mem (by omega)))
  rw [Nat.sub_zero] at hD
  have hU := heap_up0 (downF hl hd0 n hs 0 n)
  refine Fz.mk _ (frzH hs) ?_
  refine ACall.mk _ _ hLen ?_
  refine Need.mk ⟨closed_v, no_objs⟩ ?_
  refine ACall.mk _ _ hD ?_
  refine Split.mk fun t _ => ?_
  cases t
  · refine ACall.mk _ _ hU ?_
    exact Need.mk ⟨[], _, .same, rfl, rfl⟩ trivial
  · exact Need.mk ⟨[], _, .same, rfl, rfl⟩ trivial
theorem heap_Pop (hs : List Hd1) (h0 : 0 < hs.length) (hll : hs.length ≤ 1099511627776) (hne : ∀ k, 0 < k → k < hs.length → (hs.getD k hd0).1 ≠ []) :
    AFnK Tryz.prog 167 [.ifc 164 (.bx 0 0)] [[.us 162 (hs.map encH)]] [0] (.one .x) [[.us 162 ((popF hs).map encH)]] := by
  refine AFnK.introX (E := En 1 (md1 [245])) (en_ok 1 _) Tryz.func167 rfl rfl rfl fun _ _ => ?_
  have hLen := heads_Len hs
  have hex : ∃ n, hs.length - 1 = n := ⟨_, rfl⟩
  obtain ⟨n, hn⟩ := hex
  have hS := heads_Swap hs 0 n h0 (by omega)
  have hD := heap_down (swapL hd0 hs 0 n) 0 n (by rw [swapL_len]; omega) (by rw [swapL_len]; exact hll) (by omega) (fun k hk => by
    rw [swapL_get (by omega) (by omega), if_neg (by omega)]
    split
    · exact hne _ (by omega) (by omega)
    · exact hne k (by omega) (by omega))
  rw [Nat.sub_zero] at hD
  have hP := heads_Pop (downF hl hd0 n (swapL hd0 hs 0 n) 0 n) (by rw [down_len, swapL_len]; exact h0) (by rw [down_len, swapL_len]; exact hll)
  rw [down_len, swapL_len, hn] at hP
  have hF : popF hs = (downF hl hd0 n (swapL hd0 hs 0 n) 0 n).take n := by rw [popF, hn]
  rw [hF]
  refine Fz.mk _ (frzH hs) ?_
  refine ACall.mk _ _ hLen ?_
  refine Need.mk ⟨closed_v, no_objs⟩ ?_
  refine Num.mk ((n : Nat) : Int) (wrapI' (by omega) (by omega)) ?_
  refine ACall.mk _ _ hS ?_
  refine ACall.mk _ _ hD ?_
  refine Split.mk fun t _ => ?_
  refine ACall.mk _ _ hP ?_
  exact Need.mk ⟨[], _, .same, rfl, rfl⟩ trivial
end Go.Proofs.YtcnongahanmclaaGreat

namespace Go.Proofs.YtcnongahanmclaaGreat
open Go Go.Proofs Ev
set_option maxRecDepth 100000
set_option linter.unusedSimpArgs false
set_option linter.unusedVariables false
set_option maxHeartbeats 1000000
theorem closed_us (e : TypeId) (xs : List Ent) : ∀ c : C, c ∈ [C.us e (xs.map Ent.enc)] → Closed c := fun c hc => by
  rw [List.mem_singleton] at hc; subst hc; exact closedE e xs
theorem spec_l4Sort (xs : List Ent) (hx : xs.length ≤ 1048576) : AFn Tryz.prog 215 [sl (xs.map Ent.enc)] [] (.one (.us 54 ((isort eLess xs).map Ent.enc))) [] := by
  refine AFn.introX (E := En 0 md0) (en_ok 0 _) Tryz.func215 rfl rfl rfl fun _ _ => ?_
  have hn : (xs.map Ent.enc).length = xs.length := List.length_map ..
  let S : Nat → List Ent → Nat → St := fun kd ys i => ⟨some (sl (xs.map Ent.enc)) :: none :: none :: some (.one (.ref 3 0 (.cell 0))) :: some (av (.int .i64 i)) :: List.replicate 14 none, absent :: absent :: absent :: ⟨0, kd, some [.us 54 (ys.map Ent.enc)]⟩ :: List.replicate 15 absent⟩
  refine ALoop.mk (fun m s => ∃ i kd : Nat, i ≤ xs.length ∧ m = xs.length - i ∧ (kd = 1 ∨ kd = 2) ∧ s = S kd (isort eLess (xs.take i)) i)
    ⟨xs.length, _, Weak.nrm [true, false, false, true, true] [(5, 3)] rfl rfl rfl, 0, 2, Nat.zero_le _, rfl, .inr rfl, rfl⟩ ?_
  rintro m s ⟨i, kd, hi, rfl, hkd, hs⟩
  by_cases hin : i = xs.length
  · subst hin
    rw [List.take_length] at hs
    subst hs
    refine Split.mk fun t ht => ?_
    rw [hn] at ht
    cases t
    · exact Need.mk ⟨[], _, .same, rfl, rfl⟩ trivial
    · simp at ht
  · have hia : i < xs.length := by omega
    have he : isort eLess (xs.take (i + 1)) = ins eLess (isort eLess (xs.take i)) xs[i] := by
      rw [List.take_succ_eq_append_getElem hia, isort_snoc]
    have hlen : (isort eLess (xs.take i)).length ≤ 1048576 := by rw [isort_len, List.length_take]; omega
    have hex : ∃ ys, isort eLess (xs.take i) = ys := ⟨_, rfl⟩
    obtain ⟨ys, hy⟩ := hex
    rw [hy] at he hlen hs
    rcases hkd with rfl | rfl
    all_goals
      subst hs
      refine Split.mk fun t ht => ?_
      rw [hn] at ht
      cases t
      · simp at ht; omega
      refine Need.mk (by omega) ?_
      refine Row.mk _ (map_get _ xs i hia) ?_
      refine Fz.mk _ (frzE ys) ?_
      refine ACall.mk _ _ (spec_l4Put ys xs[i] hlen) ?_
      refine Need.mk ⟨closed_us _ _, no_objs⟩ ?_
      refine Num.mk _ (wrapS (by omega)) ?_
      refine ⟨xs.length - (i + 1), _, by omega, Weak.nrm [true, false, false, true, true] [(17, 3)] rfl rfl rfl, i + 1, 1, by omega, rfl, .inl rfl, ?_⟩
      exact congrArg (fun l => S 1 l (i + 1)) he.symm
end Go.Proofs.YtcnongahanmclaaGreat
