/-
  Contracts of functions, part 5.
-/
import Derived.Test.YtlmdheeammfihaaTFnExactTreeSnapD
namespace Go.Proofs.Ytlmdheeammfihaa
open Go Go.Proofs Ev
set_option maxRecDepth 100000
set_option linter.unusedSimpArgs false
set_option linter.unusedVariables false
set_option maxHeartbeats 8000000
theorem laws_FnExactTreeSnap (a : Tre) (ha : a.Ok) : AFn Try.prog 14 [.agg (a.enc.map .c)] [] (rb true) [] := by
  have hSz := laws_szTree a 1048576 ha (Nat.le_refl _)
  by_cases hsz1 : a.size ≤ 1048576
  · rw [cut_pos hsz1] at hSz
    have sa : a.Small := Tre.small hsz1
    have hT := laws_toTree a sa
    have hS := spec_TreeSnap a ha sa
    have hI := impl_TreeSnap a ha sa
    have hE := laws_eqTree a a
    rw [decide_eq_true rfl] at hE
    have hpx : posT 1 (treeDo a snapD).1 ≤ 6000000 := pos_TreeSnap a hsz1
    have hpa : posT 1 a ≤ 6000000 := posT_sz hsz1
    have hex : ∃ x, treeDo a snapD = x := ⟨_, rfl⟩
    obtain ⟨⟨x, ok⟩, hx⟩ := hex
    rw [hx] at hS hI hpx
    have hE2 := laws_eqTree x x
    rw [decide_eq_true rfl] at hE2
    have hM := laws_markTree a 1 (Nat.le_trans hpa (by decide))
    have hM2 := laws_markTree x 1 (Nat.le_trans hpx (by decide))
    have hH := laws_heldTree x 1 (Nat.le_trans hpx (by decide))
    have hex : ∃ p, posT 1 a = p := ⟨_, rfl⟩
    obtain ⟨p, hp⟩ := hex
    rw [hp] at hM hpa
    have hex : ∃ p2, posT 1 x = p2 := ⟨_, rfl⟩
    obtain ⟨p2, hp2⟩ := hex
    rw [hp2] at hM2 hpx hH
    have hex : ∃ a2, mkT 1 a = a2 := ⟨_, rfl⟩
    obtain ⟨a2, ha2⟩ := hex
    rw [ha2] at hM
    have hex : ∃ x2, mkT 1 x = x2 := ⟨_, rfl⟩
    obtain ⟨x2, hx2⟩ := hex
    rw [hx2] at hM2 hH
    have hsq : x2.seq = x.seq := by rw [← hx2]; rfl
    have hH2 : AFn Try.prog 49 [.agg [.c (vi x.seq), .c (.sl (x2.mem.map Ent.enc)), .c (.sl (x2.levels.map encL)), .c (.sl (x2.snaps.map encI))], av (.int .i64 (1 : Nat))] [] (.one (vi (p2 : Nat))) [] := by rw [← hsq]; exact hH
    cases ok with
    | false =>
      refine AFn.introX (E := En 0 (mdv [41] [])) (en_ok 0 _) Try.func14 rfl rfl rfl fun _ _ => ?_
      refine ACall.mk _ _ hSz ?_
      refine Split.mk fun t h1 => ?_
      cases t
      case true => cases h1
      refine ACall.mk _ _ hT ?_
      refine Fz.mk _ (frzE _) ?_
      refine Fz.mk _ (frzRR _) ?_
      refine Fz.mk _ (frzI _) ?_
      refine ACall.mk _ _ hS ?_
      refine Need.mk (⟨ClL.mem (.v (.us (clE _) (.us (clLO _) (.us (clI _) (.v .nil))))), no_objs⟩) ?_
      refine Split.mk fun t h2 => ?_
      cases t
      case true => cases h2
      refine ACall.mk _ _ hT ?_
      refine Fz.mk _ (frzE _) ?_
      refine Fz.mk _ (frzRR _) ?_
      refine Fz.mk _ (frzI _) ?_
      refine ACall.mk _ _ hI ?_
      refine Need.mk (⟨ClL.mem (.v (.us (clE _) (.us (clLO _) (.us (clI _) (.v .nil))))), no_objs⟩) ?_
      refine Split.mk fun t h3 => ?_
      cases t
      case true => cases h3
      refine Fz.mk _ (frzE _) ?_
      refine Fz.mk _ (frzRR _) ?_
      refine Fz.mk _ (frzI _) ?_
      refine Fz.mk _ (frzE _) ?_
      refine Fz.mk _ (frzRR _) ?_
      refine Fz.mk _ (frzI _) ?_
      refine ACall.mk _ _ hE2 ?_
      refine Need.mk (⟨ClL.mem (.v .nil), no_objs⟩) ?_
      refine Split.mk fun t h4 => ?_
      cases t
      case false => cases h4
      refine Split.mk fun t h5 => ?_
      cases t
      case true => cases h5
      refine ACall.mk _ _ hT ?_
      refine Fz.mk _ (frzE _) ?_
      refine Fz.mk _ (frzRR _) ?_
      refine Fz.mk _ (frzI _) ?_
      refine Fz.mk _ (frzE _) ?_
      refine Fz.mk _ (frzRR _) ?_
      refine Fz.mk _ (frzI _) ?_
      refine ACall.mk _ _ hE ?_
      refine Need.mk (⟨ClL.mem (.v .nil), no_objs⟩) ?_
      refine Split.mk fun t h6 => ?_
      cases t
      case false => cases h6
      refine Need.mk (rfl) ?_
      refine ACall.mk _ _ hM ?_
      refine Split.mk fun t h7 => ?_
      cases t
      case true => cases h7
      refine Fz.mk _ (frzE _) ?_
      refine Fz.mk _ (frzRR _) ?_
      refine Fz.mk _ (frzI _) ?_
      refine Fz.mk _ (frzE _) ?_
      refine Fz.mk _ (frzRR _) ?_
      refine Fz.mk _ (frzI _) ?_
      refine ACall.mk _ _ hE2 ?_
      refine Need.mk (⟨ClL.mem (.v .nil), no_objs⟩) ?_
      refine Split.mk fun t h8 => ?_
      cases t
      case false => cases h8
      refine Split.mk fun t h9 => ?_
      cases t
      case true => cases h9
      refine ACall.mk _ _ hM2 ?_
      refine Fz.mk _ (frzE _) ?_
      refine Fz.mk _ (frzRR _) ?_
      refine Fz.mk _ (frzI _) ?_
      refine ACall.mk _ _ hH2 ?_
      refine Need.mk (⟨ClL.mem (.v .nil), no_objs⟩) ?_
      refine Split.mk fun t h10 => ?_
      cases t
      case true => cases h10
      refine Split.mk fun t h11 => ?_
      cases t
      case true => (exfalso; rw [bne_iff_ne] at h11; omega)
      rw [bne_eq_false_iff_eq] at h11
      refine ACall.mk _ _ hT ?_
      refine Fz.mk _ (frzE _) ?_
      refine Fz.mk _ (frzRR _) ?_
      refine Fz.mk _ (frzI _) ?_
      refine ACall.mk _ _ hI ?_
      refine Need.mk (⟨ClL.mem (.v (.us (clE _) (.us (clLO _) (.us (clI _) (.v .nil))))), no_objs⟩) ?_
      refine Split.mk fun t h12 => ?_
      cases t
      case true => cases h12
      refine Fz.mk _ (frzE _) ?_
      refine Fz.mk _ (frzRR _) ?_
      refine Fz.mk _ (frzI _) ?_
      refine Fz.mk _ (frzE _) ?_
      refine Fz.mk _ (frzRR _) ?_
      refine Fz.mk _ (frzI _) ?_
      refine ACall.mk _ _ hE2 ?_
      refine Need.mk (⟨ClL.mem (.v .nil), no_objs⟩) ?_
      refine Split.mk fun t h13 => ?_
      cases t
      case false => cases h13
      refine Split.mk fun t h14 => ?_
      cases t
      case true => cases h14
      refine Fz.mk _ (frzE _) ?_
      refine Fz.mk _ (frzRR _) ?_
      refine Fz.mk _ (frzI _) ?_
      refine ACall.mk _ _ hH2 ?_
      refine Need.mk (⟨ClL.mem (.v .nil), no_objs⟩) ?_
      refine Split.mk fun t h15 => ?_
      cases t
      case true => cases h15
      refine Split.mk fun t h16 => ?_
      cases t
      case true => (exfalso; rw [bne_iff_ne] at h16; omega)
      rw [bne_eq_false_iff_eq] at h16
      exact Need.mk ⟨[], _, .same, rfl, rfl⟩ trivial
    | true =>
      refine AFn.introX (E := En 0 (mdv [41] [])) (en_ok 0 _) Try.func14 rfl rfl rfl fun _ _ => ?_
      refine ACall.mk _ _ hSz ?_
      refine Split.mk fun t h1 => ?_
      cases t
      case true => cases h1
      refine ACall.mk _ _ hT ?_
      refine Fz.mk _ (frzE _) ?_
      refine Fz.mk _ (frzRR _) ?_
      refine Fz.mk _ (frzI _) ?_
      refine ACall.mk _ _ hS ?_
      refine Need.mk (⟨ClL.mem (.v (.us (clE _) (.us (clLO _) (.us (clI _) (.v .nil))))), no_objs⟩) ?_
      refine Split.mk fun t h2 => ?_
      cases t
      case false => cases h2
      refine ACall.mk _ _ hT ?_
      refine Fz.mk _ (frzE _) ?_
      refine Fz.mk _ (frzRR _) ?_
      refine Fz.mk _ (frzI _) ?_
      refine ACall.mk _ _ hI ?_
      refine Need.mk (⟨ClL.mem (.v (.us (clE _) (.us (clLO _) (.us (clI _) (.v .nil))))), no_objs⟩) ?_
      refine Split.mk fun t h3 => ?_
      cases t
      case false => cases h3
      refine Fz.mk _ (frzE _) ?_
      refine Fz.mk _ (frzRR _) ?_
      refine Fz.mk _ (frzI _) ?_
      refine Fz.mk _ (frzE _) ?_
      refine Fz.mk _ (frzRR _) ?_
      refine Fz.mk _ (frzI _) ?_
      refine ACall.mk _ _ hE2 ?_
      refine Need.mk (⟨ClL.mem (.v .nil), no_objs⟩) ?_
      refine Split.mk fun t h4 => ?_
      cases t
      case false => cases h4
      refine Split.mk fun t h5 => ?_
      cases t
      case true => cases h5
      refine ACall.mk _ _ hT ?_
      refine Fz.mk _ (frzE _) ?_
      refine Fz.mk _ (frzRR _) ?_
      refine Fz.mk _ (frzI _) ?_
      refine Fz.mk _ (frzE _) ?_
      refine Fz.mk _ (frzRR _) ?_
      refine Fz.mk _ (frzI _) ?_
      refine ACall.mk _ _ hE ?_
      refine Need.mk (⟨ClL.mem (.v .nil), no_objs⟩) ?_
      refine Split.mk fun t h6 => ?_
      cases t
      case false => cases h6
      refine Need.mk (rfl) ?_
      refine ACall.mk _ _ hM ?_
      refine Split.mk fun t h7 => ?_
      cases t
      case true => cases h7
      refine Fz.mk _ (frzE _) ?_
      refine Fz.mk _ (frzRR _) ?_
      refine Fz.mk _ (frzI _) ?_
      refine Fz.mk _ (frzE _) ?_
      refine Fz.mk _ (frzRR _) ?_
      refine Fz.mk _ (frzI _) ?_
      refine ACall.mk _ _ hE2 ?_
      refine Need.mk (⟨ClL.mem (.v .nil), no_objs⟩) ?_
      refine Split.mk fun t h8 => ?_
      cases t
      case false => cases h8
      refine Split.mk fun t h9 => ?_
      cases t
      case true => cases h9
      refine ACall.mk _ _ hM2 ?_
      refine Fz.mk _ (frzE _) ?_
      refine Fz.mk _ (frzRR _) ?_
      refine Fz.mk _ (frzI _) ?_
      refine ACall.mk _ _ hH2 ?_
      refine Need.mk (⟨ClL.mem (.v .nil), no_objs⟩) ?_
      refine Split.mk fun t h10 => ?_
      cases t
      case true => cases h10
      refine Split.mk fun t h11 => ?_
      cases t
      case true => (exfalso; rw [bne_iff_ne] at h11; omega)
      rw [bne_eq_false_iff_eq] at h11
      refine ACall.mk _ _ hT ?_
      refine Fz.mk _ (frzE _) ?_
      refine Fz.mk _ (frzRR _) ?_
      refine Fz.mk _ (frzI _) ?_
      refine ACall.mk _ _ hI ?_
      refine Need.mk (⟨ClL.mem (.v (.us (clE _) (.us (clLO _) (.us (clI _) (.v .nil))))), no_objs⟩) ?_
      refine Split.mk fun t h12 => ?_
      cases t
      case false => cases h12
      refine Fz.mk _ (frzE _) ?_
      refine Fz.mk _ (frzRR _) ?_
      refine Fz.mk _ (frzI _) ?_
      refine Fz.mk _ (frzE _) ?_
      refine Fz.mk _ (frzRR _) ?_
      refine Fz.mk _ (frzI _) ?_
      refine ACall.mk _ _ hE2 ?_
      refine Need.mk (⟨ClL.mem (.v .nil), no_objs⟩) ?_
      refine Split.mk fun t h13 => ?_
      cases t
      case false => cases h13
      refine Split.mk fun t h14 => ?_
      cases t
      case true => cases h14
      refine Fz.mk _ (frzE _) ?_
      refine Fz.mk _ (frzRR _) ?_
      refine Fz.mk _ (frzI _) ?_
      refine ACall.mk _ _ hH2 ?_
      refine Need.mk (⟨ClL.mem (.v .nil), no_objs⟩) ?_
      refine Split.mk fun t h15 => ?_
      cases t
      case true => cases h15
      refine Split.mk fun t h16 => ?_
      cases t
      case true => (exfalso; rw [bne_iff_ne] at h16; omega)
      rw [bne_eq_false_iff_eq] at h16
      exact Need.mk ⟨[], _, .same, rfl, rfl⟩ trivial
  · rw [cut_neg hsz1] at hSz
    refine AFn.introX (E := En 0 (mdv [41] [])) (en_ok 0 _) Try.func14 rfl rfl rfl fun _ _ => ?_
    refine ACall.mk _ _ hSz ?_
    refine Split.mk fun t h1 => ?_
    cases t
    case false => cases h1
    exact Need.mk ⟨[], _, .same, rfl, rfl⟩ trivial
theorem laws_FnExactTreeSnap_any (r0 : List C) (h0 : ShL tyTre r0) : AFn Try.prog 14 [.agg (r0.map .c)] [] (rb true) [] := by
  obtain ⟨a, rfl, wa⟩ := dec_tre h0
  exact laws_FnExactTreeSnap a wa.ok
end Go.Proofs.Ytlmdheeammfihaa
