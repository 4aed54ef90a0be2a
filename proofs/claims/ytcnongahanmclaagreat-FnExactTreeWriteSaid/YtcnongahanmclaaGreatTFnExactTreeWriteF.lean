/-
  Contracts of functions, part 6.
-/
import Derived.Test.YtcnongahanmclaaGreatTFnExactTreeWriteE
namespace Go.Proofs.YtcnongahanmclaaGreat
open Go Go.Proofs Ev
set_option maxRecDepth 100000
set_option linter.unusedSimpArgs false
set_option linter.unusedVariables false
set_option maxHeartbeats 8000000
theorem pos_TreeWrite (t : Tre) (batch : List Ent) (h : t.size ≤ 1048576) : posT 1 (treeDo t (writeD batch)).1 ≤ 6000000 := posT_do h fun _ => by
  unfold writeD
  split
  · rename_i hb
    have h1 := posL_sz t.levels (1 + 5 * (isort eLess (t.mem ++ stampT t.seq 0 batch)).length)
    have hz : t.size = sizeE t.mem + sizeRR t.levels + t.snaps.length := rfl
    have hl : (isort eLess (t.mem ++ stampT t.seq 0 batch)).length ≤ 60 := by rw [isort_len, List.length_append, stampT_len]; exact hb.2
    unfold posT
    show posL (1 + 5 * (isort eLess (t.mem ++ stampT t.seq 0 batch)).length) t.levels + _ ≤ _
    have h3 : (({ t with mem := isort eLess (t.mem ++ stampT t.seq 0 batch), seq := t.seq + batch.length } : Tre)).snaps = t.snaps := rfl
    rw [h3]
    omega
  · exact posT_sz h
theorem laws_FnExactTreeWrite (a : Tre) (xs : List Ent) (ha : a.Ok) (hx : OkE xs) : AFn Tryz.prog 3 [.agg (a.enc.map .c), sl (xs.map Ent.enc)] [] (rb true) [] := by
  have hSz := laws_szTree a 1048576 ha (Nat.le_refl _)
  by_cases hsz1 : a.size ≤ 1048576
  · rw [cut_pos hsz1] at hSz
    have hSz2 := laws_szEntryS xs (1048576 - a.size) hx (by omega)
    by_cases hsz2 : sizeE xs ≤ 1048576 - a.size
    · rw [cut_pos hsz2] at hSz2
      have hxl : xs.length ≤ 1048576 := by unfold sizeE at hsz2; omega
      have sa : a.Small := Tre.small hsz1
      have hT := laws_toTree a sa
      have hT2 := laws_toEntryS xs hxl
      have hS := spec_TreeWrite a xs ha sa hx hxl
      have hI := impl_TreeWrite a xs ha sa hx hxl
      have hE := laws_eqTree a a
      rw [decide_eq_true rfl] at hE
      have hEx := laws_eqEntryS xs xs
      rw [decide_eq_true rfl] at hEx
      have hpx : posT 1 (treeDo a (writeD xs)).1 ≤ 6000000 := pos_TreeWrite a xs hsz1
      have hpa : posT 1 a ≤ 6000000 := posT_sz hsz1
      have hex : ∃ x, treeDo a (writeD xs) = x := ⟨_, rfl⟩
      obtain ⟨⟨x, ok⟩, hx⟩ := hex
      rw [hx] at hS hI hpx
      have hE2 := laws_eqTree x x
      rw [decide_eq_true rfl] at hE2
      have hM := laws_markTree a 1 (Nat.le_trans hpa (by decide))
      have hM2 := laws_markTree x 1 (Nat.le_trans hpx (by decide))
      have hH := laws_heldTree x 1 (Nat.le_trans hpx (by decide))
      have hex : ∃ p, posT 1 a = p := ⟨_, rfl⟩
      obtain ⟨p, hp⟩ := hex
      rw [hp] at hM hpa
      have hMx := laws_markEntryS xs p (by omega)
      have hex : ∃ p2, posT 1 x = p2 := ⟨_, rfl⟩
      obtain ⟨p2, hp2⟩ := hex
      rw [hp2] at hM2 hpx hH
      have hex : ∃ a2, mkT 1 a = a2 := ⟨_, rfl⟩
      obtain ⟨a2, ha2⟩ := hex
      rw [ha2] at hM
      have hex : ∃ x2, mkT 1 x = x2 := ⟨_, rfl⟩
      obtain ⟨x2, hx2⟩ := hex
      rw [hx2] at hM2 hH
      have hsq : x2.seq = x.seq := by rw [← hx2]; rfl
      have hH2 : AFn Tryz.prog 25 [.agg [.c (vi x.seq), .c (.sl (x2.mem.map Ent.enc)), .c (.sl (x2.levels.map encL)), .c (.sl (x2.snaps.map encI))], av (.int .i64 (1 : Nat))] [] (.one (vi (p2 : Nat))) [] := by rw [← hsq]; exact hH
      cases ok with
      | false =>
        refine AFn.introX (E := En 0 (mdv [23, 24] [17])) (en_ok 0 _) Tryz.func3 rfl rfl rfl fun _ _ => ?_
        refine ACall.mk _ _ hSz ?_
        refine Split.mk fun t h1 => ?_
        cases t
        case true => cases h1
        refine ACall.mk _ _ hSz2 ?_
        refine Split.mk fun t h2 => ?_
        cases t
        case true => cases h2
        refine ACall.mk _ _ hT ?_
        refine ACall.mk _ _ hT2 ?_
        refine Fz.mk _ (frzE _) ?_
        refine Fz.mk _ (frzRR _) ?_
        refine Fz.mk _ (frzI _) ?_
        refine Fz.mk _ (frzE _) ?_
        refine ACall.mk _ _ hS ?_
        refine Split.mk fun t h3 => ?_
        cases t
        case true => cases h3
        refine ACall.mk _ _ hT ?_
        refine ACall.mk _ _ hT2 ?_
        refine Fz.mk _ (frzE _) ?_
        refine Fz.mk _ (frzRR _) ?_
        refine Fz.mk _ (frzI _) ?_
        refine Fz.mk _ (frzE _) ?_
        refine ACall.mk _ _ hI ?_
        refine Need.mk (⟨ClL.mem (.v (.us (clE _) (.us (clLO _) (.us (clI _) (.v .nil))))), no_objs⟩) ?_
        refine Split.mk fun t h4 => ?_
        cases t
        case true => cases h4
        refine Fz.mk _ (frzE _) ?_
        refine Fz.mk _ (frzRR _) ?_
        refine Fz.mk _ (frzI _) ?_
        refine ACall.mk _ _ hE2 ?_
        refine Need.mk (⟨ClL.mem (.v .nil), no_objs⟩) ?_
        refine Split.mk fun t h5 => ?_
        cases t
        case false => cases h5
        refine Split.mk fun t h6 => ?_
        cases t
        case true => cases h6
        refine ACall.mk _ _ hT ?_
        refine Fz.mk _ (frzE _) ?_
        refine Fz.mk _ (frzRR _) ?_
        refine Fz.mk _ (frzI _) ?_
        refine Fz.mk _ (frzE _) ?_
        refine Fz.mk _ (frzRR _) ?_
        refine Fz.mk _ (frzI _) ?_
        refine ACall.mk _ _ hE ?_
        refine Need.mk (⟨ClL.mem (.v .nil), no_objs⟩) ?_
        refine Split.mk fun t h7 => ?_
        cases t
        case false => cases h7
        refine Need.mk (rfl) ?_
        refine ACall.mk _ _ hT2 ?_
        refine Fz.mk _ (frzE _) ?_
        refine Fz.mk _ (frzE _) ?_
        refine ACall.mk _ _ hEx ?_
        refine Need.mk (⟨ClL.mem (.v .nil), no_objs⟩) ?_
        refine Split.mk fun t h8 => ?_
        cases t
        case false => cases h8
        refine ACall.mk _ _ hM ?_
        refine ACall.mk _ _ hMx ?_
        refine Split.mk fun t h9 => ?_
        cases t
        case true => cases h9
        refine Fz.mk _ (frzE _) ?_
        refine Fz.mk _ (frzRR _) ?_
        refine Fz.mk _ (frzI _) ?_
        refine ACall.mk _ _ hE2 ?_
        refine Need.mk (⟨ClL.mem (.v .nil), no_objs⟩) ?_
        refine Split.mk fun t h10 => ?_
        cases t
        case false => cases h10
        refine Split.mk fun t h11 => ?_
        cases t
        case true => cases h11
        refine ACall.mk _ _ hM2 ?_
        refine Fz.mk _ (frzE _) ?_
        refine Fz.mk _ (frzRR _) ?_
        refine Fz.mk _ (frzI _) ?_
        refine ACall.mk _ _ hH2 ?_
        refine Need.mk (⟨ClL.mem (.v .nil), no_objs⟩) ?_
        refine Split.mk fun t h12 => ?_
        cases t
        case true => cases h12
        refine Split.mk fun t h13 => ?_
        cases t
        case true => (exfalso; rw [bne_iff_ne] at h13; omega)
        rw [bne_eq_false_iff_eq] at h13
        refine ACall.mk _ _ hT ?_
        refine ACall.mk _ _ hT2 ?_
        refine Fz.mk _ (frzE _) ?_
        refine Fz.mk _ (frzRR _) ?_
        refine Fz.mk _ (frzI _) ?_
        refine Fz.mk _ (frzE _) ?_
        refine ACall.mk _ _ hI ?_
        refine Need.mk (⟨ClL.mem (.v (.us (clE _) (.us (clLO _) (.us (clI _) (.v .nil))))), no_objs⟩) ?_
        refine Split.mk fun t h14 => ?_
        cases t
        case true => cases h14
        refine Fz.mk _ (frzE _) ?_
        refine Fz.mk _ (frzRR _) ?_
        refine Fz.mk _ (frzI _) ?_
        refine ACall.mk _ _ hE2 ?_
        refine Need.mk (⟨ClL.mem (.v .nil), no_objs⟩) ?_
        refine Split.mk fun t h15 => ?_
        cases t
        case false => cases h15
        refine Split.mk fun t h16 => ?_
        cases t
        case true => cases h16
        refine Fz.mk _ (frzE _) ?_
        refine Fz.mk _ (frzRR _) ?_
        refine Fz.mk _ (frzI _) ?_
        refine ACall.mk _ _ hH2 ?_
        refine Need.mk (⟨ClL.mem (.v .nil), no_objs⟩) ?_
        refine Split.mk fun t h17 => ?_
        cases t
        case true => cases h17
        refine Split.mk fun t h18 => ?_
        cases t
        case true => (exfalso; rw [bne_iff_ne] at h18; omega)
        rw [bne_eq_false_iff_eq] at h18
        exact Need.mk ⟨[], _, .same, rfl, rfl⟩ trivial
      | true =>
        refine AFn.introX (E := En 0 (mdv [23, 24] [17])) (en_ok 0 _) Tryz.func3 rfl rfl rfl fun _ _ => ?_
        refine ACall.mk _ _ hSz ?_
        refine Split.mk fun t h1 => ?_
        cases t
        case true => cases h1
        refine ACall.mk _ _ hSz2 ?_
        refine Split.mk fun t h2 => ?_
        cases t
        case true => cases h2
        refine ACall.mk _ _ hT ?_
        refine ACall.mk _ _ hT2 ?_
        refine Fz.mk _ (frzE _) ?_
        refine Fz.mk _ (frzRR _) ?_
        refine Fz.mk _ (frzI _) ?_
        refine Fz.mk _ (frzE _) ?_
        refine ACall.mk _ _ hS ?_
        refine Split.mk fun t h3 => ?_
        cases t
        case false => cases h3
        refine ACall.mk _ _ hT ?_
        refine ACall.mk _ _ hT2 ?_
        refine Fz.mk _ (frzE _) ?_
        refine Fz.mk _ (frzRR _) ?_
        refine Fz.mk _ (frzI _) ?_
        refine Fz.mk _ (frzE _) ?_
        refine ACall.mk _ _ hI ?_
        refine Need.mk (⟨ClL.mem (.v (.us (clE _) (.us (clLO _) (.us (clI _) (.v .nil))))), no_objs⟩) ?_
        refine Split.mk fun t h4 => ?_
        cases t
        case false => cases h4
        refine Fz.mk _ (frzE _) ?_
        refine Fz.mk _ (frzRR _) ?_
        refine Fz.mk _ (frzI _) ?_
        refine ACall.mk _ _ hE2 ?_
        refine Need.mk (⟨ClL.mem (.v .nil), no_objs⟩) ?_
        refine Split.mk fun t h5 => ?_
        cases t
        case false => cases h5
        refine Split.mk fun t h6 => ?_
        cases t
        case true => cases h6
        refine ACall.mk _ _ hT ?_
        refine Fz.mk _ (frzE _) ?_
        refine Fz.mk _ (frzRR _) ?_
        refine Fz.mk _ (frzI _) ?_
        refine Fz.mk _ (frzE _) ?_
        refine Fz.mk _ (frzRR _) ?_
        refine Fz.mk _ (frzI _) ?_
        refine ACall.mk _ _ hE ?_
        refine Need.mk (⟨ClL.mem (.v .nil), no_objs⟩) ?_
        refine Split.mk fun t h7 => ?_
        cases t
        case false => cases h7
        refine Need.mk (rfl) ?_
        refine ACall.mk _ _ hT2 ?_
        refine Fz.mk _ (frzE _) ?_
        refine Fz.mk _ (frzE _) ?_
        refine ACall.mk _ _ hEx ?_
        refine Need.mk (⟨ClL.mem (.v .nil), no_objs⟩) ?_
        refine Split.mk fun t h8 => ?_
        cases t
        case false => cases h8
        refine ACall.mk _ _ hM ?_
        refine ACall.mk _ _ hMx ?_
        refine Split.mk fun t h9 => ?_
        cases t
        case true => cases h9
        refine Fz.mk _ (frzE _) ?_
        refine Fz.mk _ (frzRR _) ?_
        refine Fz.mk _ (frzI _) ?_
        refine ACall.mk _ _ hE2 ?_
        refine Need.mk (⟨ClL.mem (.v .nil), no_objs⟩) ?_
        refine Split.mk fun t h10 => ?_
        cases t
        case false => cases h10
        refine Split.mk fun t h11 => ?_
        cases t
        case true => cases h11
        refine ACall.mk _ _ hM2 ?_
        refine Fz.mk _ (frzE _) ?_
        refine Fz.mk _ (frzRR _) ?_
        refine Fz.mk _ (frzI _) ?_
        refine ACall.mk _ _ hH2 ?_
        refine Need.mk (⟨ClL.mem (.v .nil), no_objs⟩) ?_
        refine Split.mk fun t h12 => ?_
        cases t
        case true => cases h12
        refine Split.mk fun t h13 => ?_
        cases t
        case true => (exfalso; rw [bne_iff_ne] at h13; omega)
        rw [bne_eq_false_iff_eq] at h13
        refine ACall.mk _ _ hT ?_
        refine ACall.mk _ _ hT2 ?_
        refine Fz.mk _ (frzE _) ?_
        refine Fz.mk _ (frzRR _) ?_
        refine Fz.mk _ (frzI _) ?_
        refine Fz.mk _ (frzE _) ?_
        refine ACall.mk _ _ hI ?_
        refine Need.mk (⟨ClL.mem (.v (.us (clE _) (.us (clLO _) (.us (clI _) (.v .nil))))), no_objs⟩) ?_
        refine Split.mk fun t h14 => ?_
        cases t
        case false => cases h14
        refine Fz.mk _ (frzE _) ?_
        refine Fz.mk _ (frzRR _) ?_
        refine Fz.mk _ (frzI _) ?_
        refine ACall.mk _ _ hE2 ?_
        refine Need.mk (⟨ClL.mem (.v .nil), no_objs⟩) ?_
        refine Split.mk fun t h15 => ?_
        cases t
        case false => cases h15
        refine Split.mk fun t h16 => ?_
        cases t
        case true => cases h16
        refine Fz.mk _ (frzE _) ?_
        refine Fz.mk _ (frzRR _) ?_
        refine Fz.mk _ (frzI _) ?_
        refine ACall.mk _ _ hH2 ?_
        refine Need.mk (⟨ClL.mem (.v .nil), no_objs⟩) ?_
        refine Split.mk fun t h17 => ?_
        cases t
        case true => cases h17
        refine Split.mk fun t h18 => ?_
        cases t
        case true => (exfalso; rw [bne_iff_ne] at h18; omega)
        rw [bne_eq_false_iff_eq] at h18
        exact Need.mk ⟨[], _, .same, rfl, rfl⟩ trivial
    · rw [cut_neg hsz2] at hSz2
      refine AFn.introX (E := En 0 (mdv [23, 24] [17])) (en_ok 0 _) Tryz.func3 rfl rfl rfl fun _ _ => ?_
      refine ACall.mk _ _ hSz ?_
      refine Split.mk fun t h1 => ?_
      cases t
      case true => cases h1
      refine ACall.mk _ _ hSz2 ?_
      refine Split.mk fun t h2 => ?_
      cases t
      case false => cases h2
      exact Need.mk ⟨[], _, .same, rfl, rfl⟩ trivial
  · rw [cut_neg hsz1] at hSz
    refine AFn.introX (E := En 0 (mdv [23, 24] [17])) (en_ok 0 _) Tryz.func3 rfl rfl rfl fun _ _ => ?_
    refine ACall.mk _ _ hSz ?_
    refine Split.mk fun t h1 => ?_
    cases t
    case false => cases h1
    exact Need.mk ⟨[], _, .same, rfl, rfl⟩ trivial
theorem laws_FnExactTreeWrite_any (r0 : List C) (h0 : ShL tyTre r0) (c1 : C) (h1 : Sh (.slice tyEnt) c1) : AFn Tryz.prog 3 [.agg (r0.map .c), .one (.c c1)] [] (rb true) [] := by
  obtain ⟨a, rfl, wa⟩ := dec_tre h0
  obtain ⟨xs, rfl, hx⟩ := dec_ents h1
  exact laws_FnExactTreeWrite a xs wa.ok fun e he => (hx e he).1
end Go.Proofs.YtcnongahanmclaaGreat
