/-
  Contracts of functions, part 6.
-/
import Derived.Test.YtcnongahanmclaaGreatTFnExactTreeCompactE
namespace Go.Proofs.YtcnongahanmclaaGreat
open Go Go.Proofs Ev
set_option maxRecDepth 100000
set_option maxHeartbeats 40000000
set_option linter.unusedSimpArgs false
set_option linter.unusedVariables false
def encF (sq : Int) (mem : List Ent) (l0 l1 l2 : List Rn) (snaps : List Int) : List C := [vi sq, .sl (mem.map Ent.enc), .sl ([l0, l1, l2].map encL), .sl (snaps.map encI)]
def encE (x1 x2 x3 : Value) (sq : Int) (mem : List Ent) (l0 l1 l2 : List Rn) (snaps : List Int) : List C := [vi sq, .ex x1 (mem.map Ent.enc), .ex x2 ([l0, l1, l2].map encL), .ex x3 (snaps.map encI)]
theorem run_lens {l : List Rn} (h : ∀ r ∈ l, runOk r = true) : ∀ r ∈ l, 0 < r.ents.length ∧ r.ents.length ≤ 1048576 := fun r hr => by
 have := (runOk_len (h r hr)).1
 have := (runOk_len (h r hr)).2.1
 omega
theorem spec_l5Bare2 (sq : Int) (mem : List Ent) (l0 l1 l2 : List Rn) (snaps : List Int) (all : List Rn) : AFn Tryz.prog 187 [.agg ((encF sq mem l0 l1 l2 snaps).map .c), av (.int .i64 2), sl (all.map Rn.enc)] [] (rb true) [] := by
 refine AFn.introX (E := En 0 md0 (cb := [3])) (en_ok 0 _ _ _ _ _) Tryz.func187 rfl rfl rfl fun _ _ => ?_
 refine sp1 ?_
 exact ndE trivial
theorem spec_l5Bare1 (sq : Int) (mem : List Ent) (l0 l1 l2 : List Rn) (snaps : List Int) (all : List Rn) (ha : all ≠ []) (hal : all.length ≤ 1048576) (hr : ∀ r ∈ all, runOk r = true) (h2 : ∀ r ∈ l2, runOk r = true) (hl2 : l2.length ≤ 1048576) :
  AFn Tryz.prog 187 [.agg ((encF sq mem l0 l1 l2 snaps).map .c), av (.int .i64 1), sl (all.map Rn.enc)] [] (rb (inL l2 (lowR all) (highR all)).isEmpty) [] := by
 have hRg : AFn Tryz.prog 184 [sl (all.map Rn.enc)] [] (.tup [.one (vs (lowR all)), .one (vs (highR all))]) [] := by
  cases all with
  | nil => exact absurd rfl ha
  | cons x xs => exact spec_l5Range x xs (by rw [List.length_cons] at hal; omega) (run_lens hr)
 have hPt := spec_l5Part l2 (lowR all) (highR all) hl2 (run_lens h2)
 have hrow : ([l0, l1, l2].map encL)[(2 : Nat)]? = some (encL l2) := rfl
 obtain ⟨q, hq⟩ := exq (inL l2 (lowR all) (highR all))
 rw [hq] at hPt
 rw [hq]
 have hqn : (q.map Rn.enc).length = q.length := List.length_map ..
 by_cases h0 : q.length = 0
 ·rw [show q.isEmpty = true from List.isEmpty_iff_length_eq_zero.2 h0]
  refine AFn.introX (E := En 0 md0 (cb := [3])) (en_ok 0 _ _ _ _ _) Tryz.func187 rfl rfl rfl fun _ _ => ?_
  refine sp0 ?_
  refine ACall.mk _ _ hRg ?_
  refine nd ?_
  refine Row.mk _ hrow ?_
  refine ACall.mk _ _ hPt ?_
  refine sqT (by omega) fun h2 => ?_
  exact ndE trivial
 ·rw [show q.isEmpty = false from Bool.eq_false_iff.2 fun h => h0 (List.isEmpty_iff_length_eq_zero.1 h)]
  refine AFn.introX (E := En 0 md0 (cb := [3])) (en_ok 0 _ _ _ _ _) Tryz.func187 rfl rfl rfl fun _ _ => ?_
  refine sp0 ?_
  refine ACall.mk _ _ hRg ?_
  refine nd ?_
  refine Row.mk _ hrow ?_
  refine ACall.mk _ _ hPt ?_
  refine sqF (by omega) fun h2 => ?_
  exact ndE trivial
theorem fits_eq {off : List Rn} {z : List Ent} (h : ∀ r ∈ off, r.ents.length ≤ 150) : (orderL off (cutL z)).all (fun r => decide (r.ents.length ≤ 150)) = cutOk z := by
 have hm : ∀ r, r ∈ orderL off (cutL z) ↔ r ∈ off ∨ r ∈ cutL z := fun r => ⟨order_mem _ _ r, fun hr => by
  have key : ∀ (ys xs : List Rn), (r ∈ xs ∨ r ∈ ys) → r ∈ orderL xs ys := by
   intro ys
   induction ys with
   | nil => intro xs h; exact h.elim id fun h => nomatch h
   | cons y ys ih =>
    intro xs h
    refine ih (ins rLess xs y) ?_
    rcases h with h | h
    ·exact .inl ((ins_perm rLess xs y).mem_iff.2 (List.mem_cons_of_mem _ h))
    ·rcases List.mem_cons.1 h with rfl | h
     ·exact .inl ((ins_perm rLess xs r).mem_iff.2 (List.mem_cons_self ..))
     ·exact .inr h
  exact key _ _ hr⟩
 rw [Bool.eq_iff_iff, List.all_eq_true]
 unfold cutOk
 rw [List.all_eq_true]
 constructor
 ·intro h1 c hc
  exact h1 (mkRun c) ((hm _).2 (.inr (List.mem_map_of_mem hc)))
 ·intro h1 r hr
  rcases (hm r).1 hr with h2 | h2
  ·exact decide_eq_true (h r h2)
  ·obtain ⟨c, hc, rfl⟩ := List.mem_map.1 h2
   exact h1 c hc
theorem cutL_pos (z : List Ent) : ∀ r ∈ cutL z, 0 < r.ents.length := fun r hr => by
 obtain ⟨c, hc, rfl⟩ := List.mem_map.1 hr
 exact pieces_pos c hc
theorem len_flat {α : Type} : ∀ (L : List (List α)), (∀ c ∈ L, 0 < c.length) → L.length ≤ L.flatten.length := by
 intro L
 induction L with
 | nil => intro _; exact Nat.le_refl _
 | cons c L ih =>
  intro h
  have h1 := h c (List.mem_cons_self ..)
  have h2 := ih fun d hd => h d (List.mem_cons_of_mem _ hd)
  rw [List.flatten_cons, List.length_append, List.length_cons]
  omega
theorem cutL_le (z : List Ent) : (cutL z).length ≤ z.length := by
 unfold cutL
 rw [List.length_map]
 have := len_flat (pieces 0 z) pieces_pos
 rw [pieces_flat] at this
 exact this
theorem spec_l5Merge0 (sq : Int) (mem : List Ent) (l0 l1 l2 : List Rn) (snaps : List Int) (x1 x2 x3 : Value) (taken rest : List Rn) (hne : taken ≠ []) (htl : taken.length ≤ 8) (ht : ∀ r ∈ taken, runOk r = true) (h1 : ∀ r ∈ l1, runOk r = true) (hl1 : l1.length ≤ 8) (h2 : ∀ r ∈ l2, runOk r = true) (hl2 : l2.length ≤ 8)
  (hsn : snaps.length ≤ 1048576) (hsm : (⟨sq, mem, [l0, l1, l2], snaps⟩ : Tre).Small) (ho : ordOk (isort eLess (entsR (taken ++ inL l1 (lowR taken) (highR taken)))) = true) (o : List C) (ob : C) (c : Bool) (hc : mergeOk l0 l1 l2 0 taken snaps = c)
  (hy : c = true → o = [vi sq, .us 54 (mem.map Ent.enc), .us 66 [[.us 68 (rest.map Rn.enc)], [.us 68 ((mergeR l0 l1 l2 0 taken snaps).map Rn.enc)], encLO l2], .us 3 (snaps.map encI)] ∧ ob = .x) (hn : c = false → o = encE x1 x2 x3 sq mem l0 l1 l2 snaps ∧ ob = .us 68 (rest.map Rn.enc)) :
  AFn Tryz.prog 137 [.agg ((encE x1 x2 x3 sq mem l0 l1 l2 snaps).map .c), av (.int .i64 0), sl (taken.map Rn.enc), .one (.ref 0 0 (.cell 0))] [[.us 68 (rest.map Rn.enc)]] (.tup [.agg o, .one (vb c)]) [[ob]] := by
 have hRg : AFn Tryz.prog 184 [sl (taken.map Rn.enc)] [] (.tup [.one (vs (lowR taken)), .one (vs (highR taken))]) [] := by
  cases taken with
  | nil => exact absurd rfl hne
  | cons x xs => exact spec_l5Range x xs (by rw [List.length_cons] at htl; omega) (run_lens ht)
 have hPt := spec_l5Part l1 (lowR taken) (highR taken) (by omega) (run_lens h1)
 have hIr : ∀ r ∈ inL l1 (lowR taken) (highR taken), runOk r = true := fun r hr => h1 r (List.filter_sublist.subset hr)
 have hOr : ∀ r ∈ offL l1 (lowR taken) (highR taken), runOk r = true := fun r hr => h1 r (List.filter_sublist.subset hr)
 have hIl : (inL l1 (lowR taken) (highR taken)).length ≤ 8 := Nat.le_trans (List.length_filter_le _ _) hl1
 have hOl : (offL l1 (lowR taken) (highR taken)).length ≤ 8 := Nat.le_trans (List.length_filter_le _ _) hl1
 have hcz : mergeOk l0 l1 l2 0 taken snaps = (cutOk (mergeL l0 l1 l2 0 taken snaps) && decide ((mergeR l0 l1 l2 0 taken snaps).length ≤ 8)) := rfl
 have hRz : mergeR l0 l1 l2 0 taken snaps = orderL (offL l1 (lowR taken) (highR taken)) (cutL (mergeL l0 l1 l2 0 taken snaps)) := rfl
 have hLz : mergeL l0 l1 l2 0 taken snaps = squash (isort eLess (entsR (taken ++ inL l1 (lowR taken) (highR taken)))) snaps (decide ((0 : Nat) = 1) || (inL l2 (lowR (taken ++ inL l1 (lowR taken) (highR taken))) (highR (taken ++ inL l1 (lowR taken) (highR taken)))).isEmpty) := rfl
 rw [hc] at hcz
 obtain ⟨q, hq⟩ := exq (inL l1 (lowR taken) (highR taken))
 rw [hq] at hPt hIr hIl ho hLz
 obtain ⟨f, hf⟩ := exq (offL l1 (lowR taken) (highR taken))
 rw [hf] at hPt hOr hOl hRz
 obtain ⟨lo, hlo⟩ := exq (lowR taken)
 obtain ⟨hi, hhi⟩ := exq (highR taken)
 rw [hlo, hhi] at hRg hPt
 have hall : ∀ r ∈ taken ++ q, runOk r = true := fun r hr => (List.mem_append.1 hr).elim (ht r) (hIr r)
 have hallne : taken ++ q ≠ [] := fun h => hne (List.append_eq_nil_iff.1 h).1
 have halll : (taken ++ q).length ≤ 16 := by rw [List.length_append]; omega
 have hfA : Frz (.us 68 (([] ++ taken.map Rn.enc) ++ q.map Rn.enc)) (.sl ((taken ++ q).map Rn.enc)) := by rw [List.nil_append, ← List.map_append]; exact frzRs _
 obtain ⟨a, hae⟩ := exq (taken ++ q)
 rw [hae] at hall hallne halll hfA ho hLz
 have hLs := spec_l5Lists a (by omega)
 have hMl : ((a.map Rn.ents).flatten).length ≤ 2400 := by
  have := flat_le (b := 150) (L := a.map Rn.ents) fun l hl => by obtain ⟨r, hr, rfl⟩ := List.mem_map.1 hl; exact (runOk_len (hall r hr)).2.1
  rw [List.length_map] at this
  have h3 : a.length * 150 ≤ 16 * 150 := Nat.mul_le_mul_right _ halll
  omega
 have hMA := spec_MergeAll (a.map Rn.ents) (by omega) (by rw [List.length_map]; omega)
 have hfL : Frz (.us 29 (a.map encLs)) (.sl ((a.map Rn.ents).map encX)) := by
  rw [List.map_map]
  exact frz_map fun r _ => .cons .sl .nil
 have hBr : AFn Tryz.prog 187 [.agg ((encF sq mem l0 l1 l2 snaps).map .c), av (.int .i64 1), sl (a.map Rn.enc)] [] (rb ((inL l2 (lowR a) (highR a)).isEmpty)) [] := spec_l5Bare1 sq mem l0 l1 l2 snaps a hallne (by omega) hall h2 (by omega)
 have hzl : (isort eLess (a.map Rn.ents).flatten).length ≤ 2400 := by rw [isort_len]; exact hMl
 obtain ⟨m, hm⟩ := exq (isort eLess (a.map Rn.ents).flatten)
 have hm' : isort eLess (entsR a) = m := hm
 rw [hm'] at ho hLz
 rw [hm] at hMA hzl
 obtain ⟨b, hb⟩ := exq (((inL l2 (lowR a) (highR a)).isEmpty))
 rw [hb] at hBr
 have hSq := spec_Squash m snaps (by omega) (by omega) (ordOk_OkE ho) b
 rw [show squashed m snaps b = squash m snaps b from if_pos ho] at hSq
 have hzo := squash_ok (snaps := snaps) (last := b) ho
 have hzn := squash_len (l := m) (snaps := snaps) (last := b)
 have hLz : mergeL l0 l1 l2 0 taken snaps = squash m snaps b := by rw [hLz]; rw [← hb]; rfl
 rw [hLz] at hcz hRz
 obtain ⟨z, hz⟩ := exq (squash m snaps b)
 rw [hz] at hSq hzo hzn hcz hRz
 have hCt := spec_l5Cut z (by omega) (ordOk_OkE hzo)
 have hcr := cutL_pos z
 have hcl : (cutL z).length ≤ z.length := cutL_le z
 have hOd := spec_l5Order f (cutL z) (by omega) (by omega) (fun r hr => (runOk_len (hOr r hr)).1) hcr
 rw [← hRz] at hOd
 have hRl : (mergeR l0 l1 l2 0 taken snaps).length ≤ 2408 := by rw [hRz, order_len]; omega
 have hFt := spec_l5Fits (mergeR l0 l1 l2 0 taken snaps) (by rw [hRz, order_len]; omega) c (by rw [hcz, hRz, fits_eq fun r hr => (runOk_len (hOr r hr)).2.1])
 have hCp : AFn Tryz.prog 60 [.agg ((encF sq mem l0 l1 l2 snaps).map .c)] [] (.agg (encTO ⟨sq, mem, [l0, l1, l2], snaps⟩)) [] := spec_l5Copy _ hsm
 obtain ⟨N, hN⟩ := exq (mergeR l0 l1 l2 0 taken snaps)
 rw [hN] at hOd hFt hRl hy
 have hrow : ([l0, l1, l2].map encL)[(1 : Nat)]? = some (encL l1) := rfl
 have hadd : IntKind.i64.wrap ((0 : Int) + 1) = (1 : Int) := rfl
 cases c
 ·obtain ⟨ho1, hob⟩ := hn rfl
  rw [ho1, hob]
  cases b
  ·refine AFn.introX (E := En 1 (mdv [] [189, 188]) (cb := [4]) (fz := [15]) (ws := [28, 46, 47, 60])) (en_ok 1 _ _ _ _ _ _) Tryz.func137 rfl rfl rfl fun _ _ => ?_
   refine Num.mk _ hadd ?_
   refine ACall.mk _ _ hRg ?_
   refine nd ?_
   refine Row.mk _ hrow ?_
   refine ACall.mk _ _ hPt ?_
   refine Need.mk (⟨(plainR _), (lenR _)⟩) ?_
   refine apq (A' := []) (B' := _) rfl rfl ?_
   refine Need.mk ((plainR _)) ?_
   refine apq (A' := ([] ++ _)) (B' := _) rfl rfl ?_
   refine Fz.mk _ hfA ?_
   refine ACall.mk _ _ hLs ?_
   refine Fz.mk _ hfL ?_
   refine ACall.mk _ _ hMA ?_
   refine Need.mk (⟨ClL.mem (.us (clE _) .nil), no_objs⟩) ?_
   refine ACall.mk _ _ hBr ?_
   refine sp0 ?_
   refine Fz.mk _ (frzE _) ?_
   refine ACall.mk _ _ hSq ?_
   refine Need.mk (⟨ClL.mem (.us (clE _) .nil), no_objs⟩) ?_
   refine Need.mk (rfl) ?_
   refine Fz.mk _ (frzE _) ?_
   refine ACall.mk _ _ hCt ?_
   refine Fz.mk _ (frzRs _) ?_
   refine Fz.mk _ (frzRs _) ?_
   refine ACall.mk _ _ hOd ?_
   refine Fz.mk _ (frzRs _) ?_
   refine ACall.mk _ _ hFt ?_
   refine Need.mk (⟨ClL.mem (.v .nil), no_objs⟩) ?_
   refine sp0 ?_
   exact ndE trivial
  ·refine AFn.introX (E := En 1 (mdv [] [189, 188]) (cb := [4]) (fz := [15]) (ws := [28, 46, 47, 60])) (en_ok 1 _ _ _ _ _ _) Tryz.func137 rfl rfl rfl fun _ _ => ?_
   refine Num.mk _ hadd ?_
   refine ACall.mk _ _ hRg ?_
   refine nd ?_
   refine Row.mk _ hrow ?_
   refine ACall.mk _ _ hPt ?_
   refine Need.mk (⟨(plainR _), (lenR _)⟩) ?_
   refine apq (A' := []) (B' := _) rfl rfl ?_
   refine Need.mk ((plainR _)) ?_
   refine apq (A' := ([] ++ _)) (B' := _) rfl rfl ?_
   refine Fz.mk _ hfA ?_
   refine ACall.mk _ _ hLs ?_
   refine Fz.mk _ hfL ?_
   refine ACall.mk _ _ hMA ?_
   refine Need.mk (⟨ClL.mem (.us (clE _) .nil), no_objs⟩) ?_
   refine ACall.mk _ _ hBr ?_
   refine sp1 ?_
   refine Fz.mk _ (frzE _) ?_
   refine ACall.mk _ _ hSq ?_
   refine Need.mk (⟨ClL.mem (.us (clE _) .nil), no_objs⟩) ?_
   refine Need.mk (rfl) ?_
   refine Fz.mk _ (frzE _) ?_
   refine ACall.mk _ _ hCt ?_
   refine Fz.mk _ (frzRs _) ?_
   refine Fz.mk _ (frzRs _) ?_
   refine ACall.mk _ _ hOd ?_
   refine Fz.mk _ (frzRs _) ?_
   refine ACall.mk _ _ hFt ?_
   refine Need.mk (⟨ClL.mem (.v .nil), no_objs⟩) ?_
   refine sp0 ?_
   exact ndE trivial
 ·obtain ⟨ho1, hob⟩ := hy rfl
  rw [ho1, hob]
  cases b
  ·refine AFn.introX (E := En 1 (mdv [] [189, 188]) (cb := [4]) (fz := [15]) (ws := [28, 46, 47, 60])) (en_ok 1 _ _ _ _ _ _) Tryz.func137 rfl rfl rfl fun _ _ => ?_
   refine Num.mk _ hadd ?_
   refine ACall.mk _ _ hRg ?_
   refine nd ?_
   refine Row.mk _ hrow ?_
   refine ACall.mk _ _ hPt ?_
   refine Need.mk (⟨(plainR _), (lenR _)⟩) ?_
   refine apq (A' := []) (B' := _) rfl rfl ?_
   refine Need.mk ((plainR _)) ?_
   refine apq (A' := ([] ++ _)) (B' := _) rfl rfl ?_
   refine Fz.mk _ hfA ?_
   refine ACall.mk _ _ hLs ?_
   refine Fz.mk _ hfL ?_
   refine ACall.mk _ _ hMA ?_
   refine Need.mk (⟨ClL.mem (.us (clE _) .nil), no_objs⟩) ?_
   refine ACall.mk _ _ hBr ?_
   refine sp0 ?_
   refine Fz.mk _ (frzE _) ?_
   refine ACall.mk _ _ hSq ?_
   refine Need.mk (⟨ClL.mem (.us (clE _) .nil), no_objs⟩) ?_
   refine Need.mk (rfl) ?_
   refine Fz.mk _ (frzE _) ?_
   refine ACall.mk _ _ hCt ?_
   refine Fz.mk _ (frzRs _) ?_
   refine Fz.mk _ (frzRs _) ?_
   refine ACall.mk _ _ hOd ?_
   refine Fz.mk _ (frzRs _) ?_
   refine ACall.mk _ _ hFt ?_
   refine Need.mk (⟨ClL.mem (.v .nil), no_objs⟩) ?_
   refine sp1 ?_
   refine ACall.mk _ _ hCp ?_
   refine Need.mk (by simp) ?_
   refine Row.mk _ rfl ?_
   refine Need.mk (by simp) ?_
   refine Row.mk _ rfl ?_
   exact ndE trivial
  ·refine AFn.introX (E := En 1 (mdv [] [189, 188]) (cb := [4]) (fz := [15]) (ws := [28, 46, 47, 60])) (en_ok 1 _ _ _ _ _ _) Tryz.func137 rfl rfl rfl fun _ _ => ?_
   refine Num.mk _ hadd ?_
   refine ACall.mk _ _ hRg ?_
   refine nd ?_
   refine Row.mk _ hrow ?_
   refine ACall.mk _ _ hPt ?_
   refine Need.mk (⟨(plainR _), (lenR _)⟩) ?_
   refine apq (A' := []) (B' := _) rfl rfl ?_
   refine Need.mk ((plainR _)) ?_
   refine apq (A' := ([] ++ _)) (B' := _) rfl rfl ?_
   refine Fz.mk _ hfA ?_
   refine ACall.mk _ _ hLs ?_
   refine Fz.mk _ hfL ?_
   refine ACall.mk _ _ hMA ?_
   refine Need.mk (⟨ClL.mem (.us (clE _) .nil), no_objs⟩) ?_
   refine ACall.mk _ _ hBr ?_
   refine sp1 ?_
   refine Fz.mk _ (frzE _) ?_
   refine ACall.mk _ _ hSq ?_
   refine Need.mk (⟨ClL.mem (.us (clE _) .nil), no_objs⟩) ?_
   refine Need.mk (rfl) ?_
   refine Fz.mk _ (frzE _) ?_
   refine ACall.mk _ _ hCt ?_
   refine Fz.mk _ (frzRs _) ?_
   refine Fz.mk _ (frzRs _) ?_
   refine ACall.mk _ _ hOd ?_
   refine Fz.mk _ (frzRs _) ?_
   refine ACall.mk _ _ hFt ?_
   refine Need.mk (⟨ClL.mem (.v .nil), no_objs⟩) ?_
   refine sp1 ?_
   refine ACall.mk _ _ hCp ?_
   refine Need.mk (by simp) ?_
   refine Row.mk _ rfl ?_
   refine Need.mk (by simp) ?_
   refine Row.mk _ rfl ?_
   exact ndE trivial
theorem spec_l5Merge1 (sq : Int) (mem : List Ent) (l0 l1 l2 : List Rn) (snaps : List Int) (x1 x2 x3 : Value) (taken rest : List Rn) (hne : taken ≠ []) (htl : taken.length ≤ 8) (ht : ∀ r ∈ taken, runOk r = true) (h2 : ∀ r ∈ l2, runOk r = true) (hl2 : l2.length ≤ 8)
  (hsn : snaps.length ≤ 1048576) (hsm : (⟨sq, mem, [l0, l1, l2], snaps⟩ : Tre).Small) (ho : ordOk (isort eLess (entsR (taken ++ inL l2 (lowR taken) (highR taken)))) = true) (o : List C) (ob : C) (c : Bool) (hc : mergeOk l0 l1 l2 1 taken snaps = c)
  (hy : c = true → o = [vi sq, .us 54 (mem.map Ent.enc), .us 66 [encLO l0, [.us 68 (rest.map Rn.enc)], [.us 68 ((mergeR l0 l1 l2 1 taken snaps).map Rn.enc)]], .us 3 (snaps.map encI)] ∧ ob = .x) (hn : c = false → o = encE x1 x2 x3 sq mem l0 l1 l2 snaps ∧ ob = .us 68 (rest.map Rn.enc)) :
  AFn Tryz.prog 137 [.agg ((encE x1 x2 x3 sq mem l0 l1 l2 snaps).map .c), av (.int .i64 1), sl (taken.map Rn.enc), .one (.ref 0 0 (.cell 0))] [[.us 68 (rest.map Rn.enc)]] (.tup [.agg o, .one (vb c)]) [[ob]] := by
 have hRg : AFn Tryz.prog 184 [sl (taken.map Rn.enc)] [] (.tup [.one (vs (lowR taken)), .one (vs (highR taken))]) [] := by
  cases taken with
  | nil => exact absurd rfl hne
  | cons x xs => exact spec_l5Range x xs (by rw [List.length_cons] at htl; omega) (run_lens ht)
 have hPt := spec_l5Part l2 (lowR taken) (highR taken) (by omega) (run_lens h2)
 have hIr : ∀ r ∈ inL l2 (lowR taken) (highR taken), runOk r = true := fun r hr => h2 r (List.filter_sublist.subset hr)
 have hOr : ∀ r ∈ offL l2 (lowR taken) (highR taken), runOk r = true := fun r hr => h2 r (List.filter_sublist.subset hr)
 have hIl : (inL l2 (lowR taken) (highR taken)).length ≤ 8 := Nat.le_trans (List.length_filter_le _ _) hl2
 have hOl : (offL l2 (lowR taken) (highR taken)).length ≤ 8 := Nat.le_trans (List.length_filter_le _ _) hl2
 have hcz : mergeOk l0 l1 l2 1 taken snaps = (cutOk (mergeL l0 l1 l2 1 taken snaps) && decide ((mergeR l0 l1 l2 1 taken snaps).length ≤ 8)) := rfl
 have hRz : mergeR l0 l1 l2 1 taken snaps = orderL (offL l2 (lowR taken) (highR taken)) (cutL (mergeL l0 l1 l2 1 taken snaps)) := rfl
 have hLz : mergeL l0 l1 l2 1 taken snaps = squash (isort eLess (entsR (taken ++ inL l2 (lowR taken) (highR taken)))) snaps (decide ((1 : Nat) = 1) || (inL l2 (lowR (taken ++ inL l2 (lowR taken) (highR taken))) (highR (taken ++ inL l2 (lowR taken) (highR taken)))).isEmpty) := rfl
 rw [hc] at hcz
 obtain ⟨q, hq⟩ := exq (inL l2 (lowR taken) (highR taken))
 rw [hq] at hPt hIr hIl ho hLz
 obtain ⟨f, hf⟩ := exq (offL l2 (lowR taken) (highR taken))
 rw [hf] at hPt hOr hOl hRz
 obtain ⟨lo, hlo⟩ := exq (lowR taken)
 obtain ⟨hi, hhi⟩ := exq (highR taken)
 rw [hlo, hhi] at hRg hPt
 have hall : ∀ r ∈ taken ++ q, runOk r = true := fun r hr => (List.mem_append.1 hr).elim (ht r) (hIr r)
 have hallne : taken ++ q ≠ [] := fun h => hne (List.append_eq_nil_iff.1 h).1
 have halll : (taken ++ q).length ≤ 16 := by rw [List.length_append]; omega
 have hfA : Frz (.us 68 (([] ++ taken.map Rn.enc) ++ q.map Rn.enc)) (.sl ((taken ++ q).map Rn.enc)) := by rw [List.nil_append, ← List.map_append]; exact frzRs _
 obtain ⟨a, hae⟩ := exq (taken ++ q)
 rw [hae] at hall hallne halll hfA ho hLz
 have hLs := spec_l5Lists a (by omega)
 have hMl : ((a.map Rn.ents).flatten).length ≤ 2400 := by
  have := flat_le (b := 150) (L := a.map Rn.ents) fun l hl => by obtain ⟨r, hr, rfl⟩ := List.mem_map.1 hl; exact (runOk_len (hall r hr)).2.1
  rw [List.length_map] at this
  have h3 : a.length * 150 ≤ 16 * 150 := Nat.mul_le_mul_right _ halll
  omega
 have hMA := spec_MergeAll (a.map Rn.ents) (by omega) (by rw [List.length_map]; omega)
 have hfL : Frz (.us 29 (a.map encLs)) (.sl ((a.map Rn.ents).map encX)) := by
  rw [List.map_map]
  exact frz_map fun r _ => .cons .sl .nil
 have hBr : AFn Tryz.prog 187 [.agg ((encF sq mem l0 l1 l2 snaps).map .c), av (.int .i64 2), sl (a.map Rn.enc)] [] (rb (true)) [] := spec_l5Bare2 sq mem l0 l1 l2 snaps a
 have hzl : (isort eLess (a.map Rn.ents).flatten).length ≤ 2400 := by rw [isort_len]; exact hMl
 obtain ⟨m, hm⟩ := exq (isort eLess (a.map Rn.ents).flatten)
 have hm' : isort eLess (entsR a) = m := hm
 rw [hm'] at ho hLz
 rw [hm] at hMA hzl
 have hSq := spec_Squash m snaps (by omega) (by omega) (ordOk_OkE ho) true
 rw [show squashed m snaps true = squash m snaps true from if_pos ho] at hSq
 have hzo := squash_ok (snaps := snaps) (last := true) ho
 have hzn := squash_len (l := m) (snaps := snaps) (last := true)
 have hLz : mergeL l0 l1 l2 1 taken snaps = squash m snaps true := by rw [hLz]; rfl
 rw [hLz] at hcz hRz
 obtain ⟨z, hz⟩ := exq (squash m snaps true)
 rw [hz] at hSq hzo hzn hcz hRz
 have hCt := spec_l5Cut z (by omega) (ordOk_OkE hzo)
 have hcr := cutL_pos z
 have hcl : (cutL z).length ≤ z.length := cutL_le z
 have hOd := spec_l5Order f (cutL z) (by omega) (by omega) (fun r hr => (runOk_len (hOr r hr)).1) hcr
 rw [← hRz] at hOd
 have hRl : (mergeR l0 l1 l2 1 taken snaps).length ≤ 2408 := by rw [hRz, order_len]; omega
 have hFt := spec_l5Fits (mergeR l0 l1 l2 1 taken snaps) (by rw [hRz, order_len]; omega) c (by rw [hcz, hRz, fits_eq fun r hr => (runOk_len (hOr r hr)).2.1])
 have hCp : AFn Tryz.prog 60 [.agg ((encF sq mem l0 l1 l2 snaps).map .c)] [] (.agg (encTO ⟨sq, mem, [l0, l1, l2], snaps⟩)) [] := spec_l5Copy _ hsm
 obtain ⟨N, hN⟩ := exq (mergeR l0 l1 l2 1 taken snaps)
 rw [hN] at hOd hFt hRl hy
 have hrow : ([l0, l1, l2].map encL)[(2 : Nat)]? = some (encL l2) := rfl
 have hadd : IntKind.i64.wrap ((1 : Int) + 1) = (2 : Int) := rfl
 cases c
 ·obtain ⟨ho1, hob⟩ := hn rfl
  rw [ho1, hob]
  refine AFn.introX (E := En 1 (mdv [] [189, 188]) (cb := [4]) (fz := [15]) (ws := [28, 46, 47, 60])) (en_ok 1 _ _ _ _ _ _) Tryz.func137 rfl rfl rfl fun _ _ => ?_
  refine Num.mk _ hadd ?_
  refine ACall.mk _ _ hRg ?_
  refine nd ?_
  refine Row.mk _ hrow ?_
  refine ACall.mk _ _ hPt ?_
  refine Need.mk (⟨(plainR _), (lenR _)⟩) ?_
  refine apq (A' := []) (B' := _) rfl rfl ?_
  refine Need.mk ((plainR _)) ?_
  refine apq (A' := ([] ++ _)) (B' := _) rfl rfl ?_
  refine Fz.mk _ hfA ?_
  refine ACall.mk _ _ hLs ?_
  refine Fz.mk _ hfL ?_
  refine ACall.mk _ _ hMA ?_
  refine Need.mk (⟨ClL.mem (.us (clE _) .nil), no_objs⟩) ?_
  refine ACall.mk _ _ hBr ?_
  refine sp1 ?_
  refine Fz.mk _ (frzE _) ?_
  refine ACall.mk _ _ hSq ?_
  refine Need.mk (⟨ClL.mem (.us (clE _) .nil), no_objs⟩) ?_
  refine Need.mk (rfl) ?_
  refine Fz.mk _ (frzE _) ?_
  refine ACall.mk _ _ hCt ?_
  refine Fz.mk _ (frzRs _) ?_
  refine Fz.mk _ (frzRs _) ?_
  refine ACall.mk _ _ hOd ?_
  refine Fz.mk _ (frzRs _) ?_
  refine ACall.mk _ _ hFt ?_
  refine Need.mk (⟨ClL.mem (.v .nil), no_objs⟩) ?_
  refine sp0 ?_
  exact ndE trivial
 ·obtain ⟨ho1, hob⟩ := hy rfl
  rw [ho1, hob]
  refine AFn.introX (E := En 1 (mdv [] [189, 188]) (cb := [4]) (fz := [15]) (ws := [28, 46, 47, 60])) (en_ok 1 _ _ _ _ _ _) Tryz.func137 rfl rfl rfl fun _ _ => ?_
  refine Num.mk _ hadd ?_
  refine ACall.mk _ _ hRg ?_
  refine nd ?_
  refine Row.mk _ hrow ?_
  refine ACall.mk _ _ hPt ?_
  refine Need.mk (⟨(plainR _), (lenR _)⟩) ?_
  refine apq (A' := []) (B' := _) rfl rfl ?_
  refine Need.mk ((plainR _)) ?_
  refine apq (A' := ([] ++ _)) (B' := _) rfl rfl ?_
  refine Fz.mk _ hfA ?_
  refine ACall.mk _ _ hLs ?_
  refine Fz.mk _ hfL ?_
  refine ACall.mk _ _ hMA ?_
  refine Need.mk (⟨ClL.mem (.us (clE _) .nil), no_objs⟩) ?_
  refine ACall.mk _ _ hBr ?_
  refine sp1 ?_
  refine Fz.mk _ (frzE _) ?_
  refine ACall.mk _ _ hSq ?_
  refine Need.mk (⟨ClL.mem (.us (clE _) .nil), no_objs⟩) ?_
  refine Need.mk (rfl) ?_
  refine Fz.mk _ (frzE _) ?_
  refine ACall.mk _ _ hCt ?_
  refine Fz.mk _ (frzRs _) ?_
  refine Fz.mk _ (frzRs _) ?_
  refine ACall.mk _ _ hOd ?_
  refine Fz.mk _ (frzRs _) ?_
  refine ACall.mk _ _ hFt ?_
  refine Need.mk (⟨ClL.mem (.v .nil), no_objs⟩) ?_
  refine sp1 ?_
  refine ACall.mk _ _ hCp ?_
  refine Need.mk (by simp) ?_
  refine Row.mk _ rfl ?_
  refine Need.mk (by simp) ?_
  refine Row.mk _ rfl ?_
  exact ndE trivial
def TellR (R : List (List C)) (l : List Rn) : Prop := R.length = l.length ∧ ∀ (i : Nat) (row : List C) (r : Rn), R[i]? = some row → l[i]? = some r → row = encO r ∨ row = r.enc
theorem tellO (l : List Rn) : TellR (l.map encO) l := ⟨List.length_map .., fun i row r h1 h2 => by rw [List.getElem?_map, h2] at h1; injection h1 with h1; exact .inl h1.symm⟩
theorem tellE (l : List Rn) : TellR (l.map Rn.enc) l := ⟨List.length_map .., fun i row r h1 h2 => by rw [List.getElem?_map, h2] at h1; injection h1 with h1; exact .inr h1.symm⟩
theorem tell_frz {e : TypeId} {R : List (List C)} {l : List Rn} (h : TellR R l) : Frz (.us e R) (.sl (l.map Rn.enc)) := by
 have key : ∀ (i : Nat) (r r' : List C), R[i]? = some r → (l.map Rn.enc)[i]? = some r' → FrzL r r' := fun i r r' h1 h2 => by
  rw [List.getElem?_map] at h2
  cases hl : l[i]? with
  | none => rw [hl] at h2; cases h2
  | some q =>
   rw [hl] at h2
   injection h2 with h2
   subst h2
   rcases h.2 i r q h1 hl with rfl | rfl
   ·exact .cons (frzE q.ents) (.cons .v .nil)
   ·exact .cons .sl (.cons .v .nil)
 exact .us (by rw [List.length_map]; exact h.1) (fun i r r' h1 h2 => (key i r r' h1 h2).len) fun i r r' j c c' h1 h2 h3 h4 => (key i r r' h1 h2).get j c c' h3 h4
def lvM (R0 R1 R2 : List (List C)) : List (List C) := [[.us 68 R0], [.us 68 R1], [.us 68 R2]]
def encMx (sq : Int) (mem : List Ent) (R0 R1 R2 : List (List C)) (snaps : List Int) : List C := [vi sq, .us 54 (mem.map Ent.enc), .us 66 (lvM R0 R1 R2), .us 3 (snaps.map encI)]
theorem lvM_frz {e : TypeId} {R0 R1 R2 : List (List C)} {l0 l1 l2 : List Rn} (h0 : TellR R0 l0) (h1 : TellR R1 l1) (h2 : TellR R2 l2) : Frz (.us e (lvM R0 R1 R2)) (.sl ([l0, l1, l2].map encL)) :=
 FrzLL.frz (.cons (.cons (tell_frz h0) .nil) (.cons (.cons (tell_frz h1) .nil) (.cons (.cons (tell_frz h2) .nil) .nil)))
theorem compact_mergeOk {sq : Int} {mem : List Ent} {l0 l1 l2 : List Rn} {snaps : List Int} (hb : treeOk ⟨sq, mem, [l0, l1, l2], snaps⟩ = true) {lv : Nat} {taken l : List Rn} (hlv : lv = 0 ∧ taken = l0 ∧ l = l1 ∨ lv = 1 ∧ l = l2 ∧ ∃ p, ∃ h : p < l1.length, taken = [l1[p]]) :
  ordOk (isort eLess (entsR (taken ++ inL l (lowR taken) (highR taken)))) = true ∧ (∀ r ∈ taken, runOk r = true) ∧ taken.length ≤ 8 := by
 obtain ⟨a, ⟨v0, v1, v2⟩, a7, a8⟩ := treeP.1 (show treeOk3 sq mem l0 l1 l2 snaps = true from hb)
 obtain ⟨⟨p2, p1, p0⟩, b21, b20, b2m, b10, b1m, b0m⟩ := layersP.1 a8
 have r0 := (levB_ok v0).2
 have r1 := (levB_ok v1).2
 have r2 := (levB_ok v2).2
 have he : ∀ {taken l : List Rn}, (∀ r ∈ taken, runOk r = true) → (∀ r ∈ l, runOk r = true) → ∀ e ∈ entsR (taken ++ inL l (lowR taken) (highR taken)), entOk e = true := fun {taken l} ht hr e he => by
  obtain ⟨r, hrm, her⟩ := entsR_mem.1 he
  rcases List.mem_append.1 hrm with h | h
  ·exact ordOk_all (runOk_len (ht r h)).2.2.1 e her
  ·exact ordOk_all (runOk_len (hr r (List.filter_sublist.subset h))).2.2.1 e her
 rcases hlv with ⟨_, rfl, rfl⟩ | ⟨_, rfl, p, hp, rfl⟩
 ·exact ⟨dif_ord (merged_of (snaps := snaps) (bottom := true) r1 (levB_ap v1) r0 p0 b10).dif (he r0 r1), r0, by have := (levB_ok v0).1; omega⟩
 ·have hpm : l1[p] ∈ l1 := List.getElem_mem hp
  have ht : ∀ r ∈ [l1[p]], runOk r = true := fun r hr => by rw [List.mem_singleton.1 hr]; exact r1 _ hpm
  have hAb : Above (entsR l) (entsR [l1[p]]) := fun x hx y hy hk => b21 x (by
   obtain ⟨r, hr, her⟩ := entsR_mem.1 hx
   rw [List.mem_singleton.1 hr] at her
   exact entsR_mem.2 ⟨_, hpm, her⟩) y hy hk
  exact ⟨dif_ord (merged_of (snaps := snaps) (bottom := true) r2 (levB_ap v2) ht (by simp) hAb).dif (he ht r2), ht, by simp⟩
theorem compactD_0 {sq : Int} {mem : List Ent} {l0 l1 l2 : List Rn} {snaps : List Int} {pick : Int} (h : 0 < l0.length) : compactD 0 pick ⟨sq, mem, [l0, l1, l2], snaps⟩ = if mergeOk l0 l1 l2 0 l0 snaps then (⟨sq, mem, [[], mergeR l0 l1 l2 0 l0 snaps, l2], snaps⟩, true) else (⟨sq, mem, [l0, l1, l2], snaps⟩, false) := by
 unfold compactD; dsimp only; rw [if_pos ⟨rfl, h⟩]
theorem compactD_1 {sq : Int} {mem : List Ent} {l0 l1 l2 : List Rn} {snaps : List Int} {p : Nat} (h : p < l1.length) : compactD 1 p ⟨sq, mem, [l0, l1, l2], snaps⟩ = if mergeOk l0 l1 l2 1 [l1[p]] snaps then (⟨sq, mem, [l0, l1.take p ++ l1.drop (p + 1), mergeR l0 l1 l2 1 [l1[p]] snaps], snaps⟩, true) else (⟨sq, mem, [l0, l1, l2], snaps⟩, false) := by
 have htk : (l1.drop p).take 1 = [l1[p]] := by rw [List.drop_eq_getElem_cons h]; rfl
 unfold compactD
 dsimp only
 rw [if_neg (fun h => absurd h.1 (by decide)), if_pos ⟨rfl, by omega, by omega⟩, Int.toNat_natCast, htk]
theorem compactD_n {sq : Int} {mem : List Ent} {l0 l1 l2 : List Rn} {snaps : List Int} {lv pick : Int} (h0 : ¬ (lv = 0 ∧ 0 < l0.length)) (h1 : ¬ (lv = 1 ∧ 0 ≤ pick ∧ pick < l1.length)) : compactD lv pick ⟨sq, mem, [l0, l1, l2], snaps⟩ = (⟨sq, mem, [l0, l1, l2], snaps⟩, false) := by
 unfold compactD; dsimp only; rw [if_neg h0, if_neg h1]
theorem spec_l5Compact_no (sq : Int) (mem : List Ent) (l0 l1 l2 : List Rn) (snaps : List Int) (x1 x2 x3 : Value) (hb : treeOk ⟨sq, mem, [l0, l1, l2], snaps⟩ = true) (lv pick : Int) (hc : (compactD lv pick ⟨sq, mem, [l0, l1, l2], snaps⟩).2 = false) :
  AFn Tryz.prog 78 [.agg ((encE x1 x2 x3 sq mem l0 l1 l2 snaps).map .c), av (.int .i64 lv), av (.int .i64 pick)] [] (.tup [.agg (encE x1 x2 x3 sq mem l0 l1 l2 snaps), .one (vb false)]) [] := by
 have hsm := Tre.small_ok hb
 obtain ⟨⟨_, _, a3, _, a5⟩, ⟨v0, v1, v2⟩, _, _⟩ := treeP.1 (show treeOk3 sq mem l0 l1 l2 snaps = true from hb)
 have hl0 := (levB_ok v0).1
 have hl1 := (levB_ok v1).1
 have hl2 := (levB_ok v2).1
 have g0 : ([l0, l1, l2].map encL)[(0 : Nat)]? = some (encL l0) := rfl
 have g1 : ([l0, l1, l2].map encL)[(1 : Nat)]? = some (encL l1) := rfl
 have n0 : (l0.map Rn.enc).length = l0.length := List.length_map ..
 have n1 : (l1.map Rn.enc).length = l1.length := List.length_map ..
 by_cases c0 : lv = 0
 ·subst c0
  by_cases h0 : 0 < l0.length
  ·have hne : l0 ≠ [] := fun e => by rw [e] at h0; simp at h0
   obtain ⟨k1, k2, k3⟩ := compact_mergeOk hb (.inl ⟨rfl, rfl, rfl⟩)
   have hm : mergeOk l0 l1 l2 0 l0 snaps = false := by
    rw [compactD_0 h0] at hc
    by_cases hm : mergeOk l0 l1 l2 0 l0 snaps = true
    ·rw [if_pos hm] at hc; cases hc
    ·exact Bool.eq_false_iff.2 hm
   have hM := spec_l5Merge0 sq mem l0 l1 l2 snaps x1 x2 x3 l0 [] hne k3 k2 (levB_ok v1).2 hl1 (levB_ok v2).2 hl2 hsm.2.2.2 hsm k1 _ _ false hm (fun h => by cases h) fun _ => ⟨rfl, rfl⟩
   refine AFn.introX (E := En 0 (mdv [137] []) (cb := [3]) (ws := [13, 21])) (en_ok 0 _ _ _ _ _ _) Tryz.func78 rfl rfl rfl fun _ _ => ?_
   refine sp1 ?_
   refine nd ?_
   refine Row.mk _ g0 ?_
   refine spT (by omega) fun h2 => ?_
   refine nd ?_
   refine Row.mk _ g0 ?_
   refine ACall.mk _ _ hM ?_
   refine sp0 ?_
   refine Need.mk (rfl) ?_
   exact ndE trivial
  ·refine AFn.introX (E := En 0 (mdv [137] []) (cb := [3]) (ws := [13, 21])) (en_ok 0 _ _ _ _ _ _) Tryz.func78 rfl rfl rfl fun _ _ => ?_
   refine sp1 ?_
   refine nd ?_
   refine Row.mk _ g0 ?_
   refine spF (by omega) fun h2 => ?_
   refine sp0 ?_
   exact ndE trivial
 ·by_cases c1 : lv = 1
  ·subst c1
   by_cases hp0 : 0 ≤ pick
   ·by_cases hp1 : pick < l1.length
    ·obtain ⟨p, rfl⟩ : ∃ p : Nat, pick = p := ⟨pick.toNat, by omega⟩
     have hpl : p < l1.length := by omega
     have htk : (l1.drop p).take 1 = [l1[p]] := by rw [List.drop_eq_getElem_cons hpl]; rfl
     obtain ⟨k1, k2, k3⟩ := compact_mergeOk hb (lv := 1) (taken := [l1[p]]) (.inr ⟨rfl, rfl, p, hpl, rfl⟩)
     have hm : mergeOk l0 l1 l2 1 [l1[p]] snaps = false := by
      rw [compactD_1 hpl] at hc
      by_cases hm : mergeOk l0 l1 l2 1 [l1[p]] snaps = true
      ·rw [if_pos hm] at hc; cases hc
      ·exact Bool.eq_false_iff.2 hm
     have hM := spec_l5Merge1 sq mem l0 l1 l2 snaps x1 x2 x3 [l1[p]] (l1.take p ++ l1.drop (p + 1)) (by simp) k3 k2 (levB_ok v2).2 hl2 hsm.2.2.2 hsm k1 _ _ false hm (fun h => by cases h) fun _ => ⟨rfl, rfl⟩
     have e1 : List.take ((p : Int) - 0).toNat (List.drop (Int.toNat 0) (List.map Rn.enc l1)) = (l1.take p).map Rn.enc := by
      rw [show ((p : Int) - 0).toNat = p by omega, List.map_take]; rfl
     have e2 : List.take (↑(List.map Rn.enc l1).length - ((p + 1 : Nat) : Int)).toNat (List.drop (p + 1) (List.map Rn.enc l1)) = (l1.drop (p + 1)).map Rn.enc := by
      rw [n1, List.map_drop, List.take_of_length_le (by rw [List.length_drop, List.length_map]; omega)]
     have e3 : List.take ((((p + 1 : Nat) : Int) - (p : Int)).toNat) (List.drop (Int.toNat (p : Int)) (List.map Rn.enc l1)) = [l1[p]].map Rn.enc := by
      rw [show (((p + 1 : Nat) : Int) - (p : Int)).toNat = 1 by omega, ← htk, List.map_take, List.map_drop]; rfl
     have hM2 : AFn Tryz.prog 137 [.agg ((encE x1 x2 x3 sq mem l0 l1 l2 snaps).map .c), av (.int .i64 1), sl (List.take ((((p + 1 : Nat) : Int) - (p : Int)).toNat) (List.drop (Int.toNat (p : Int)) (List.map Rn.enc l1))), .one (.ref 0 0 (.cell 0))] [[.us 68 (([] ++ List.take ((p : Int) - 0).toNat (List.drop (Int.toNat 0) (List.map Rn.enc l1))) ++ List.take (↑(List.map Rn.enc l1).length - ((p + 1 : Nat) : Int)).toNat (List.drop (p + 1) (List.map Rn.enc l1)))]] (.tup [.agg (encE x1 x2 x3 sq mem l0 l1 l2 snaps), .one (vb false)]) [[.us 68 ((l1.take p ++ l1.drop (p + 1)).map Rn.enc)]] := by
      rw [e1, e2, e3, List.nil_append, ← List.map_append]; exact hM
     refine AFn.introX (E := En 0 (mdv [137] []) (cb := [3]) (ws := [13, 37, 45, 52, 61])) (en_ok 0 _ _ _ _ _ _) Tryz.func78 rfl rfl rfl fun _ _ => ?_
     refine sp0 ?_
     refine sp1 ?_
     refine sp1 ?_
     refine nd ?_
     refine Row.mk _ g1 ?_
     refine spT (by omega) fun h4 => ?_
     refine nd ?_
     refine Row.mk _ g1 ?_
     refine Need.mk (⟨by omega, by omega, by omega, lenR _⟩) ?_
     refine Need.mk (⟨(Plain.take (Plain.drop (plainR _) _) _), (len_take (len_drop (lenR _) _) _)⟩) ?_
     refine apq (A' := []) (B' := _) rfl rfl ?_
     refine nd ?_
     refine Row.mk _ g1 ?_
     refine Num.mk _ (wrapS (by omega)) ?_
     refine Need.mk (⟨by omega, by omega, by omega, lenR _⟩) ?_
     refine Need.mk (⟨(Plain.take (Plain.drop (plainR _) _) _), (len_take (len_drop (lenR _) _) _)⟩) ?_
     refine apq (A' := ([] ++ _)) (B' := _) rfl rfl ?_
     refine Need.mk (rfl) ?_
     refine nd ?_
     refine Row.mk _ g1 ?_
     refine Num.mk _ (wrapS (by omega)) ?_
     refine Need.mk (⟨by omega, by omega, by omega, lenR _⟩) ?_
     refine ACall.mk _ _ hM2 ?_
     refine sp0 ?_
     refine Need.mk (rfl) ?_
     exact ndE trivial
    ·refine AFn.introX (E := En 0 (mdv [137] []) (cb := [3]) (ws := [13, 37])) (en_ok 0 _ _ _ _ _ _) Tryz.func78 rfl rfl rfl fun _ _ => ?_
     refine sp0 ?_
     refine sp1 ?_
     refine spT (by omega) fun h3 => ?_
     refine nd ?_
     refine Row.mk _ g1 ?_
     refine spF (by omega) fun h4 => ?_
     exact ndE trivial
   ·refine AFn.introX (E := En 0 (mdv [137] []) (cb := [3]) (ws := [13, 37])) (en_ok 0 _ _ _ _ _ _) Tryz.func78 rfl rfl rfl fun _ _ => ?_
    refine sp0 ?_
    refine sp1 ?_
    refine spF (by omega) fun h3 => ?_
    exact ndE trivial
  ·refine AFn.introX (E := En 0 (mdv [137] []) (cb := [3]) (ws := [13])) (en_ok 0 _ _ _ _ _ _) Tryz.func78 rfl rfl rfl fun _ _ => ?_
   refine sqF (by omega) fun h1 => ?_
   refine sqF (by omega) fun h2 => ?_
   exact ndE trivial
theorem spec_l5Compact_ok (sq : Int) (mem : List Ent) (l0 l1 l2 : List Rn) (snaps : List Int) (hb : treeOk ⟨sq, mem, [l0, l1, l2], snaps⟩ = true) (lv pick : Int) (hc : (compactD lv pick ⟨sq, mem, [l0, l1, l2], snaps⟩).2 = true) :
  ∃ R0 R1 R2 k0 k1 k2, TellR R0 k0 ∧ TellR R1 k1 ∧ TellR R2 k2 ∧ (compactD lv pick ⟨sq, mem, [l0, l1, l2], snaps⟩).1 = ⟨sq, mem, [k0, k1, k2], snaps⟩ ∧
  ∀ x1 x2 x3, AFn Tryz.prog 78 [.agg ((encE x1 x2 x3 sq mem l0 l1 l2 snaps).map .c), av (.int .i64 lv), av (.int .i64 pick)] [] (.tup [.agg (encMx sq mem R0 R1 R2 snaps), .one (vb true)]) [] := by
 have hsm := Tre.small_ok hb
 obtain ⟨⟨_, _, a3, _, a5⟩, ⟨v0, v1, v2⟩, _, _⟩ := treeP.1 (show treeOk3 sq mem l0 l1 l2 snaps = true from hb)
 have hl0 := (levB_ok v0).1
 have hl1 := (levB_ok v1).1
 have hl2 := (levB_ok v2).1
 have g0 : ([l0, l1, l2].map encL)[(0 : Nat)]? = some (encL l0) := rfl
 have g1 : ([l0, l1, l2].map encL)[(1 : Nat)]? = some (encL l1) := rfl
 have n0 : (l0.map Rn.enc).length = l0.length := List.length_map ..
 have n1 : (l1.map Rn.enc).length = l1.length := List.length_map ..
 by_cases c0 : lv = 0 ∧ 0 < l0.length
 ·obtain ⟨rfl, h0⟩ := c0
  rw [compactD_0 h0] at hc ⊢
  have hne : l0 ≠ [] := fun e => by rw [e] at h0; simp at h0
  obtain ⟨k1, k2, k3⟩ := compact_mergeOk hb (.inl ⟨rfl, rfl, rfl⟩)
  by_cases hm : mergeOk l0 l1 l2 0 l0 snaps = true
  ·rw [if_pos hm]
   refine ⟨_, _, _, [], mergeR l0 l1 l2 0 l0 snaps, l2, tellE [], tellE _, tellO l2, rfl, fun x1 x2 x3 => ?_⟩
   have hM := spec_l5Merge0 sq mem l0 l1 l2 snaps x1 x2 x3 l0 [] hne k3 k2 (levB_ok v1).2 hl1 (levB_ok v2).2 hl2 hsm.2.2.2 hsm k1 _ _ true hm (fun _ => ⟨rfl, rfl⟩) fun h => by cases h
   obtain ⟨N, hN⟩ := exq ((mergeR l0 l1 l2 0 l0 snaps).map Rn.enc)
   rw [hN] at hM
   rw [hN]
   refine AFn.introX (E := En 0 (mdv [137] []) (cb := [3]) (ws := [13, 21])) (en_ok 0 _ _ _ _ _ _) Tryz.func78 rfl rfl rfl fun _ _ => ?_
   refine sp1 ?_
   refine nd ?_
   refine Row.mk _ g0 ?_
   refine spT (by omega) fun h2 => ?_
   refine nd ?_
   refine Row.mk _ g0 ?_
   refine ACall.mk _ _ hM ?_
   refine sp1 ?_
   refine Need.mk (rfl) ?_
   exact ndE trivial
  ·rw [if_neg hm] at hc; cases hc
 ·by_cases c1 : lv = 1 ∧ 0 ≤ pick ∧ pick < l1.length
  ·obtain ⟨rfl, hp0, hp1⟩ := c1
   obtain ⟨p, rfl⟩ : ∃ p : Nat, pick = p := ⟨pick.toNat, by omega⟩
   have hpl : p < l1.length := by omega
   rw [compactD_1 hpl] at hc ⊢
   have htk : (l1.drop p).take 1 = [l1[p]] := by rw [List.drop_eq_getElem_cons hpl]; rfl
   obtain ⟨k1, k2, k3⟩ := compact_mergeOk hb (lv := 1) (taken := [l1[p]]) (.inr ⟨rfl, rfl, p, hpl, rfl⟩)
   by_cases hm : mergeOk l0 l1 l2 1 [l1[p]] snaps = true
   ·rw [if_pos hm]
    refine ⟨_, _, _, l0, l1.take p ++ l1.drop (p + 1), mergeR l0 l1 l2 1 [l1[p]] snaps, tellO l0, tellE _, tellE _, rfl, fun x1 x2 x3 => ?_⟩
    have hM := spec_l5Merge1 sq mem l0 l1 l2 snaps x1 x2 x3 [l1[p]] (l1.take p ++ l1.drop (p + 1)) (by simp) k3 k2 (levB_ok v2).2 hl2 hsm.2.2.2 hsm k1 _ _ true hm (fun _ => ⟨rfl, rfl⟩) fun h => by cases h
    have e1 : List.take ((p : Int) - 0).toNat (List.drop (Int.toNat 0) (List.map Rn.enc l1)) = (l1.take p).map Rn.enc := by
     rw [show ((p : Int) - 0).toNat = p by omega, List.map_take]; rfl
    have e2 : List.take (↑(List.map Rn.enc l1).length - ((p + 1 : Nat) : Int)).toNat (List.drop (p + 1) (List.map Rn.enc l1)) = (l1.drop (p + 1)).map Rn.enc := by
     rw [n1, List.map_drop, List.take_of_length_le (by rw [List.length_drop, List.length_map]; omega)]
    have e3 : List.take ((((p + 1 : Nat) : Int) - (p : Int)).toNat) (List.drop (Int.toNat (p : Int)) (List.map Rn.enc l1)) = [l1[p]].map Rn.enc := by
     rw [show (((p + 1 : Nat) : Int) - (p : Int)).toNat = 1 by omega, ← htk, List.map_take, List.map_drop]; rfl
    obtain ⟨N, hN⟩ := exq ((mergeR l0 l1 l2 1 [l1[p]] snaps).map Rn.enc)
    obtain ⟨W, hW⟩ := exq ((l1.take p ++ l1.drop (p + 1)).map Rn.enc)
    rw [hN, hW] at hM
    rw [hN, hW]
    have hM2 : AFn Tryz.prog 137 [.agg ((encE x1 x2 x3 sq mem l0 l1 l2 snaps).map .c), av (.int .i64 1), sl (List.take ((((p + 1 : Nat) : Int) - (p : Int)).toNat) (List.drop (Int.toNat (p : Int)) (List.map Rn.enc l1))), .one (.ref 0 0 (.cell 0))] [[.us 68 (([] ++ List.take ((p : Int) - 0).toNat (List.drop (Int.toNat 0) (List.map Rn.enc l1))) ++ List.take (↑(List.map Rn.enc l1).length - ((p + 1 : Nat) : Int)).toNat (List.drop (p + 1) (List.map Rn.enc l1)))]] (.tup [.agg [vi sq, .us 54 (mem.map Ent.enc), .us 66 [encLO l0, [.us 68 W], [.us 68 N]], .us 3 (snaps.map encI)], .one (vb true)]) [[.x]] := by
     rw [e1, e2, e3, List.nil_append, ← List.map_append, hW]; exact hM
    refine AFn.introX (E := En 0 (mdv [137] []) (cb := [3]) (ws := [13, 37, 45, 52, 61])) (en_ok 0 _ _ _ _ _ _) Tryz.func78 rfl rfl rfl fun _ _ => ?_
    refine sp0 ?_
    refine sp1 ?_
    refine sp1 ?_
    refine nd ?_
    refine Row.mk _ g1 ?_
    refine spT (by omega) fun h4 => ?_
    refine nd ?_
    refine Row.mk _ g1 ?_
    refine Need.mk (⟨by omega, by omega, by omega, lenR _⟩) ?_
    refine Need.mk (⟨(Plain.take (Plain.drop (plainR _) _) _), (len_take (len_drop (lenR _) _) _)⟩) ?_
    refine apq (A' := []) (B' := _) rfl rfl ?_
    refine nd ?_
    refine Row.mk _ g1 ?_
    refine Num.mk _ (wrapS (by omega)) ?_
    refine Need.mk (⟨by omega, by omega, by omega, lenR _⟩) ?_
    refine Need.mk (⟨(Plain.take (Plain.drop (plainR _) _) _), (len_take (len_drop (lenR _) _) _)⟩) ?_
    refine apq (A' := ([] ++ _)) (B' := _) rfl rfl ?_
    refine Need.mk (rfl) ?_
    refine nd ?_
    refine Row.mk _ g1 ?_
    refine Num.mk _ (wrapS (by omega)) ?_
    refine Need.mk (⟨by omega, by omega, by omega, lenR _⟩) ?_
    refine ACall.mk _ _ hM2 ?_
    refine sp1 ?_
    refine Need.mk (rfl) ?_
    exact ndE trivial
   ·rw [if_neg hm] at hc; cases hc
  ·rw [compactD_n c0 c1] at hc; cases hc
theorem impl_treeCompact0 (sq : Int) (mem : List Ent) (l0 l1 l2 : List Rn) (snaps : List Int) (hb : treeOk ⟨sq, mem, [l0, l1, l2], snaps⟩ = true) (pick : Int) (h0 : 0 < l0.length) (o : List C) (c : Bool) (hc : mergeOk l0 l1 l2 0 l0 snaps = c)
  (hy : c = true → o = encF sq mem [] (mergeR l0 l1 l2 0 l0 snaps) l2 snaps) (hn : c = false → o = encF sq mem l0 l1 l2 snaps) :
  AFn Tryz.prog 80 [.agg ((encF sq mem l0 l1 l2 snaps).map .c), av (.int .i64 0), av (.int .i64 pick)] [] (.tup [.agg o, .one (vb c)]) [] := by
 obtain ⟨⟨_, _, a3, _, a5⟩, ⟨v0, v1, v2⟩, _, _⟩ := treeP.1 (show treeOk3 sq mem l0 l1 l2 snaps = true from hb)
 have hsn := (snaps_iff.1 a5).1
 have hl0 := (levB_ok v0).1
 have hl1 := (levB_ok v1).1
 have hl2 := (levB_ok v2).1
 have r1 := (levB_ok v1).2
 have r2 := (levB_ok v2).2
 have ap1 := levB_ap v1
 have ap2 := levB_ap v2
 obtain ⟨k1, k2, k3⟩ := compact_mergeOk hb (.inl ⟨rfl, rfl, rfl⟩)
 have hTk := impl_takeRuns0 l0 pick (by omega)
 rw [decide_eq_true h0] at hTk
 have hne : l0 ≠ [] := fun e => by rw [e] at h0; simp at h0
 have hRg : AFn Tryz.prog 139 [sl (l0.map Rn.enc)] [] (.tup [.one (vs (lowR l0)), .one (vs (highR l0))]) [] := by
  skip
  cases hT : l0 with
  | nil => exact absurd hT hne
  | cons x xs => rw [hT] at k2 k3; exact impl_rangeOf x xs (by rw [List.length_cons] at k3; omega) (run_lens k2)
 have hIr : ∀ r ∈ inL l1 (lowR l0) (highR l0), runOk r = true := fun r hr => r1 r (List.filter_sublist.subset hr)
 have hIl : (inL l1 (lowR l0) (highR l0)).length ≤ 8 := Nat.le_trans (List.length_filter_le _ _) hl1
 have hcz : mergeOk l0 l1 l2 0 l0 snaps = (cutOk (mergeL l0 l1 l2 0 l0 snaps) && decide ((mergeR l0 l1 l2 0 l0 snaps).length ≤ 8)) := rfl
 have hRz : mergeR l0 l1 l2 0 l0 snaps = orderL (offL l1 (lowR l0) (highR l0)) (cutL (mergeL l0 l1 l2 0 l0 snaps)) := rfl
 have hLz : mergeL l0 l1 l2 0 l0 snaps = squash (isort eLess (entsR (l0 ++ inL l1 (lowR l0) (highR l0)))) snaps (decide ((0 : Nat) = 1) || (inL l2 (lowR (l0 ++ inL l1 (lowR l0) (highR l0))) (highR (l0 ++ inL l1 (lowR l0) (highR l0)))).isEmpty) := rfl
 rw [hc] at hcz
 have hms := meet_split (low := lowR l0) (high := highR l0) r1 ap1
 have hfl := from_le (low := lowR l0) (high := highR l0) r1 ap1
 have hMA0 := fun z ho hcu hzk => (merge_apart (taken := l0) (z := z) r1 ap1 k2 hne ho hcu hzk).2.2
 have hdif := (merged_of (snaps := snaps) (bottom := true) r1 ap1 k2 (layersP.1 (treeP.1 (show treeOk3 sq mem l0 l1 l2 snaps = true from hb)).2.2.2).1.2.2 (layersP.1 (treeP.1 (show treeOk3 sq mem l0 l1 l2 snaps = true from hb)).2.2.2).2.2.2.2.1).dif
 obtain ⟨kf, hkf⟩ := exq (fromI l1 (lowR l0))
 obtain ⟨kt, hkt⟩ := exq (toI l1 (highR l0))
 have hMt := impl_meeting l1 (lowR l0) (highR l0) (by omega) r1 ap1 kf kt _ hkf hkt rfl
 rw [hkf, hkt] at hms hfl hMA0
 obtain ⟨kb, hkb⟩ := exq (max kf kt)
 rw [hkb] at hMt hms hfl hMA0
 obtain ⟨q, hq⟩ := exq (inL l1 (lowR l0) (highR l0))
 rw [hq] at hIr hIl k1 hLz hms hdif
 have hqn : q.length = kb - kf := by rw [hms.1, List.length_drop, List.length_take]; omega
 have hoff := hms.2
 rw [hoff] at hRz hMA0
 have hE1 : List.take (((kb : Nat) : Int) - ((kf : Nat) : Int)).toNat (List.drop (Int.toNat ((kf : Nat) : Int)) (List.map Rn.enc l1)) = q.map Rn.enc := by
  rw [show (((kb : Nat) : Int) - ((kf : Nat) : Int)).toNat = kb - kf by omega, Int.toNat_natCast, hms.1, List.map_drop, List.map_take, List.drop_take]
 have hE2 : List.take (((kf : Nat) : Int) - 0).toNat (List.drop (Int.toNat 0) (List.map Rn.enc l1)) = (l1.take kf).map Rn.enc := by
  rw [show (((kf : Nat) : Int) - 0).toNat = kf by omega, List.map_take]; rfl
 have hln : (l1.map Rn.enc).length = l1.length := List.length_map ..
 have hE3 : List.take (((l1.map Rn.enc).length : Nat) - ((kb : Nat) : Int)).toNat (List.drop (Int.toNat ((kb : Nat) : Int)) (List.map Rn.enc l1)) = (l1.drop kb).map Rn.enc := by
  rw [hln, Int.toNat_natCast, List.map_drop, List.take_of_length_le (by rw [List.length_drop, List.length_map]; omega)]
 have hfX : Frz (.us 66 [[.sl (l0.map Rn.enc)], [.sl (List.take (((kb : Nat) : Int) - ((kf : Nat) : Int)).toNat (List.drop (Int.toNat ((kf : Nat) : Int)) (List.map Rn.enc l1)))]]) (.sl ([l0, q].map encL)) := by
  rw [hE1]; exact FrzLL.frz (.cons (.cons .sl .nil) (.cons (.cons .sl .nil) .nil))
 have hK := slices_ConcatR [l0, q] (by simp) (by simp; omega) (by simp; omega)
 rw [show [l0, q].flatten = l0 ++ q by simp] at hK
 have hall : ∀ r ∈ l0 ++ q, runOk r = true := fun r hr => (List.mem_append.1 hr).elim (k2 r) (hIr r)
 have hallne : l0 ++ q ≠ [] := fun h => hne (List.append_eq_nil_iff.1 h).1
 have halll : (l0 ++ q).length ≤ 16 := by rw [List.length_append]; omega
 obtain ⟨a, hae⟩ := exq (l0 ++ q)
 rw [hae] at hall hallne halll k1 hLz hK hdif
 have hEn := impl_entsOf a (by omega)
 have hMl : ((a.map Rn.ents).flatten).length ≤ 1048576 := by
  have := flat_le (b := 150) (L := a.map Rn.ents) fun l hl => by obtain ⟨r, hr, rfl⟩ := List.mem_map.1 hl; exact (runOk_len (hall r hr)).2.1
  rw [List.length_map] at this
  have h3 : a.length * 150 ≤ 16 * 150 := Nat.mul_le_mul_right _ halll
  omega
 have hMA := impl_MergeAll (a.map Rn.ents) hMl (by rw [List.length_map]; omega)
 have hfL : Frz (.us 29 (a.map encLs)) (.sl ((a.map Rn.ents).map encX)) := by
  rw [List.map_map]
  exact frz_map fun r _ => .cons .sl .nil
 have hml : (isort eLess (a.map Rn.ents).flatten).length ≤ 2400 := by
  rw [isort_len]
  have := flat_le (b := 150) (L := a.map Rn.ents) fun l hl => by obtain ⟨r, hr, rfl⟩ := List.mem_map.1 hl; exact (runOk_len (hall r hr)).2.1
  rw [List.length_map] at this
  have h3 : a.length * 150 ≤ 16 * 150 := Nat.mul_le_mul_right _ halll
  omega
 have hmpos : 0 < (isort eLess (a.map Rn.ents).flatten).length := by
  rw [isort_len]
  cases a with
  | nil => exact absurd rfl hallne
  | cons x xs => rw [List.map_cons, List.flatten_cons, List.length_append]; have := (runOk_len (hall x (List.mem_cons_self ..))).1; omega
 have hmp := isort_perm eLess (a.map Rn.ents).flatten
 have hmw := dif_pw (show (a.map Rn.ents).flatten.Pairwise Dif from hdif)
 obtain ⟨m, hm⟩ := exq (isort eLess (a.map Rn.ents).flatten)
 have hm' : isort eLess (entsR a) = m := hm
 rw [hm'] at k1 hLz
 rw [hm] at hMA hml hmpos hmp hmw
 have hmlow := lowR_head hall hallne hmp hmw hmpos
 have hmhigh := highR_last hall hallne hmp hmw hmpos
 have hmn : (m.map Ent.enc).length = m.length := List.length_map ..
 have gm0 : (m.map Ent.enc)[(0 : Nat)]? = some (m[0]).enc := map_get Ent.enc m 0 hmpos
 have gm1 : (m.map Ent.enc)[m.length - 1]? = some (m[m.length - 1]'(by omega)).enc := map_get Ent.enc m (m.length - 1) (by omega)
 have hsubm : IntKind.i64.wrap ((((m.map Ent.enc).length : Nat) : Int) - 1) = ((m.length - 1 : Nat) : Int) := by rw [hmn]; exact wrapI' (by omega) (by omega)
 have hme := meet_empty (low := lowR a) (high := highR a) r2 ap2
 rw [← hmlow, ← hmhigh] at hme
 obtain ⟨jf, hjf⟩ := exq (fromI l2 m[0].key)
 obtain ⟨jt, hjt⟩ := exq (max (fromI l2 m[0].key) (toI l2 (m[m.length - 1]'(by omega)).key))
 have hMt2 := impl_meeting l2 m[0].key (m[m.length - 1]'(by omega)).key (by omega) r2 ap2 _ _ _ hjf rfl (by rw [← hjt, ← hjf])
 rw [hjt, hjf] at hme
 obtain ⟨b, hb0⟩ := exq ((((jf : Nat) : Int) == ((jt : Nat) : Int)))
 have hb1 : decide (jf = jt) = b := by rw [← hb0, Bool.eq_iff_iff, decide_eq_true_eq, beq_iff_eq]; omega
 have hLz : mergeL l0 l1 l2 0 l0 snaps = squash m snaps b := by
  rw [hLz, ← hmlow, ← hmhigh, hme, hb1]; rfl
 have hSq := impl_Squash m snaps (by omega) (by omega) (ordOk_OkE k1) b
 rw [show squashed m snaps b = squash m snaps b from if_pos k1] at hSq
 have hzo := squash_ok (snaps := snaps) (last := b) k1
 have hzn := squash_len (l := m) (snaps := snaps) (last := b)
 have hlike : ∀ e ∈ squash m snaps b, ∃ e' ∈ entsR (l0 ++ inL l1 (lowR l0) (highR l0)), e.key = e'.key := fun e he => by
  obtain ⟨e', h1, h2⟩ := squash_mem he
  exact ⟨e', by rw [hq, hae]; exact hmp.mem_iff.1 h1, h2.2⟩
 rw [hLz] at hcz hRz
 obtain ⟨z, hz⟩ := exq (squash m snaps b)
 rw [hz] at hSq hzo hzn hcz hRz hlike
 have hw1 : IntKind.i64.wrap (((kb : Nat) : Int) - ((kf : Nat) : Int)) = ((kb - kf : Nat) : Int) := wrapI' (by omega) (by omega)
 have hw2 : IntKind.i64.wrap ((((l1.map Rn.enc).length : Nat) : Int) - ((kb - kf : Nat) : Int)) = ((l1.length - (kb - kf) : Nat) : Int) := by rw [hln]; exact wrapI' (by omega) (by omega)
 have hcl : (cutL z).length ≤ z.length := cutL_le z
 by_cases hcu : cutOk z = true
 ·have hCt := impl_cutRuns z (by omega) hzo _ true hcu (fun _ => rfl) fun h => by cases h
  have hcn : ((cutL z).map Rn.enc).length = (cutL z).length := List.length_map ..
  have hRe := hMA0 z hzo hcu hlike
  rw [hRe] at hRz
  have hRl : (mergeR l0 l1 l2 0 l0 snaps).length = l1.length - (kb - kf) + (cutL z).length := by rw [hRz, List.length_append, List.length_append, List.length_take, List.length_drop]; omega
  rw [hcu, Bool.true_and] at hcz
  have hw3 : IntKind.i64.wrap (((l1.length - (kb - kf) : Nat) : Int) + ((((cutL z).map Rn.enc).length : Nat) : Int)) = ((l1.length - (kb - kf) + (cutL z).length : Nat) : Int) := by rw [hcn]; exact wrapI' (by omega) (by omega)
  have hK2 := slices_ConcatR [l1.take kf, cutL z, l1.drop kb] (by simp) (by simp [List.length_take, List.length_drop]; omega) (by simp [List.length_take, List.length_drop]; omega)
  rw [show [l1.take kf, cutL z, l1.drop kb].flatten = mergeR l0 l1 l2 0 l0 snaps by rw [hRz]; simp] at hK2
  have hfY : Frz (.us 66 [[.sl (List.take (((kf : Nat) : Int) - 0).toNat (List.drop (Int.toNat 0) (List.map Rn.enc l1)))], [.us 68 ((cutL z).map Rn.enc)], [.sl (List.take (((l1.map Rn.enc).length : Nat) - ((kb : Nat) : Int)).toNat (List.drop (Int.toNat ((kb : Nat) : Int)) (List.map Rn.enc l1)))]]) (.sl ([l1.take kf, cutL z, l1.drop kb].map encL)) := by
   rw [hE2, hE3]; exact FrzLL.frz (.cons (.cons .sl .nil) (.cons (.cons (frzRs _) .nil) (.cons (.cons .sl .nil) .nil)))
  obtain ⟨N, hN⟩ := exq (mergeR l0 l1 l2 0 l0 snaps)
  rw [hN] at hK2 hRl hcz hy
  have hLv := impl_levels [] N l2
  by_cases h8 : N.length ≤ 8
  ·have hct : c = true := by rw [hcz]; exact decide_eq_true h8
   rw [hy hct, hct]
   cases b
   ·have hj := of_decide_eq_false hb1
    refine AFn.introX (E := En 0 (mdv [] [135, 141, 142]) (cb := [3]) (fb := [6, 8, 22])) (en_ok 0 _ _ _ _ _) Tryz.func80 rfl rfl rfl fun _ _ => ?_
    refine sp0 ?_
    refine sp0 ?_
    refine ACall.mk _ _ (impl_shelvesOf _ _ _) ?_
    refine nd ?_
    refine ACall.mk _ _ hTk ?_
    refine Num.mk _ (wrapI (by omega) (by omega)) ?_
    refine nd ?_
    refine ACall.mk _ _ hRg ?_
    refine ACall.mk _ _ hMt ?_
    refine Need.mk (⟨by omega, by omega, by omega, lenR _⟩) ?_
    refine Fz.mk _ hfX ?_
    refine ACall.mk _ _ hK ?_
    refine Fz.mk _ (frzRs _) ?_
    refine ACall.mk _ _ hEn ?_
    refine Fz.mk _ hfL ?_
    refine ACall.mk _ _ hMA ?_
    refine Need.mk (⟨ClL.mem (.us (clE _) .nil), no_objs⟩) ?_
    refine Num.mk _ (wrapI (by omega) (by omega)) ?_
    refine sp0 ?_
    refine nd ?_
    refine nd ?_
    refine Row.mk _ gm0 ?_
    refine Num.mk _ hsubm ?_
    refine nd ?_
    refine Row.mk _ gm1 ?_
    refine ACall.mk _ _ hMt2 ?_
    refine Need.mk (rfl) ?_
    refine sqF (by omega) fun h4 => ?_
    refine Fz.mk _ (frzE _) ?_
    refine ACall.mk _ _ hSq ?_
    refine Need.mk (⟨ClL.mem (.us (clE _) .nil), no_objs⟩) ?_
    refine Fz.mk _ (frzE _) ?_
    refine ACall.mk _ _ hCt ?_
    refine sp1 ?_
    refine Num.mk _ hw1 ?_
    refine Num.mk _ hw2 ?_
    refine Num.mk _ hw3 ?_
    refine spF (by omega) fun h6 => ?_
    refine nd ?_
    refine Num.mk _ (wrapI (by omega) (by omega)) ?_
    refine Need.mk (⟨by omega, by omega, by omega, lenR _⟩) ?_
    refine Need.mk (⟨by omega, by omega, by omega, lenR _⟩) ?_
    refine Fz.mk _ hfY ?_
    refine ACall.mk _ _ hK2 ?_
    refine nd ?_
    refine Fz.mk _ (frzRs _) ?_
    refine Need.mk (rfl) ?_
    refine ACall.mk _ _ hLv ?_
    refine Fz.mk _ (frzLs _) ?_
    exact ndE trivial
   ·have hj := of_decide_eq_true hb1
    refine AFn.introX (E := En 0 (mdv [] [135, 141, 142]) (cb := [3]) (fb := [6, 8, 22])) (en_ok 0 _ _ _ _ _) Tryz.func80 rfl rfl rfl fun _ _ => ?_
    refine sp0 ?_
    refine sp0 ?_
    refine ACall.mk _ _ (impl_shelvesOf _ _ _) ?_
    refine nd ?_
    refine ACall.mk _ _ hTk ?_
    refine Num.mk _ (wrapI (by omega) (by omega)) ?_
    refine nd ?_
    refine ACall.mk _ _ hRg ?_
    refine ACall.mk _ _ hMt ?_
    refine Need.mk (⟨by omega, by omega, by omega, lenR _⟩) ?_
    refine Fz.mk _ hfX ?_
    refine ACall.mk _ _ hK ?_
    refine Fz.mk _ (frzRs _) ?_
    refine ACall.mk _ _ hEn ?_
    refine Fz.mk _ hfL ?_
    refine ACall.mk _ _ hMA ?_
    refine Need.mk (⟨ClL.mem (.us (clE _) .nil), no_objs⟩) ?_
    refine Num.mk _ (wrapI (by omega) (by omega)) ?_
    refine sp0 ?_
    refine nd ?_
    refine nd ?_
    refine Row.mk _ gm0 ?_
    refine Num.mk _ hsubm ?_
    refine nd ?_
    refine Row.mk _ gm1 ?_
    refine ACall.mk _ _ hMt2 ?_
    refine Need.mk (rfl) ?_
    refine sqT (by omega) fun h4 => ?_
    refine Fz.mk _ (frzE _) ?_
    refine ACall.mk _ _ hSq ?_
    refine Need.mk (⟨ClL.mem (.us (clE _) .nil), no_objs⟩) ?_
    refine Fz.mk _ (frzE _) ?_
    refine ACall.mk _ _ hCt ?_
    refine sp1 ?_
    refine Num.mk _ hw1 ?_
    refine Num.mk _ hw2 ?_
    refine Num.mk _ hw3 ?_
    refine spF (by omega) fun h6 => ?_
    refine nd ?_
    refine Num.mk _ (wrapI (by omega) (by omega)) ?_
    refine Need.mk (⟨by omega, by omega, by omega, lenR _⟩) ?_
    refine Need.mk (⟨by omega, by omega, by omega, lenR _⟩) ?_
    refine Fz.mk _ hfY ?_
    refine ACall.mk _ _ hK2 ?_
    refine nd ?_
    refine Fz.mk _ (frzRs _) ?_
    refine Need.mk (rfl) ?_
    refine ACall.mk _ _ hLv ?_
    refine Fz.mk _ (frzLs _) ?_
    exact ndE trivial
  ·have hct : c = false := by rw [hcz]; exact decide_eq_false h8
   rw [hn hct, hct]
   cases b
   ·have hj := of_decide_eq_false hb1
    refine AFn.introX (E := En 0 (mdv [] [135, 141, 142]) (cb := [3]) (fb := [6, 8, 22])) (en_ok 0 _ _ _ _ _) Tryz.func80 rfl rfl rfl fun _ _ => ?_
    refine sp0 ?_
    refine sp0 ?_
    refine ACall.mk _ _ (impl_shelvesOf _ _ _) ?_
    refine nd ?_
    refine ACall.mk _ _ hTk ?_
    refine Num.mk _ (wrapI (by omega) (by omega)) ?_
    refine nd ?_
    refine ACall.mk _ _ hRg ?_
    refine ACall.mk _ _ hMt ?_
    refine Need.mk (⟨by omega, by omega, by omega, lenR _⟩) ?_
    refine Fz.mk _ hfX ?_
    refine ACall.mk _ _ hK ?_
    refine Fz.mk _ (frzRs _) ?_
    refine ACall.mk _ _ hEn ?_
    refine Fz.mk _ hfL ?_
    refine ACall.mk _ _ hMA ?_
    refine Need.mk (⟨ClL.mem (.us (clE _) .nil), no_objs⟩) ?_
    refine Num.mk _ (wrapI (by omega) (by omega)) ?_
    refine sp0 ?_
    refine nd ?_
    refine nd ?_
    refine Row.mk _ gm0 ?_
    refine Num.mk _ hsubm ?_
    refine nd ?_
    refine Row.mk _ gm1 ?_
    refine ACall.mk _ _ hMt2 ?_
    refine Need.mk (rfl) ?_
    refine sqF (by omega) fun h4 => ?_
    refine Fz.mk _ (frzE _) ?_
    refine ACall.mk _ _ hSq ?_
    refine Need.mk (⟨ClL.mem (.us (clE _) .nil), no_objs⟩) ?_
    refine Fz.mk _ (frzE _) ?_
    refine ACall.mk _ _ hCt ?_
    refine sp1 ?_
    refine Num.mk _ hw1 ?_
    refine Num.mk _ hw2 ?_
    refine Num.mk _ hw3 ?_
    refine spT (by omega) fun h6 => ?_
    exact ndE trivial
   ·have hj := of_decide_eq_true hb1
    refine AFn.introX (E := En 0 (mdv [] [135, 141, 142]) (cb := [3]) (fb := [6, 8, 22])) (en_ok 0 _ _ _ _ _) Tryz.func80 rfl rfl rfl fun _ _ => ?_
    refine sp0 ?_
    refine sp0 ?_
    refine ACall.mk _ _ (impl_shelvesOf _ _ _) ?_
    refine nd ?_
    refine ACall.mk _ _ hTk ?_
    refine Num.mk _ (wrapI (by omega) (by omega)) ?_
    refine nd ?_
    refine ACall.mk _ _ hRg ?_
    refine ACall.mk _ _ hMt ?_
    refine Need.mk (⟨by omega, by omega, by omega, lenR _⟩) ?_
    refine Fz.mk _ hfX ?_
    refine ACall.mk _ _ hK ?_
    refine Fz.mk _ (frzRs _) ?_
    refine ACall.mk _ _ hEn ?_
    refine Fz.mk _ hfL ?_
    refine ACall.mk _ _ hMA ?_
    refine Need.mk (⟨ClL.mem (.us (clE _) .nil), no_objs⟩) ?_
    refine Num.mk _ (wrapI (by omega) (by omega)) ?_
    refine sp0 ?_
    refine nd ?_
    refine nd ?_
    refine Row.mk _ gm0 ?_
    refine Num.mk _ hsubm ?_
    refine nd ?_
    refine Row.mk _ gm1 ?_
    refine ACall.mk _ _ hMt2 ?_
    refine Need.mk (rfl) ?_
    refine sqT (by omega) fun h4 => ?_
    refine Fz.mk _ (frzE _) ?_
    refine ACall.mk _ _ hSq ?_
    refine Need.mk (⟨ClL.mem (.us (clE _) .nil), no_objs⟩) ?_
    refine Fz.mk _ (frzE _) ?_
    refine ACall.mk _ _ hCt ?_
    refine sp1 ?_
    refine Num.mk _ hw1 ?_
    refine Num.mk _ hw2 ?_
    refine Num.mk _ hw3 ?_
    refine spT (by omega) fun h6 => ?_
    exact ndE trivial
 ·have hcu := Bool.eq_false_iff.2 hcu
  have hCt := impl_cutRuns z (by omega) hzo _ false hcu (fun h => by cases h) fun _ => rfl
  have hct : c = false := by rw [hcz, hcu]; rfl
  rw [hn hct, hct]
  cases b
  ·have hj := of_decide_eq_false hb1
   refine AFn.introX (E := En 0 (mdv [] [135, 141, 142]) (cb := [3]) (fb := [6, 8, 22])) (en_ok 0 _ _ _ _ _) Tryz.func80 rfl rfl rfl fun _ _ => ?_
   refine sp0 ?_
   refine sp0 ?_
   refine ACall.mk _ _ (impl_shelvesOf _ _ _) ?_
   refine nd ?_
   refine ACall.mk _ _ hTk ?_
   refine Num.mk _ (wrapI (by omega) (by omega)) ?_
   refine nd ?_
   refine ACall.mk _ _ hRg ?_
   refine ACall.mk _ _ hMt ?_
   refine Need.mk (⟨by omega, by omega, by omega, lenR _⟩) ?_
   refine Fz.mk _ hfX ?_
   refine ACall.mk _ _ hK ?_
   refine Fz.mk _ (frzRs _) ?_
   refine ACall.mk _ _ hEn ?_
   refine Fz.mk _ hfL ?_
   refine ACall.mk _ _ hMA ?_
   refine Need.mk (⟨ClL.mem (.us (clE _) .nil), no_objs⟩) ?_
   refine Num.mk _ (wrapI (by omega) (by omega)) ?_
   refine sp0 ?_
   refine nd ?_
   refine nd ?_
   refine Row.mk _ gm0 ?_
   refine Num.mk _ hsubm ?_
   refine nd ?_
   refine Row.mk _ gm1 ?_
   refine ACall.mk _ _ hMt2 ?_
   refine Need.mk (rfl) ?_
   refine sqF (by omega) fun h4 => ?_
   refine Fz.mk _ (frzE _) ?_
   refine ACall.mk _ _ hSq ?_
   refine Need.mk (⟨ClL.mem (.us (clE _) .nil), no_objs⟩) ?_
   refine Fz.mk _ (frzE _) ?_
   refine ACall.mk _ _ hCt ?_
   refine sp0 ?_
   exact ndE trivial
  ·have hj := of_decide_eq_true hb1
   refine AFn.introX (E := En 0 (mdv [] [135, 141, 142]) (cb := [3]) (fb := [6, 8, 22])) (en_ok 0 _ _ _ _ _) Tryz.func80 rfl rfl rfl fun _ _ => ?_
   refine sp0 ?_
   refine sp0 ?_
   refine ACall.mk _ _ (impl_shelvesOf _ _ _) ?_
   refine nd ?_
   refine ACall.mk _ _ hTk ?_
   refine Num.mk _ (wrapI (by omega) (by omega)) ?_
   refine nd ?_
   refine ACall.mk _ _ hRg ?_
   refine ACall.mk _ _ hMt ?_
   refine Need.mk (⟨by omega, by omega, by omega, lenR _⟩) ?_
   refine Fz.mk _ hfX ?_
   refine ACall.mk _ _ hK ?_
   refine Fz.mk _ (frzRs _) ?_
   refine ACall.mk _ _ hEn ?_
   refine Fz.mk _ hfL ?_
   refine ACall.mk _ _ hMA ?_
   refine Need.mk (⟨ClL.mem (.us (clE _) .nil), no_objs⟩) ?_
   refine Num.mk _ (wrapI (by omega) (by omega)) ?_
   refine sp0 ?_
   refine nd ?_
   refine nd ?_
   refine Row.mk _ gm0 ?_
   refine Num.mk _ hsubm ?_
   refine nd ?_
   refine Row.mk _ gm1 ?_
   refine ACall.mk _ _ hMt2 ?_
   refine Need.mk (rfl) ?_
   refine sqT (by omega) fun h4 => ?_
   refine Fz.mk _ (frzE _) ?_
   refine ACall.mk _ _ hSq ?_
   refine Need.mk (⟨ClL.mem (.us (clE _) .nil), no_objs⟩) ?_
   refine Fz.mk _ (frzE _) ?_
   refine ACall.mk _ _ hCt ?_
   refine sp0 ?_
   exact ndE trivial
theorem impl_treeCompact1 (sq : Int) (mem : List Ent) (l0 l1 l2 : List Rn) (snaps : List Int) (hb : treeOk ⟨sq, mem, [l0, l1, l2], snaps⟩ = true) (p : Nat) (hpl : p < l1.length) (o : List C) (c : Bool) (hc : mergeOk l0 l1 l2 1 [l1[p]] snaps = c)
  (hy : c = true → o = encF sq mem l0 (l1.take p ++ l1.drop (p + 1)) (mergeR l0 l1 l2 1 [l1[p]] snaps) snaps) (hn : c = false → o = encF sq mem l0 l1 l2 snaps) :
  AFn Tryz.prog 80 [.agg ((encF sq mem l0 l1 l2 snaps).map .c), av (.int .i64 1), av (.int .i64 p)] [] (.tup [.agg o, .one (vb c)]) [] := by
 obtain ⟨⟨_, _, a3, _, a5⟩, ⟨v0, v1, v2⟩, _, _⟩ := treeP.1 (show treeOk3 sq mem l0 l1 l2 snaps = true from hb)
 have hsn := (snaps_iff.1 a5).1
 have hl0 := (levB_ok v0).1
 have hl1 := (levB_ok v1).1
 have hl2 := (levB_ok v2).1
 have r1 := (levB_ok v1).2
 have r2 := (levB_ok v2).2
 have ap1 := levB_ap v1
 have ap2 := levB_ap v2
 have htk : (l1.drop p).take 1 = [l1[p]] := by rw [List.drop_eq_getElem_cons hpl]; rfl
 obtain ⟨k1, k2, k3⟩ := compact_mergeOk hb (lv := 1) (taken := [l1[p]]) (.inr ⟨rfl, rfl, p, hpl, rfl⟩)
 have hTk := impl_takeRunsY l1 1 p (by decide) hpl (by omega)
 have hlay := layersP.1 (treeP.1 (show treeOk3 sq mem l0 l1 l2 snaps = true from hb)).2.2.2
 have hpm : l1[p] ∈ l1 := List.getElem_mem hpl
 have hAb : Above (entsR l2) (entsR [l1[p]]) := fun x hx y hy hk => hlay.2.1 x (by
  obtain ⟨r, hr, her⟩ := entsR_mem.1 hx
  rw [List.mem_singleton.1 hr] at her
  exact entsR_mem.2 ⟨_, hpm, her⟩) y hy hk
 rw [htk] at hTk
 have hne : [l1[p]] ≠ [] := by simp
 have hRg : AFn Tryz.prog 139 [sl ([l1[p]].map Rn.enc)] [] (.tup [.one (vs (lowR [l1[p]])), .one (vs (highR [l1[p]]))]) [] := by
  skip
  cases hT : [l1[p]] with
  | nil => exact absurd hT hne
  | cons x xs => rw [hT] at k2 k3; exact impl_rangeOf x xs (by rw [List.length_cons] at k3; omega) (run_lens k2)
 have hIr : ∀ r ∈ inL l2 (lowR [l1[p]]) (highR [l1[p]]), runOk r = true := fun r hr => r2 r (List.filter_sublist.subset hr)
 have hIl : (inL l2 (lowR [l1[p]]) (highR [l1[p]])).length ≤ 8 := Nat.le_trans (List.length_filter_le _ _) hl2
 have hcz : mergeOk l0 l1 l2 1 [l1[p]] snaps = (cutOk (mergeL l0 l1 l2 1 [l1[p]] snaps) && decide ((mergeR l0 l1 l2 1 [l1[p]] snaps).length ≤ 8)) := rfl
 have hRz : mergeR l0 l1 l2 1 [l1[p]] snaps = orderL (offL l2 (lowR [l1[p]]) (highR [l1[p]])) (cutL (mergeL l0 l1 l2 1 [l1[p]] snaps)) := rfl
 have hLz : mergeL l0 l1 l2 1 [l1[p]] snaps = squash (isort eLess (entsR ([l1[p]] ++ inL l2 (lowR [l1[p]]) (highR [l1[p]])))) snaps (decide ((1 : Nat) = 1) || (inL l2 (lowR ([l1[p]] ++ inL l2 (lowR [l1[p]]) (highR [l1[p]]))) (highR ([l1[p]] ++ inL l2 (lowR [l1[p]]) (highR [l1[p]])))).isEmpty) := rfl
 rw [hc] at hcz
 have hms := meet_split (low := lowR [l1[p]]) (high := highR [l1[p]]) r2 ap2
 have hfl := from_le (low := lowR [l1[p]]) (high := highR [l1[p]]) r2 ap2
 have hMA0 := fun (z : List Ent) (ho : ordOk z = true) (hcu : cutOk z = true) (hzk : ∀ e ∈ z, ∃ e' ∈ entsR ([l1[p]] ++ inL l2 (lowR [l1[p]]) (highR [l1[p]])), e.key = e'.key) => (merge_apart (taken := [l1[p]]) (z := z) r2 ap2 k2 hne ho hcu hzk).2.2
 have hdif := (merged_of (snaps := snaps) (bottom := true) r2 ap2 k2 (by simp) hAb).dif
 obtain ⟨kf, hkf⟩ := exq (fromI l2 (lowR [l1[p]]))
 obtain ⟨kt, hkt⟩ := exq (toI l2 (highR [l1[p]]))
 have hMt := impl_meeting l2 (lowR [l1[p]]) (highR [l1[p]]) (by omega) r2 ap2 kf kt _ hkf hkt rfl
 rw [hkf, hkt] at hms hfl hMA0
 obtain ⟨kb, hkb⟩ := exq (max kf kt)
 rw [hkb] at hMt hms hfl hMA0
 obtain ⟨q, hq⟩ := exq (inL l2 (lowR [l1[p]]) (highR [l1[p]]))
 rw [hq] at hIr hIl k1 hLz hms hdif
 have hqn : q.length = kb - kf := by rw [hms.1, List.length_drop, List.length_take]; omega
 have hoff := hms.2
 rw [hoff] at hRz hMA0
 have hE1 : List.take (((kb : Nat) : Int) - ((kf : Nat) : Int)).toNat (List.drop (Int.toNat ((kf : Nat) : Int)) (List.map Rn.enc l2)) = q.map Rn.enc := by
  rw [show (((kb : Nat) : Int) - ((kf : Nat) : Int)).toNat = kb - kf by omega, Int.toNat_natCast, hms.1, List.map_drop, List.map_take, List.drop_take]
 have hE2 : List.take (((kf : Nat) : Int) - 0).toNat (List.drop (Int.toNat 0) (List.map Rn.enc l2)) = (l2.take kf).map Rn.enc := by
  rw [show (((kf : Nat) : Int) - 0).toNat = kf by omega, List.map_take]; rfl
 have hln : (l2.map Rn.enc).length = l2.length := List.length_map ..
 have hE3 : List.take (((l2.map Rn.enc).length : Nat) - ((kb : Nat) : Int)).toNat (List.drop (Int.toNat ((kb : Nat) : Int)) (List.map Rn.enc l2)) = (l2.drop kb).map Rn.enc := by
  rw [hln, Int.toNat_natCast, List.map_drop, List.take_of_length_le (by rw [List.length_drop, List.length_map]; omega)]
 have hfX : Frz (.us 66 [[.sl ([l1[p]].map Rn.enc)], [.sl (List.take (((kb : Nat) : Int) - ((kf : Nat) : Int)).toNat (List.drop (Int.toNat ((kf : Nat) : Int)) (List.map Rn.enc l2)))]]) (.sl ([[l1[p]], q].map encL)) := by
  rw [hE1]; exact FrzLL.frz (.cons (.cons .sl .nil) (.cons (.cons .sl .nil) .nil))
 have hK := slices_ConcatR [[l1[p]], q] (by simp) (by simp; omega) (by simp; omega)
 rw [show [[l1[p]], q].flatten = [l1[p]] ++ q by simp] at hK
 have hall : ∀ r ∈ [l1[p]] ++ q, runOk r = true := fun r hr => (List.mem_append.1 hr).elim (k2 r) (hIr r)
 have hallne : [l1[p]] ++ q ≠ [] := fun h => hne (List.append_eq_nil_iff.1 h).1
 have halll : ([l1[p]] ++ q).length ≤ 16 := by rw [List.length_append]; omega
 obtain ⟨a, hae⟩ := exq ([l1[p]] ++ q)
 rw [hae] at hall hallne halll k1 hLz hK hdif
 have hEn := impl_entsOf a (by omega)
 have hMl : ((a.map Rn.ents).flatten).length ≤ 1048576 := by
  have := flat_le (b := 150) (L := a.map Rn.ents) fun l hl => by obtain ⟨r, hr, rfl⟩ := List.mem_map.1 hl; exact (runOk_len (hall r hr)).2.1
  rw [List.length_map] at this
  have h3 : a.length * 150 ≤ 16 * 150 := Nat.mul_le_mul_right _ halll
  omega
 have hMA := impl_MergeAll (a.map Rn.ents) hMl (by rw [List.length_map]; omega)
 have hfL : Frz (.us 29 (a.map encLs)) (.sl ((a.map Rn.ents).map encX)) := by
  rw [List.map_map]
  exact frz_map fun r _ => .cons .sl .nil
 have hml : (isort eLess (a.map Rn.ents).flatten).length ≤ 2400 := by
  rw [isort_len]
  have := flat_le (b := 150) (L := a.map Rn.ents) fun l hl => by obtain ⟨r, hr, rfl⟩ := List.mem_map.1 hl; exact (runOk_len (hall r hr)).2.1
  rw [List.length_map] at this
  have h3 : a.length * 150 ≤ 16 * 150 := Nat.mul_le_mul_right _ halll
  omega
 have hmpos : 0 < (isort eLess (a.map Rn.ents).flatten).length := by
  rw [isort_len]
  cases a with
  | nil => exact absurd rfl hallne
  | cons x xs => rw [List.map_cons, List.flatten_cons, List.length_append]; have := (runOk_len (hall x (List.mem_cons_self ..))).1; omega
 have hmp := isort_perm eLess (a.map Rn.ents).flatten
 have hmw := dif_pw (show (a.map Rn.ents).flatten.Pairwise Dif from hdif)
 obtain ⟨m, hm⟩ := exq (isort eLess (a.map Rn.ents).flatten)
 have hm' : isort eLess (entsR a) = m := hm
 rw [hm'] at k1 hLz
 rw [hm] at hMA hml hmpos hmp hmw
 have hmlow := lowR_head hall hallne hmp hmw hmpos
 have hmhigh := highR_last hall hallne hmp hmw hmpos
 have hmn : (m.map Ent.enc).length = m.length := List.length_map ..
 have gm0 : (m.map Ent.enc)[(0 : Nat)]? = some (m[0]).enc := map_get Ent.enc m 0 hmpos
 have gm1 : (m.map Ent.enc)[m.length - 1]? = some (m[m.length - 1]'(by omega)).enc := map_get Ent.enc m (m.length - 1) (by omega)
 have hsubm : IntKind.i64.wrap ((((m.map Ent.enc).length : Nat) : Int) - 1) = ((m.length - 1 : Nat) : Int) := by rw [hmn]; exact wrapI' (by omega) (by omega)
 have hLz : mergeL l0 l1 l2 1 [l1[p]] snaps = squash m snaps true := by rw [hLz]; rfl
 have hSq := impl_Squash m snaps (by omega) (by omega) (ordOk_OkE k1) true
 rw [show squashed m snaps true = squash m snaps true from if_pos k1] at hSq
 have hzo := squash_ok (snaps := snaps) (last := true) k1
 have hzn := squash_len (l := m) (snaps := snaps) (last := true)
 have hlike : ∀ e ∈ squash m snaps true, ∃ e' ∈ entsR ([l1[p]] ++ inL l2 (lowR [l1[p]]) (highR [l1[p]])), e.key = e'.key := fun e he => by
  obtain ⟨e', h1, h2⟩ := squash_mem he
  exact ⟨e', by rw [hq, hae]; exact hmp.mem_iff.1 h1, h2.2⟩
 rw [hLz] at hcz hRz
 obtain ⟨z, hz⟩ := exq (squash m snaps true)
 rw [hz] at hSq hzo hzn hcz hRz hlike
 have hw1 : IntKind.i64.wrap (((kb : Nat) : Int) - ((kf : Nat) : Int)) = ((kb - kf : Nat) : Int) := wrapI' (by omega) (by omega)
 have hw2 : IntKind.i64.wrap ((((l2.map Rn.enc).length : Nat) : Int) - ((kb - kf : Nat) : Int)) = ((l2.length - (kb - kf) : Nat) : Int) := by rw [hln]; exact wrapI' (by omega) (by omega)
 have hcl : (cutL z).length ≤ z.length := cutL_le z
 by_cases hcu : cutOk z = true
 ·have hCt := impl_cutRuns z (by omega) hzo _ true hcu (fun _ => rfl) fun h => by cases h
  have hcn : ((cutL z).map Rn.enc).length = (cutL z).length := List.length_map ..
  have hRe := hMA0 z hzo hcu hlike
  rw [hRe] at hRz
  have hRl : (mergeR l0 l1 l2 1 [l1[p]] snaps).length = l2.length - (kb - kf) + (cutL z).length := by rw [hRz, List.length_append, List.length_append, List.length_take, List.length_drop]; omega
  rw [hcu, Bool.true_and] at hcz
  have hw3 : IntKind.i64.wrap (((l2.length - (kb - kf) : Nat) : Int) + ((((cutL z).map Rn.enc).length : Nat) : Int)) = ((l2.length - (kb - kf) + (cutL z).length : Nat) : Int) := by rw [hcn]; exact wrapI' (by omega) (by omega)
  have hK2 := slices_ConcatR [l2.take kf, cutL z, l2.drop kb] (by simp) (by simp [List.length_take, List.length_drop]; omega) (by simp [List.length_take, List.length_drop]; omega)
  rw [show [l2.take kf, cutL z, l2.drop kb].flatten = mergeR l0 l1 l2 1 [l1[p]] snaps by rw [hRz]; simp] at hK2
  have hfY : Frz (.us 66 [[.sl (List.take (((kf : Nat) : Int) - 0).toNat (List.drop (Int.toNat 0) (List.map Rn.enc l2)))], [.us 68 ((cutL z).map Rn.enc)], [.sl (List.take (((l2.map Rn.enc).length : Nat) - ((kb : Nat) : Int)).toNat (List.drop (Int.toNat ((kb : Nat) : Int)) (List.map Rn.enc l2)))]]) (.sl ([l2.take kf, cutL z, l2.drop kb].map encL)) := by
   rw [hE2, hE3]; exact FrzLL.frz (.cons (.cons .sl .nil) (.cons (.cons (frzRs _) .nil) (.cons (.cons .sl .nil) .nil)))
  obtain ⟨N, hN⟩ := exq (mergeR l0 l1 l2 1 [l1[p]] snaps)
  rw [hN] at hK2 hRl hcz hy
  have hLv := impl_levels l0 (l1.take p ++ l1.drop (p + 1)) N
  by_cases h8 : N.length ≤ 8
  ·have hct : c = true := by rw [hcz]; exact decide_eq_true h8
   rw [hy hct, hct]
   refine AFn.introX (E := En 0 (mdv [] [135, 141, 142]) (cb := [3]) (fb := [6, 8, 22])) (en_ok 0 _ _ _ _ _) Tryz.func80 rfl rfl rfl fun _ _ => ?_
   refine sp0 ?_
   refine sp0 ?_
   refine ACall.mk _ _ (impl_shelvesOf _ _ _) ?_
   refine nd ?_
   refine ACall.mk _ _ hTk ?_
   refine Num.mk _ (wrapI (by omega) (by omega)) ?_
   refine nd ?_
   refine ACall.mk _ _ hRg ?_
   refine ACall.mk _ _ hMt ?_
   refine Need.mk (⟨by omega, by omega, by omega, lenR _⟩) ?_
   refine Fz.mk _ hfX ?_
   refine ACall.mk _ _ hK ?_
   refine Fz.mk _ (frzRs _) ?_
   refine ACall.mk _ _ hEn ?_
   refine Fz.mk _ hfL ?_
   refine ACall.mk _ _ hMA ?_
   refine Need.mk (⟨ClL.mem (.us (clE _) .nil), no_objs⟩) ?_
   refine Num.mk _ (wrapI (by omega) (by omega)) ?_
   refine sp1 ?_
   refine Fz.mk _ (frzE _) ?_
   refine ACall.mk _ _ hSq ?_
   refine Need.mk (⟨ClL.mem (.us (clE _) .nil), no_objs⟩) ?_
   refine Fz.mk _ (frzE _) ?_
   refine ACall.mk _ _ hCt ?_
   refine sp1 ?_
   refine Num.mk _ hw1 ?_
   refine Num.mk _ hw2 ?_
   refine Num.mk _ hw3 ?_
   refine spF (by omega) fun h5 => ?_
   refine nd ?_
   refine Fz.mk _ (frzRs _) ?_
   refine Num.mk _ (wrapI (by omega) (by omega)) ?_
   refine Need.mk (⟨by omega, by omega, by omega, lenR _⟩) ?_
   refine Need.mk (⟨by omega, by omega, by omega, lenR _⟩) ?_
   refine Fz.mk _ hfY ?_
   refine ACall.mk _ _ hK2 ?_
   refine nd ?_
   refine Fz.mk _ (frzRs _) ?_
   refine Need.mk (rfl) ?_
   refine ACall.mk _ _ hLv ?_
   refine Fz.mk _ (frzLs _) ?_
   exact ndE trivial
  ·have hct : c = false := by rw [hcz]; exact decide_eq_false h8
   rw [hn hct, hct]
   refine AFn.introX (E := En 0 (mdv [] [135, 141, 142]) (cb := [3]) (fb := [6, 8, 22])) (en_ok 0 _ _ _ _ _) Tryz.func80 rfl rfl rfl fun _ _ => ?_
   refine sp0 ?_
   refine sp0 ?_
   refine ACall.mk _ _ (impl_shelvesOf _ _ _) ?_
   refine nd ?_
   refine ACall.mk _ _ hTk ?_
   refine Num.mk _ (wrapI (by omega) (by omega)) ?_
   refine nd ?_
   refine ACall.mk _ _ hRg ?_
   refine ACall.mk _ _ hMt ?_
   refine Need.mk (⟨by omega, by omega, by omega, lenR _⟩) ?_
   refine Fz.mk _ hfX ?_
   refine ACall.mk _ _ hK ?_
   refine Fz.mk _ (frzRs _) ?_
   refine ACall.mk _ _ hEn ?_
   refine Fz.mk _ hfL ?_
   refine ACall.mk _ _ hMA ?_
   refine Need.mk (⟨ClL.mem (.us (clE _) .nil), no_objs⟩) ?_
   refine Num.mk _ (wrapI (by omega) (by omega)) ?_
   refine sp1 ?_
   refine Fz.mk _ (frzE _) ?_
   refine ACall.mk _ _ hSq ?_
   refine Need.mk (⟨ClL.mem (.us (clE _) .nil), no_objs⟩) ?_
   refine Fz.mk _ (frzE _) ?_
   refine ACall.mk _ _ hCt ?_
   refine sp1 ?_
   refine Num.mk _ hw1 ?_
   refine Num.mk _ hw2 ?_
   refine Num.mk _ hw3 ?_
   refine spT (by omega) fun h5 => ?_
   exact ndE trivial
 ·have hcu := Bool.eq_false_iff.2 hcu
  have hCt := impl_cutRuns z (by omega) hzo _ false hcu (fun h => by cases h) fun _ => rfl
  have hct : c = false := by rw [hcz, hcu]; rfl
  rw [hn hct, hct]
  refine AFn.introX (E := En 0 (mdv [] [135, 141, 142]) (cb := [3]) (fb := [6, 8, 22])) (en_ok 0 _ _ _ _ _) Tryz.func80 rfl rfl rfl fun _ _ => ?_
  refine sp0 ?_
  refine sp0 ?_
  refine ACall.mk _ _ (impl_shelvesOf _ _ _) ?_
  refine nd ?_
  refine ACall.mk _ _ hTk ?_
  refine Num.mk _ (wrapI (by omega) (by omega)) ?_
  refine nd ?_
  refine ACall.mk _ _ hRg ?_
  refine ACall.mk _ _ hMt ?_
  refine Need.mk (⟨by omega, by omega, by omega, lenR _⟩) ?_
  refine Fz.mk _ hfX ?_
  refine ACall.mk _ _ hK ?_
  refine Fz.mk _ (frzRs _) ?_
  refine ACall.mk _ _ hEn ?_
  refine Fz.mk _ hfL ?_
  refine ACall.mk _ _ hMA ?_
  refine Need.mk (⟨ClL.mem (.us (clE _) .nil), no_objs⟩) ?_
  refine Num.mk _ (wrapI (by omega) (by omega)) ?_
  refine sp1 ?_
  refine Fz.mk _ (frzE _) ?_
  refine ACall.mk _ _ hSq ?_
  refine Need.mk (⟨ClL.mem (.us (clE _) .nil), no_objs⟩) ?_
  refine Fz.mk _ (frzE _) ?_
  refine ACall.mk _ _ hCt ?_
  refine sp0 ?_
  exact ndE trivial
theorem impl_treeCompactN (sq : Int) (mem : List Ent) (l0 l1 l2 : List Rn) (snaps : List Int) (hb : treeOk ⟨sq, mem, [l0, l1, l2], snaps⟩ = true) (lv pick : Int) (c0 : ¬ (lv = 0 ∧ 0 < l0.length)) (c1 : ¬ (lv = 1 ∧ 0 ≤ pick ∧ pick < l1.length)) :
  AFn Tryz.prog 80 [.agg ((encF sq mem l0 l1 l2 snaps).map .c), av (.int .i64 lv), av (.int .i64 pick)] [] (.tup [.agg (encF sq mem l0 l1 l2 snaps), .one (vb false)]) [] := by
 obtain ⟨⟨_, _, a3, _, a5⟩, ⟨v0, v1, v2⟩, _, _⟩ := treeP.1 (show treeOk3 sq mem l0 l1 l2 snaps = true from hb)
 have hl0 := (levB_ok v0).1
 have hl1 := (levB_ok v1).1
 have hSh := impl_shelvesOf l0 l1 l2
 by_cases h0 : lv < 0
 ·refine AFn.introX (E := En 0 md0 (cb := [3]) (fb := [6, 8, 22])) (en_ok 0 _ _ _ _ _) Tryz.func80 rfl rfl rfl fun _ _ => ?_
  refine spT (by omega) fun h1 => ?_
  exact ndE trivial
 ·by_cases h2 : 2 ≤ lv
  ·refine AFn.introX (E := En 0 md0 (cb := [3]) (fb := [6, 8, 22])) (en_ok 0 _ _ _ _ _) Tryz.func80 rfl rfl rfl fun _ _ => ?_
   refine spF (by omega) fun h1 => ?_
   refine spT (by omega) fun h2 => ?_
   exact ndE trivial
  ·by_cases hlv : lv = 0
   ·subst hlv
    have hTk := impl_takeRuns0 l0 pick (by omega)
    rw [decide_eq_false (fun h => c0 ⟨rfl, h⟩)] at hTk
    refine AFn.introX (E := En 0 md0 (cb := [3]) (fb := [6, 8, 22])) (en_ok 0 _ _ _ _ _) Tryz.func80 rfl rfl rfl fun _ _ => ?_
    refine sp0 ?_
    refine sp0 ?_
    refine ACall.mk _ _ hSh ?_
    refine nd ?_
    refine ACall.mk _ _ hTk ?_
    exact ndE trivial
   ·obtain rfl : lv = 1 := by omega
    have hTk := impl_takeRunsN l1 1 pick (by decide) fun h => c1 ⟨rfl, h⟩
    refine AFn.introX (E := En 0 md0 (cb := [3]) (fb := [6, 8, 22])) (en_ok 0 _ _ _ _ _) Tryz.func80 rfl rfl rfl fun _ _ => ?_
    refine sp0 ?_
    refine sp0 ?_
    refine ACall.mk _ _ hSh ?_
    refine nd ?_
    refine ACall.mk _ _ hTk ?_
    exact ndE trivial
theorem impl_treeCompact (t : Tre) (hb : treeOk t = true) (lv pick : Int) : AFn Tryz.prog 80 [.agg (t.enc.map .c), av (.int .i64 lv), av (.int .i64 pick)] [] (.tup [.agg (compactD lv pick t).1.enc, .one (vb (compactD lv pick t).2)]) [] := by
 obtain ⟨l0, l1, l2, he, h3⟩ := treeOk_levels hb
 obtain ⟨sq, mem, lev, snaps⟩ := t
 simp only at he
 subst he
 by_cases c0 : lv = 0 ∧ 0 < l0.length
 ·obtain ⟨rfl, h0⟩ := c0
  rw [compactD_0 h0]
  by_cases hm : mergeOk l0 l1 l2 0 l0 snaps = true
  ·rw [if_pos hm]; exact impl_treeCompact0 sq mem l0 l1 l2 snaps hb pick h0 _ true hm (fun _ => rfl) fun h => by cases h
  ·rw [if_neg hm]; exact impl_treeCompact0 sq mem l0 l1 l2 snaps hb pick h0 _ false (Bool.eq_false_iff.2 hm) (fun h => by cases h) fun _ => rfl
 ·by_cases c1 : lv = 1 ∧ 0 ≤ pick ∧ pick < l1.length
  ·obtain ⟨rfl, hp0, hp1⟩ := c1
   obtain ⟨p, rfl⟩ : ∃ p : Nat, pick = p := ⟨pick.toNat, by omega⟩
   have hpl : p < l1.length := by omega
   rw [compactD_1 hpl]
   by_cases hm : mergeOk l0 l1 l2 1 [l1[p]] snaps = true
   ·rw [if_pos hm]; exact impl_treeCompact1 sq mem l0 l1 l2 snaps hb p hpl _ true hm (fun _ => rfl) fun h => by cases h
   ·rw [if_neg hm]; exact impl_treeCompact1 sq mem l0 l1 l2 snaps hb p hpl _ false (Bool.eq_false_iff.2 hm) (fun h => by cases h) fun _ => rfl
  ·rw [compactD_n c0 c1]
   exact impl_treeCompactN sq mem l0 l1 l2 snaps hb lv pick c0 c1
theorem impl_TreeCompact1 (t : Tre) (lv pick : Int) (hb : treeOk t = true) : AFnK Tryz.prog 79 [.agg (t.enc.map .c), .bx 0 0, .bx 1 0] [[vi lv], [vi pick]] [0, 0] (.tup [.agg (compactD lv pick t).1.enc, .one (vb (compactD lv pick t).2)]) [[vi lv], [vi pick]] := by
 have hW := impl_treeCompact t hb lv pick
 obtain ⟨w, hw⟩ := exq ((compactD lv pick t).1)
 obtain ⟨c, hc⟩ := exq ((compactD lv pick t).2)
 rw [hw, hc] at hW
 rw [hw, hc]
 cases c
 ·refine AFnK.introX (E := En 2 md0) (en_ok 2 _ _ _ _ _) Tryz.func79 rfl rfl rfl fun _ _ => ?_
  refine ACall.mk _ _ hW ?_
  refine sp0 ?_
  exact ndE trivial
 ·refine AFnK.introX (E := En 2 md0) (en_ok 2 _ _ _ _ _) Tryz.func79 rfl rfl rfl fun _ _ => ?_
  refine ACall.mk _ _ hW ?_
  refine sp1 ?_
  exact ndE trivial
theorem treeDo_c2 (f : FuncId) (o o2 : C) (d : Tre → Tre × Bool) (t : Tre) (ht : t.Ok) (hsm : t.Small) (hd : treeOk t = true → AFnK Tryz.prog f [.agg (t.enc.map .c), .bx 0 0, .bx 1 0] [[o], [o2]] [0, 0] (.tup [.agg (d t).1.enc, .one (vb (d t).2)]) [[o], [o2]]) (hds : treeOk t = true → (d t).1.Small) :
  AFnK Tryz.prog 64 [.agg (t.enc.map .c), .clo f [.bx 0 0, .bx 1 0]] [[o], [o2]] [0, 0] (.tup [.agg (encTO (treeDo t d).1), .one (vb (treeDo t d).2)]) [[o], [o2]] := by
 have hO := impl_TreeOk t ht fun l hl r hr => Nat.le_trans ((hsm.2.2.1 l hl).2 r hr) (by decide)
 cases hb : treeOk t with
 | false =>
  rw [hb] at hO
  rw [show treeDo t d = (tre00, false) by unfold treeDo; rw [hb]; rfl]
  refine AFnK.introX (E := En 2 md0) (en_ok 2 _ _ _ _ _) Tryz.func64 rfl rfl rfl fun _ _ => ?_
  refine ACall.mk _ _ hO ?_
  refine sp0 ?_
  exact ndE trivial
 | true =>
  rw [hb] at hO
  have hd := hd hb
  have hds := hds hb
  have hc1 := impl_treeCopy t hsm
  have hc2 := impl_treeCopy (d t).1 hds
  cases hb2 : (d t).2 with
  | false =>
   rw [hb2] at hd
   rw [show treeDo t d = (t, false) by unfold treeDo; rw [if_pos hb, if_neg (by rw [hb2]; simp)]]
   refine AFnK.introX (E := En 2 md0) (en_ok 2 _ _ _ _ _) Tryz.func64 rfl rfl rfl fun _ _ => ?_
   refine ACall.mk _ _ hO ?_
   refine sp1 ?_
   refine ACall.mk _ _ hd ?_
   refine sp0 ?_
   refine ACall.mk _ _ hc1 ?_
   exact ndE trivial
  | true =>
   rw [hb2] at hd
   rw [show treeDo t d = ((d t).1, true) by unfold treeDo; rw [if_pos hb, if_pos hb2]; exact Prod.ext rfl hb2]
   obtain ⟨x, hx⟩ := exq ((d t).1)
   rw [hx] at hd hc2
   rw [hx]
   refine AFnK.introX (E := En 2 md0) (en_ok 2 _ _ _ _ _) Tryz.func64 rfl rfl rfl fun _ _ => ?_
   refine ACall.mk _ _ hO ?_
   refine sp1 ?_
   refine ACall.mk _ _ hd ?_
   refine sp1 ?_
   refine ACall.mk _ _ hc2 ?_
   exact ndE trivial
theorem impl_TreeCompact (t : Tre) (lv pick : Int) (ht : t.Ok) (hsm : t.Small) : AFn Tryz.prog 29 [.agg (t.enc.map .c), av (.int .i64 lv), av (.int .i64 pick)] [] (.tup [.agg (encTO (treeDo t (compactD lv pick)).1), .one (vb (treeDo t (compactD lv pick)).2)]) [] := by
 have hD := treeDo_c2 79 (vi lv) (vi pick) (compactD lv pick) t ht hsm (fun hb => impl_TreeCompact1 t lv pick hb) (fun hb => Tre.small_ok (compactD_ok hb lv pick))
 obtain ⟨x, hx⟩ := exq ((treeDo t (compactD lv pick)).1)
 obtain ⟨c, hc⟩ := exq ((treeDo t (compactD lv pick)).2)
 rw [hx, hc] at hD
 rw [hx, hc]
 cases c
 ·refine AFn.introX (E := En 0 md0) (en_ok 0 _ _ _ _ _) Tryz.func29 rfl rfl rfl fun _ _ => ?_
  refine ACall.mk _ _ hD ?_
  refine sp0 ?_
  exact ndE trivial
 ·refine AFn.introX (E := En 0 md0) (en_ok 0 _ _ _ _ _) Tryz.func29 rfl rfl rfl fun _ _ => ?_
  refine ACall.mk _ _ hD ?_
  refine sp1 ?_
  exact ndE trivial
theorem compactD_do {t : Tre} {lv pick : Int} (hb : treeOk t = true) : treeDo t (compactD lv pick) = compactD lv pick t := by
 unfold treeDo
 rw [if_pos hb]
 split
 ·rfl
 ·rename_i h
  have h2 : (compactD lv pick t).2 = false := by simpa using h
  unfold compactD at h2 ⊢
  split at h2 <;> rename_i he
  ·split at h2
   ·split at h2
    ·cases h2
    ·rename_i q1 q2; rw [if_pos q1, if_neg q2]
   ·split at h2
    ·split at h2
     ·cases h2
     ·rename_i q1 q2 q3; rw [if_neg q1, if_pos q2, if_neg q3]
    ·rename_i q1 q2; rw [if_neg q1, if_neg q2]
  ·rfl
theorem pos_TreeCompact (t : Tre) (lv pick : Int) (h : t.size ≤ 1048576) : posT 1 (treeDo t (compactD lv pick)).1 ≤ 6000000 := by
 cases hb : treeOk t with
 | true => rw [compactD_do hb]; exact posT_ok (compactD_ok hb lv pick)
 | false => rw [show treeDo t (compactD lv pick) = (tre00, false) by unfold treeDo; rw [hb]; rfl]; decide
theorem spec_TreeCompact (t : Tre) (lv pick : Int) (ht : t.Ok) (hsm : t.Small) : AFn Tryz.prog 28 [.agg (t.enc.map .c), av (.int .i64 lv), av (.int .i64 pick)] [] (.tup [.agg (encTO (treeDo t (compactD lv pick)).1), .one (vb (treeDo t (compactD lv pick)).2)]) [] := by
 have hO := spec_TreeOk t ht (Nat.le_trans hsm.2.2.2 (by decide)) fun l hl r hr => Nat.le_trans ((hsm.2.2.1 l hl).2 r hr) (by decide)
 have hC := spec_l5Copy t hsm
 cases hb : treeOk t with
 | false =>
  rw [hb] at hO
  rw [show treeDo t (compactD lv pick) = (tre00, false) by unfold treeDo; rw [hb]; rfl]
  refine AFn.introX (E := En 0 md0 (cb := [3])) (en_ok 0 _ _ _ _ _) Tryz.func28 rfl rfl rfl fun _ _ => ?_
  refine ACall.mk _ _ hO ?_
  refine sp0 ?_
  exact ndE trivial
 | true =>
  rw [hb] at hO
  rw [compactD_do hb]
  have hC2 := spec_l5Copy _ (Tre.small_ok (compactD_ok hb lv pick))
  obtain ⟨l0, l1, l2, he, h3⟩ := treeOk_levels hb
  obtain ⟨sq, mem, lev, snaps⟩ := t
  simp only at he
  subst he
  have hfz : Frz (.us 66 ([l0, l1, l2].map encLO)) (.sl ([l0, l1, l2].map encL)) := frzRR _
  have hc1 : (compactD lv pick ⟨sq, mem, [l0, l1, l2], snaps⟩).2 = false → (compactD lv pick ⟨sq, mem, [l0, l1, l2], snaps⟩).1 = ⟨sq, mem, [l0, l1, l2], snaps⟩ := fun h => by
   have h1 := compactD_do (lv := lv) (pick := pick) hb
   unfold treeDo at h1
   rw [if_pos hb, if_neg (by rw [h]; simp)] at h1
   rw [← h1]
  cases hc : (compactD lv pick ⟨sq, mem, [l0, l1, l2], snaps⟩).2 with
  | false =>
   rw [hc1 hc] at hC2 ⊢
   have hX : AFn Tryz.prog 78 [.agg ((encF sq mem l0 l1 l2 snaps).map .c), av (.int .i64 lv), av (.int .i64 pick)] [] (.tup [.agg (encF sq mem l0 l1 l2 snaps), .one (vb false)]) [] := AFn.arg3 (fun x1 x2 x3 _ _ _ _ _ h => RVR.unex (cs := encE x1 x2 x3 sq mem l0 l1 l2 snaps) h) fun x1 x2 x3 => spec_l5Compact_no sq mem l0 l1 l2 snaps x1 x2 x3 hb lv pick hc
   refine AFn.introX (E := En 0 (mdv [] [78]) (cb := [3])) (en_ok 0 _ _ _ _ _) Tryz.func28 rfl rfl rfl fun _ _ => ?_
   refine ACall.mk _ _ hO ?_
   refine sp1 ?_
   refine ACall.mk _ _ hC2 ?_
   refine Fz.mk _ (frzE _) ?_
   refine Fz.mk _ hfz ?_
   refine Fz.mk _ (frzI _) ?_
   refine ACall.mk _ _ hX ?_
   refine sp0 ?_
   refine ACall.mk _ _ hC2 ?_
   exact ndE trivial
  | true =>
   obtain ⟨R0, R1, R2, k0, k1, k2, t0, t1, t2, hk, hX0⟩ := spec_l5Compact_ok sq mem l0 l1 l2 snaps hb lv pick hc
   rw [hk] at hC2 ⊢
   have hX : AFn Tryz.prog 78 [.agg ((encF sq mem l0 l1 l2 snaps).map .c), av (.int .i64 lv), av (.int .i64 pick)] [] (.tup [.agg (encMx sq mem R0 R1 R2 snaps), .one (vb true)]) [] := AFn.arg3 (fun _ _ _ _ _ _ _ _ h => h) hX0
   have hfM : Frz (.us 66 (lvM R0 R1 R2)) (.sl ([k0, k1, k2].map encL)) := lvM_frz t0 t1 t2
   refine AFn.introX (E := En 0 (mdv [] [78]) (cb := [3])) (en_ok 0 _ _ _ _ _) Tryz.func28 rfl rfl rfl fun _ _ => ?_
   refine ACall.mk _ _ hO ?_
   refine sp1 ?_
   refine ACall.mk _ _ hC ?_
   refine Fz.mk _ (frzE _) ?_
   refine Fz.mk _ hfz ?_
   refine Fz.mk _ (frzI _) ?_
   refine ACall.mk _ _ hX ?_
   refine sp1 ?_
   refine Fz.mk _ (frzE _) ?_
   refine Fz.mk _ hfM ?_
   refine Fz.mk _ (frzI _) ?_
   refine ACall.mk _ _ hC2 ?_
   refine Need.mk (⟨ClL.mem (.v (.us (clE _) (.us (clLO _) (.us (clI _) .nil)))), no_objs⟩) ?_
   exact ndE trivial
theorem posT_sz {t : Tre} (h : t.size ≤ 1048576) : posT 1 t ≤ 6000000 := by
 have h1 := posL_sz t.levels (1 + 5 * t.mem.length)
 have hz : t.size = sizeE t.mem + sizeRR t.levels + t.snaps.length := rfl
 have h2 : t.mem.length ≤ sizeE t.mem := by unfold sizeE; omega
 unfold posT; omega
theorem laws_szEntry (e : Ent) (left : Nat) (he : e.Ok) (hl : left ≤ 1048576) : AFn Tryz.prog 58 [.agg (e.enc.map .c), av (.int .i64 left)] [] (.one (vi (cut e.size left))) [] := by
 refine AFn.introX (E := En 0 md0) (en_ok 0 md0) Tryz.func58 rfl rfl rfl fun _ _ => ?_
 obtain ⟨h1, h2⟩ := he
 have he : e.size = e.key.size + e.text.size := rfl
 unfold maxLen at h1 h2
 have fin : ∀ {z : Int}, z = cut e.size left → RV.one (vi z) = RV.one (vi (cut e.size left)) := fun h => by rw [h]
 refine Num.mk ((left : Int) - e.key.size) (by rw [IntKind.wrap_i64]; omega) ?_
 refine Split.mk fun t ht => ?_
 cases t
 ·have h3 : e.key.size ≤ left := by simp at ht; omega
  refine Num.mk ((left : Int) - e.key.size - e.text.size) (by rw [IntKind.wrap_i64]; omega) ?_
  refine Split.mk fun t ht => ?_
  cases t
  ·have h4 : e.size ≤ left := by simp at ht; omega
   exact Need.mk ⟨[], _, .same, fin (by rw [cut_pos h4]; omega), rfl⟩ trivial
  ·have h4 : ¬ e.size ≤ left := by simp at ht; omega
   exact Need.mk ⟨[], _, .same, fin (by rw [cut_neg h4]), rfl⟩ trivial
 ·have h4 : ¬ e.size ≤ left := by simp at ht; omega
  exact Need.mk ⟨[], _, .same, fin (by rw [cut_neg h4]), rfl⟩ trivial
theorem laws_szEntryS (xs : List Ent) (left : Nat) (he : OkE xs) (hl : left ≤ 1048576) : AFn Tryz.prog 16 [sl (xs.map Ent.enc), av (.int .i64 left)] [] (.one (vi (cut (sizeE xs) left))) [] := by
 refine AFn.introX (E := En 0 md0) (en_ok 0 md0) Tryz.func16 rfl rfl rfl fun hs _ => ?_
 have hn : (xs.map Ent.enc).length = xs.length := List.length_map ..
 have hx := Small.len (hs _ (List.mem_cons_self ..))
 rw [hn] at hx
 have hz : sizeE xs = xs.length + (xs.map Ent.size).sum := rfl
 have fin : ∀ {z : Int}, z = cut (sizeE xs) left → RV.one (vi z) = RV.one (vi (cut (sizeE xs) left)) := fun h => by rw [h]
 refine Num.mk ((left : Int) - xs.length) (by rw [hn, IntKind.wrap_i64]; omega) ?_
 refine Split.mk fun t ht => ?_
 cases t
 ·have h3 : xs.length ≤ left := by simp at ht; omega
  refine ALoop.mk (fun m s => ∃ (i r : Nat), i ≤ xs.length ∧ m = xs.length - i ∧ xs.length + ((xs.take i).map Ent.size).sum + r = left ∧
    s = ⟨some (sl (xs.map Ent.enc)) :: some (av (.int .i64 r)) :: none :: none :: none :: some (av (.int .i64 i)) :: List.replicate 21 none, List.replicate 27 absent⟩)
   ⟨xs.length, _, Weak.nrm [true, true, false, false, false, true] [] rfl rfl rfl, 0, left - xs.length, Nat.zero_le _, rfl, by simp; omega, ?_⟩ ?_
  ·rw [show ((left - xs.length : Nat) : Int) = (left : Int) - xs.length by omega]; rfl
  rintro m s ⟨i, r, hi, rfl, hr, rfl⟩
  refine Split.mk fun t ht => ?_
  rw [hn] at ht
  cases t
  ·have hin : i = xs.length := by simp at ht; omega
   subst hin
   rw [List.take_length] at hr
   exact Need.mk ⟨[], _, .same, fin (by rw [cut_pos (by omega)]; omega), rfl⟩ trivial
  ·have hia : i < xs.length := by simpa using ht
   have hsum := sum_take Ent.size xs hia
   have hle := sum_take_le Ent.size xs (i + 1)
   refine nd ?_
   refine Row.mk _ (map_get _ xs i hia) ?_
   refine ACall.mk _ _ (laws_szEntry xs[i] r (he _ (List.getElem_mem _)) (by omega)) ?_
   refine Split.mk fun t ht => ?_
   rw [cut_lt] at ht
   cases t
   ·have h4 : xs[i].size ≤ r := by simpa using ht
    refine Num.mk _ (wrapS (by omega)) ?_
    refine ⟨xs.length - (i + 1), _, by omega, Weak.nrm [true, true, false, false, false, true] [] rfl rfl rfl, i + 1, r - xs[i].size, by omega, rfl, by omega, ?_⟩
    rw [← cut_pos h4]; rfl
   ·have h4 : ¬ xs[i].size ≤ r := by simpa using ht
    exact Need.mk ⟨[], _, .same, fin (by rw [cut_neg (by omega)]), rfl⟩ trivial
 ·have h4 : ¬ sizeE xs ≤ left := by simp at ht; omega
  exact Need.mk ⟨[], _, .same, fin (by rw [cut_neg h4]), rfl⟩ trivial
theorem laws_szRun (r : Rn) (left : Nat) (he : OkE r.ents) (hl : left ≤ 1048576) : AFn Tryz.prog 174 [.agg (r.enc.map .c), av (.int .i64 left)] [] (.one (vi (cut (sizeE r.ents) left))) [] := by
 refine AFn.introX (E := En 0 md0) (en_ok 0 md0) Tryz.func174 rfl rfl rfl fun _ _ => ?_
 refine ACall.mk _ _ (laws_szEntryS r.ents left he hl) ?_
 refine Split.mk fun t ht => ?_
 rw [cut_lt] at ht
 cases t
 ·exact ndE trivial
 ·exact Need.mk ⟨[], _, .same, by rw [cut_neg (by simpa using ht)]; rfl, rfl⟩ trivial
theorem laws_szRunS (xs : List Rn) (left : Nat) (he : OkR xs) (hl : left ≤ 1048576) : AFn Tryz.prog 120 [sl (xs.map Rn.enc), av (.int .i64 left)] [] (.one (vi (cut (sizeR xs) left))) [] := by
 refine AFn.introX (E := En 0 md0) (en_ok 0 md0) Tryz.func120 rfl rfl rfl fun hs _ => ?_
 have hn : (xs.map Rn.enc).length = xs.length := List.length_map ..
 have hx := Small.len (hs _ (List.mem_cons_self ..))
 rw [hn] at hx
 have hz : sizeR xs = xs.length + (xs.map (fun r : Rn => sizeE r.ents)).sum := rfl
 have fin : ∀ {z : Int}, z = cut (sizeR xs) left → RV.one (vi z) = RV.one (vi (cut (sizeR xs) left)) := fun h => by rw [h]
 refine Num.mk ((left : Int) - xs.length) (by rw [hn, IntKind.wrap_i64]; omega) ?_
 refine Split.mk fun t ht => ?_
 cases t
 ·have h3 : xs.length ≤ left := by simp at ht; omega
  refine ALoop.mk (fun m s => ∃ (i r : Nat), i ≤ xs.length ∧ m = xs.length - i ∧ xs.length + ((xs.take i).map (fun r : Rn => sizeE r.ents)).sum + r = left ∧
    s = ⟨some (sl (xs.map Rn.enc)) :: some (av (.int .i64 r)) :: none :: none :: none :: some (av (.int .i64 i)) :: List.replicate 21 none, List.replicate 27 absent⟩)
   ⟨xs.length, _, Weak.nrm [true, true, false, false, false, true] [] rfl rfl rfl, 0, left - xs.length, Nat.zero_le _, rfl, by simp; omega, ?_⟩ ?_
  ·rw [show ((left - xs.length : Nat) : Int) = (left : Int) - xs.length by omega]; rfl
  rintro m s ⟨i, r, hi, rfl, hr, rfl⟩
  refine Split.mk fun t ht => ?_
  rw [hn] at ht
  cases t
  ·have hin : i = xs.length := by simp at ht; omega
   subst hin
   rw [List.take_length] at hr
   exact Need.mk ⟨[], _, .same, fin (by rw [cut_pos (by omega)]; omega), rfl⟩ trivial
  ·have hia : i < xs.length := by simpa using ht
   have hsum := sum_take (fun r : Rn => sizeE r.ents) xs hia
   have hle := sum_take_le (fun r : Rn => sizeE r.ents) xs (i + 1)
   refine nd ?_
   refine Row.mk _ (map_get _ xs i hia) ?_
   refine ACall.mk _ _ (laws_szRun xs[i] r (he _ (List.getElem_mem _)) (by omega)) ?_
   refine Split.mk fun t ht => ?_
   rw [cut_lt] at ht
   cases t
   ·have h4 : (sizeE xs[i].ents) ≤ r := by simpa using ht
    refine Num.mk _ (wrapS (by omega)) ?_
    refine ⟨xs.length - (i + 1), _, by omega, Weak.nrm [true, true, false, false, false, true] [] rfl rfl rfl, i + 1, r - (sizeE xs[i].ents), by omega, rfl, by omega, ?_⟩
    rw [← cut_pos h4]; rfl
   ·have h4 : ¬ (sizeE xs[i].ents) ≤ r := by simpa using ht
    exact Need.mk ⟨[], _, .same, fin (by rw [cut_neg (by omega)]), rfl⟩ trivial
 ·have h4 : ¬ sizeR xs ≤ left := by simp at ht; omega
  exact Need.mk ⟨[], _, .same, fin (by rw [cut_neg h4]), rfl⟩ trivial
theorem laws_szRunSS (xs : List (List Rn)) (left : Nat) (he : OkRR xs) (hl : left ≤ 1048576) : AFn Tryz.prog 56 [sl (xs.map encL), av (.int .i64 left)] [] (.one (vi (cut (sizeRR xs) left))) [] := by
 refine AFn.introX (E := En 0 md0) (en_ok 0 md0) Tryz.func56 rfl rfl rfl fun hs _ => ?_
 have hn : (xs.map encL).length = xs.length := List.length_map ..
 have hx := Small.len (hs _ (List.mem_cons_self ..))
 rw [hn] at hx
 have hz : sizeRR xs = xs.length + (xs.map sizeR).sum := rfl
 have fin : ∀ {z : Int}, z = cut (sizeRR xs) left → RV.one (vi z) = RV.one (vi (cut (sizeRR xs) left)) := fun h => by rw [h]
 refine Num.mk ((left : Int) - xs.length) (by rw [hn, IntKind.wrap_i64]; omega) ?_
 refine Split.mk fun t ht => ?_
 cases t
 ·have h3 : xs.length ≤ left := by simp at ht; omega
  refine ALoop.mk (fun m s => ∃ (i r : Nat), i ≤ xs.length ∧ m = xs.length - i ∧ xs.length + ((xs.take i).map sizeR).sum + r = left ∧
    s = ⟨some (sl (xs.map encL)) :: some (av (.int .i64 r)) :: none :: none :: none :: some (av (.int .i64 i)) :: List.replicate 21 none, List.replicate 27 absent⟩)
   ⟨xs.length, _, Weak.nrm [true, true, false, false, false, true] [] rfl rfl rfl, 0, left - xs.length, Nat.zero_le _, rfl, by simp; omega, ?_⟩ ?_
  ·rw [show ((left - xs.length : Nat) : Int) = (left : Int) - xs.length by omega]; rfl
  rintro m s ⟨i, r, hi, rfl, hr, rfl⟩
  refine Split.mk fun t ht => ?_
  rw [hn] at ht
  cases t
  ·have hin : i = xs.length := by simp at ht; omega
   subst hin
   rw [List.take_length] at hr
   exact Need.mk ⟨[], _, .same, fin (by rw [cut_pos (by omega)]; omega), rfl⟩ trivial
  ·have hia : i < xs.length := by simpa using ht
   have hsum := sum_take sizeR xs hia
   have hle := sum_take_le sizeR xs (i + 1)
   refine nd ?_
   refine Row.mk _ (map_get _ xs i hia) ?_
   refine ACall.mk _ _ (laws_szRunS xs[i] r (he _ (List.getElem_mem _)) (by omega)) ?_
   refine Split.mk fun t ht => ?_
   rw [cut_lt] at ht
   cases t
   ·have h4 : (sizeR xs[i]) ≤ r := by simpa using ht
    refine Num.mk _ (wrapS (by omega)) ?_
    refine ⟨xs.length - (i + 1), _, by omega, Weak.nrm [true, true, false, false, false, true] [] rfl rfl rfl, i + 1, r - (sizeR xs[i]), by omega, rfl, by omega, ?_⟩
    rw [← cut_pos h4]; rfl
   ·have h4 : ¬ (sizeR xs[i]) ≤ r := by simpa using ht
    exact Need.mk ⟨[], _, .same, fin (by rw [cut_neg (by omega)]), rfl⟩ trivial
 ·have h4 : ¬ sizeRR xs ≤ left := by simp at ht; omega
  exact Need.mk ⟨[], _, .same, fin (by rw [cut_neg h4]), rfl⟩ trivial
theorem laws_szIntS (xs : List Int) (left : Nat) (hl : left ≤ 1048576) : AFn Tryz.prog 57 [sl (xs.map encI), av (.int .i64 left)] [] (.one (vi (cut xs.length left))) [] := by
 refine AFn.introX (E := En 0 md0) (en_ok 0 md0) Tryz.func57 rfl rfl rfl fun hs _ => ?_
 have hn : (xs.map encI).length = xs.length := List.length_map ..
 have hx := Small.len (hs _ (List.mem_cons_self ..))
 rw [hn] at hx
 have fin : ∀ {z : Int}, z = cut xs.length left → RV.one (vi z) = RV.one (vi (cut xs.length left)) := fun h => by rw [h]
 refine Num.mk ((left : Int) - xs.length) (by rw [hn, IntKind.wrap_i64]; omega) ?_
 refine Split.mk fun t ht => ?_
 cases t
 ·have h3 : xs.length ≤ left := by simp at ht; omega
  exact Need.mk ⟨[], _, .same, fin (by rw [cut_pos h3]; omega), rfl⟩ trivial
 ·have h3 : ¬ xs.length ≤ left := by simp at ht; omega
  exact Need.mk ⟨[], _, .same, fin (by rw [cut_neg h3]), rfl⟩ trivial
theorem laws_szTree (t : Tre) (left : Nat) (he : t.Ok) (hl : left ≤ 1048576) : AFn Tryz.prog 15 [.agg (t.enc.map .c), av (.int .i64 left)] [] (.one (vi (cut t.size left))) [] := by
 refine AFn.introX (E := En 0 md0) (en_ok 0 md0) Tryz.func15 rfl rfl rfl fun _ _ => ?_
 have hz : t.size = sizeE t.mem + sizeRR t.levels + t.snaps.length := rfl
 have fin : ∀ {z : Int}, z = cut t.size left → RV.one (vi z) = RV.one (vi (cut t.size left)) := fun h => by rw [h]
 by_cases h1 : sizeE t.mem ≤ left
 ·refine ACall.mk (.one (vi ((left - sizeE t.mem : Nat) : Int))) [] (by rw [← cut_pos h1]; exact laws_szEntryS t.mem left he.1 hl) ?_
  refine Split.mk fun b hb => ?_
  cases b
  ·by_cases h2 : sizeRR t.levels ≤ left - sizeE t.mem
   ·refine ACall.mk (.one (vi ((left - sizeE t.mem - sizeRR t.levels : Nat) : Int))) [] (by rw [← cut_pos h2]; exact laws_szRunSS t.levels (left - sizeE t.mem) he.2 (by omega)) ?_
    refine Split.mk fun b hb => ?_
    cases b
    ·by_cases h3 : t.snaps.length ≤ left - sizeE t.mem - sizeRR t.levels
     ·refine ACall.mk (.one (vi ((left - sizeE t.mem - sizeRR t.levels - t.snaps.length : Nat) : Int))) [] (by rw [← cut_pos h3]; exact laws_szIntS t.snaps _ (by omega)) ?_
      refine Split.mk fun b hb => ?_
      cases b
      ·exact Need.mk ⟨[], _, .same, fin (by rw [cut_pos (by omega)]; omega), rfl⟩ trivial
      ·simp at hb <;> omega
     ·refine ACall.mk (.one (vi (-1))) [] (by rw [← cut_neg h3]; exact laws_szIntS t.snaps _ (by omega)) ?_
      refine Split.mk fun b hb => ?_
      cases b
      ·simp at hb
      ·exact Need.mk ⟨[], _, .same, fin (by rw [cut_neg (by omega)]), rfl⟩ trivial
    ·simp at hb <;> omega
   ·refine ACall.mk (.one (vi (-1))) [] (by rw [← cut_neg h2]; exact laws_szRunSS t.levels (left - sizeE t.mem) he.2 (by omega)) ?_
    refine Split.mk fun b hb => ?_
    cases b
    ·simp at hb
    ·exact Need.mk ⟨[], _, .same, fin (by rw [cut_neg (by omega)]), rfl⟩ trivial
  ·simp at hb <;> omega
 ·refine ACall.mk (.one (vi (-1))) [] (by rw [← cut_neg h1]; exact laws_szEntryS t.mem left he.1 hl) ?_
  refine Split.mk fun b hb => ?_
  cases b
  ·simp at hb
  ·exact Need.mk ⟨[], _, .same, fin (by rw [cut_neg (by omega)]), rfl⟩ trivial
theorem laws_toEntry (e : Ent) : AFn Tryz.prog 63 [.agg (e.enc.map .c)] [] (.agg e.enc) [] := by
 refine AFn.introX (E := En 0 md0) (en_ok 0 md0) Tryz.func63 rfl rfl rfl fun _ _ => ?_
 exact ndE trivial
theorem laws_toEntryS (xs : List Ent) (hx : xs.length ≤ 1048576) : AFn Tryz.prog 19 [sl (xs.map Ent.enc)] [] (.one (.us 54 (xs.map Ent.enc))) [] := by
 refine AFn.introX (E := En 0 md0) (en_ok 0 md0) Tryz.func19 rfl rfl rfl fun _ _ => ?_
 have hn : (xs.map Ent.enc).length = xs.length := List.length_map ..
 refine Need.mk ⟨by omega, by omega, by simp only [hn]; omega, by omega⟩ ?_
 let S : List (List C) → Nat → St := fun rows i => ⟨some (sl (xs.map Ent.enc)) :: none :: none :: some (.one (.ref 3 0 (.cell 0))) :: some (av (.int .i64 i)) :: List.replicate 18 none, absent :: absent :: absent :: ⟨0, 1, some [.us 54 rows]⟩ :: List.replicate 19 absent⟩
 refine ALoop.mk (fun m s => ∃ i : Nat, i ≤ xs.length ∧ m = xs.length - i ∧ s = S ((xs.take i ++ List.replicate (xs.length - i) ent0).map Ent.enc) i)
  ⟨xs.length, _, Weak.nrm [true, false, false, true, true] [(7, 3)] rfl rfl rfl, 0, Nat.zero_le _, rfl, ?_⟩ ?_
 ·refine Eq.trans (b := S (List.replicate (xs.map Ent.enc).length (Ent.enc ent0)) 0) rfl ?_
  rw [hn, List.take_zero, List.nil_append, List.map_replicate, Nat.sub_zero]
 rintro m s ⟨i, hi, rfl, rfl⟩
 refine Split.mk fun t ht => ?_
 rw [hn] at ht
 cases t
 ·have hin : i = xs.length := by simp at ht; omega
  subst hin
  refine Need.mk ⟨[], _, .same, ?_, rfl⟩ trivial
  rw [List.take_length, Nat.sub_self, List.replicate_zero, List.append_nil]; rfl
 ·have hia : i < xs.length := by simpa using ht
  refine nd ?_
  refine Row.mk _ (map_get _ xs i hia) ?_
  refine ACall.mk _ _ (laws_toEntry xs[i]) ?_
  refine Need.mk ⟨by omega, by rw [List.length_map, to_len _ _ hi]; omega⟩ ?_
  refine Row.mk _ (to_get _ xs ent0 hia) ?_
  refine Num.mk _ (wrapS (by omega)) ?_
  refine ⟨xs.length - (i + 1), _, by omega, Weak.nrm [true, false, false, true, true] [(3, 3)] rfl rfl rfl, i + 1, by omega, rfl, ?_⟩
  refine Eq.trans (b := S (((xs.take i ++ List.replicate (xs.length - i) ent0).map Ent.enc).set i (Ent.enc xs[i])) (i + 1)) rfl ?_
  rw [← List.map_set, to_step xs ent0 hia]
theorem laws_toRun (r : Rn) (hr : r.ents.length ≤ 1048576) : AFn Tryz.prog 175 [.agg (r.enc.map .c)] [] (.agg (encO r)) [] := by
 refine AFn.introX (E := En 0 md0) (en_ok 0 md0) Tryz.func175 rfl rfl rfl fun _ _ => ?_
 refine ACall.mk _ _ (laws_toEntryS r.ents hr) ?_
 exact ndE trivial
theorem laws_toRunS (xs : List Rn) (hx : xs.length ≤ 1048576) (hr : ∀ r ∈ xs, r.ents.length ≤ 1048576) : AFn Tryz.prog 124 [sl (xs.map Rn.enc)] [] (.one (.us 68 (xs.map encO))) [] := by
 refine AFn.introX (E := En 0 md0) (en_ok 0 md0) Tryz.func124 rfl rfl rfl fun _ _ => ?_
 have hn : (xs.map Rn.enc).length = xs.length := List.length_map ..
 refine Need.mk ⟨by omega, by omega, by simp only [hn]; omega, by omega⟩ ?_
 let S : List (List C) → Nat → St := fun rows i => ⟨some (sl (xs.map Rn.enc)) :: none :: none :: some (.one (.ref 3 0 (.cell 0))) :: some (av (.int .i64 i)) :: List.replicate 18 none, absent :: absent :: absent :: ⟨0, 1, some [.us 68 rows]⟩ :: List.replicate 19 absent⟩
 refine ALoop.mk (fun m s => ∃ i : Nat, i ≤ xs.length ∧ m = xs.length - i ∧ s = S ((xs.take i ++ List.replicate (xs.length - i) (⟨[], 0⟩ : Rn)).map encO) i)
  ⟨xs.length, _, Weak.nrm [true, false, false, true, true] [(7, 3)] rfl rfl rfl, 0, Nat.zero_le _, rfl, ?_⟩ ?_
 ·refine Eq.trans (b := S (List.replicate (xs.map Rn.enc).length (encO (⟨[], 0⟩ : Rn))) 0) rfl ?_
  rw [hn, List.take_zero, List.nil_append, List.map_replicate, Nat.sub_zero]
 rintro m s ⟨i, hi, rfl, rfl⟩
 refine Split.mk fun t ht => ?_
 rw [hn] at ht
 cases t
 ·have hin : i = xs.length := by simp at ht; omega
  subst hin
  refine Need.mk ⟨[], _, .same, ?_, rfl⟩ trivial
  rw [List.take_length, Nat.sub_self, List.replicate_zero, List.append_nil]; rfl
 ·have hia : i < xs.length := by simpa using ht
  refine nd ?_
  refine Row.mk _ (map_get _ xs i hia) ?_
  refine ACall.mk _ _ (laws_toRun xs[i] (hr _ (List.getElem_mem _))) ?_
  refine Need.mk ⟨by omega, by rw [List.length_map, to_len _ _ hi]; omega⟩ ?_
  refine Row.mk _ (to_get _ xs (⟨[], 0⟩ : Rn) hia) ?_
  refine Num.mk _ (wrapS (by omega)) ?_
  refine ⟨xs.length - (i + 1), _, by omega, Weak.nrm [true, false, false, true, true] [(3, 3)] rfl rfl rfl, i + 1, by omega, rfl, ?_⟩
  refine Eq.trans (b := S (((xs.take i ++ List.replicate (xs.length - i) (⟨[], 0⟩ : Rn)).map encO).set i (encO xs[i])) (i + 1)) rfl ?_
  rw [← List.map_set, to_step xs (⟨[], 0⟩ : Rn) hia]
theorem laws_toRunSS (xs : List (List Rn)) (hx : xs.length ≤ 1048576) (hr : ∀ l ∈ xs, l.length ≤ 1048576 ∧ ∀ r ∈ l, r.ents.length ≤ 1048576) : AFn Tryz.prog 61 [sl (xs.map encL)] [] (.one (.us 66 (xs.map encLO))) [] := by
 refine AFn.introX (E := En 0 md0) (en_ok 0 md0) Tryz.func61 rfl rfl rfl fun _ _ => ?_
 have hn : (xs.map encL).length = xs.length := List.length_map ..
 refine Need.mk ⟨by omega, by omega, by simp only [hn]; omega, by omega⟩ ?_
 let S : List (List C) → Nat → St := fun rows i => ⟨some (sl (xs.map encL)) :: none :: none :: some (.one (.ref 3 0 (.cell 0))) :: some (av (.int .i64 i)) :: List.replicate 18 none, absent :: absent :: absent :: ⟨0, 1, some [.us 66 rows]⟩ :: List.replicate 19 absent⟩
 refine ALoop.mk (fun m s => ∃ i : Nat, i ≤ xs.length ∧ m = xs.length - i ∧ s = S ((xs.take i ++ List.replicate (xs.length - i) ([] : List Rn)).map encLO) i)
  ⟨xs.length, _, Weak.nrm [true, false, false, true, true] [(7, 3)] rfl rfl rfl, 0, Nat.zero_le _, rfl, ?_⟩ ?_
 ·refine Eq.trans (b := S (List.replicate (xs.map encL).length (encLO ([] : List Rn))) 0) rfl ?_
  rw [hn, List.take_zero, List.nil_append, List.map_replicate, Nat.sub_zero]
 rintro m s ⟨i, hi, rfl, rfl⟩
 refine Split.mk fun t ht => ?_
 rw [hn] at ht
 cases t
 ·have hin : i = xs.length := by simp at ht; omega
  subst hin
  refine Need.mk ⟨[], _, .same, ?_, rfl⟩ trivial
  rw [List.take_length, Nat.sub_self, List.replicate_zero, List.append_nil]; rfl
 ·have hia : i < xs.length := by simpa using ht
  refine nd ?_
  refine Row.mk _ (map_get _ xs i hia) ?_
  refine ACall.mk _ _ (laws_toRunS xs[i] (hr _ (List.getElem_mem _)).1 (hr _ (List.getElem_mem _)).2) ?_
  refine Need.mk ⟨by omega, by rw [List.length_map, to_len _ _ hi]; omega⟩ ?_
  refine Row.mk _ (to_get _ xs ([] : List Rn) hia) ?_
  refine Num.mk _ (wrapS (by omega)) ?_
  refine ⟨xs.length - (i + 1), _, by omega, Weak.nrm [true, false, false, true, true] [(3, 3)] rfl rfl rfl, i + 1, by omega, rfl, ?_⟩
  refine Eq.trans (b := S (((xs.take i ++ List.replicate (xs.length - i) ([] : List Rn)).map encLO).set i (encLO xs[i])) (i + 1)) rfl ?_
  rw [← List.map_set, to_step xs ([] : List Rn) hia]
theorem laws_toIntS (xs : List Int) (hx : xs.length ≤ 1048576) : AFn Tryz.prog 62 [sl (xs.map encI)] [] (.one (.us 3 (xs.map encI))) [] := by
 refine AFn.introX (E := En 0 md0) (en_ok 0 md0) Tryz.func62 rfl rfl rfl fun _ _ => ?_
 have hn : (xs.map encI).length = xs.length := List.length_map ..
 refine Need.mk ⟨by omega, by omega, by simp only [hn]; omega, by omega⟩ ?_
 let S : List (List C) → Nat → St := fun rows i => ⟨some (sl (xs.map encI)) :: none :: none :: some (.one (.ref 3 0 (.cell 0))) :: some (av (.int .i64 i)) :: List.replicate 17 none, absent :: absent :: absent :: ⟨0, 1, some [.us 3 rows]⟩ :: List.replicate 18 absent⟩
 refine ALoop.mk (fun m s => ∃ i : Nat, i ≤ xs.length ∧ m = xs.length - i ∧ s = S ((xs.take i ++ List.replicate (xs.length - i) (0 : Int)).map encI) i)
  ⟨xs.length, _, Weak.nrm [true, false, false, true, true] [(7, 3)] rfl rfl rfl, 0, Nat.zero_le _, rfl, ?_⟩ ?_
 ·refine Eq.trans (b := S (List.replicate (xs.map encI).length (encI (0 : Int))) 0) rfl ?_
  rw [hn, List.take_zero, List.nil_append, List.map_replicate, Nat.sub_zero]
 rintro m s ⟨i, hi, rfl, rfl⟩
 refine Split.mk fun t ht => ?_
 rw [hn] at ht
 cases t
 ·have hin : i = xs.length := by simp at ht; omega
  subst hin
  refine Need.mk ⟨[], _, .same, ?_, rfl⟩ trivial
  rw [List.take_length, Nat.sub_self, List.replicate_zero, List.append_nil]; rfl
 ·have hia : i < xs.length := by simpa using ht
  refine nd ?_
  refine Row.mk _ (map_get _ xs i hia) ?_
  refine Need.mk ⟨by omega, by rw [List.length_map, to_len _ _ hi]; omega⟩ ?_
  refine Row.mk _ (to_get _ xs (0 : Int) hia) ?_
  refine Num.mk _ (wrapS (by omega)) ?_
  refine ⟨xs.length - (i + 1), _, by omega, Weak.nrm [true, false, false, true, true] [(3, 3)] rfl rfl rfl, i + 1, by omega, rfl, ?_⟩
  refine Eq.trans (b := S (((xs.take i ++ List.replicate (xs.length - i) (0 : Int)).map encI).set i (encI xs[i])) (i + 1)) rfl ?_
  rw [← List.map_set, to_step xs (0 : Int) hia]
theorem laws_toTree (t : Tre) (ht : Tre.Small t) : AFn Tryz.prog 18 [.agg (t.enc.map .c)] [] (.agg (encTO t)) [] := by
 refine AFn.introX (E := En 0 md0) (en_ok 0 md0) Tryz.func18 rfl rfl rfl fun _ _ => ?_
 refine ACall.mk _ _ (laws_toEntryS t.mem ht.1) ?_
 refine ACall.mk _ _ (laws_toRunSS t.levels ht.2.1 ht.2.2.1) ?_
 refine ACall.mk _ _ (laws_toIntS t.snaps ht.2.2.2) ?_
 exact ndE trivial
theorem laws_eqEntry (a b : Ent) : AFn Tryz.prog 69 [.agg (a.enc.map .c), .agg (b.enc.map .c)] [] (rb (decide (a = b))) [] := by
 refine AFn.introX (E := En 0 md0) (en_ok 0 md0) Tryz.func69 rfl rfl rfl fun _ _ => ?_
 have fin : ∀ {c : Bool}, c = decide (a = b) → rb c = rb (decide (a = b)) := fun h => by rw [h]
 refine Split.mk fun t ht => ?_
 rw [bytes_beq] at ht
 cases t
 ·refine Split.mk fun t ht1 => ?_
  cases t
  ·refine Split.mk fun t ht2 => ?_
   cases t
   ·refine Split.mk fun t ht3 => ?_
    rw [bytes_beq] at ht3
    cases t
    ·refine Split.mk fun t ht4 => ?_
     cases t
     ·exact Need.mk ⟨[], _, .same, fin (by cases a; cases b; simp_all), rfl⟩ trivial
     ·exact Need.mk ⟨[], _, .same, fin (by cases a; cases b; simp_all), rfl⟩ trivial
    ·exact Need.mk ⟨[], _, .same, fin (by cases a; cases b; simp_all), rfl⟩ trivial
   ·exact Need.mk ⟨[], _, .same, fin (by cases a; cases b; simp_all), rfl⟩ trivial
  ·exact Need.mk ⟨[], _, .same, fin (by cases a; cases b; simp_all), rfl⟩ trivial
 ·exact Need.mk ⟨[], _, .same, fin (by cases a; cases b; simp_all), rfl⟩ trivial
end Go.Proofs.YtcnongahanmclaaGreat
