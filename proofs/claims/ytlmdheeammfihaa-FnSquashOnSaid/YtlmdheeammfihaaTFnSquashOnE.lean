/-
  Contracts of functions, part 5.
-/
import Derived.Test.YtlmdheeammfihaaTFnSquashOnD
namespace Go.Proofs.Ytlmdheeammfihaa
open Go Go.Proofs Ev
set_option maxRecDepth 100000
set_option linter.unusedSimpArgs false
set_option linter.unusedVariables false
set_option maxHeartbeats 4000000
theorem cellAll_two {A B : List Ent} {key : ByteArray} {t : Int} (hA : Dist A) (hB : Desc (findE B key t)) (hAB : ∀ a ∈ A, ∀ b ∈ B, a.seq < b.seq) : cellAll (A ++ B) key t = runC (cellAll A key t) (findE B key t) := by
  have hm : isort sLess (findE A key t ++ findE B key t) = isort sLess (findE A key t) ++ (findE B key t).reverse := by
    refine srt_uniq ((isort_perm _ _).trans (((isort_perm _ _).symm.append_right _).trans ((List.reverse_perm _).symm.append_left _))) (srt_isort sLess_wk _) ?_ fun x hx y hy h1 h2 => ?_
    · refine List.pairwise_append.2 ⟨srt_isort sLess_wk _, (List.pairwise_reverse.2 hB).imp fun {x y} h => ?_, fun x hx y hy => ?_⟩
      · simp only [sLess, decide_eq_false_iff_not]; omega
      · have := hAB x (findE_sub ((isort_perm _ _).mem_iff.1 hx)) y (findE_sub (List.mem_reverse.1 hy))
        simp only [sLess, decide_eq_false_iff_not]; omega
    · simp only [sLess, decide_eq_false_iff_not] at h1 h2
      have he : x.seq = y.seq := by omega
      rcases List.mem_append.1 ((isort_perm _ _).mem_iff.1 hx) with hx | hx
      · rcases List.mem_append.1 ((isort_perm _ _).mem_iff.1 hy) with hy | hy
        · exact hA.inj x (findE_sub hx) y (findE_sub hy) he
        · have := hAB x (findE_sub hx) y (findE_sub hy); omega
      · rcases List.mem_append.1 ((isort_perm _ _).mem_iff.1 hy) with hy | hy
        · have := hAB y (findE_sub hy) x (findE_sub hx); omega
        · obtain ⟨i, hi, rfl⟩ := List.getElem_of_mem hx
          obtain ⟨j, hj, rfl⟩ := List.getElem_of_mem hy
          by_cases hij : i = j
          · subst hij; rfl
          · by_cases hlt : i < j
            · have := List.pairwise_iff_getElem.1 hB i j hi hj hlt; omega
            · have := List.pairwise_iff_getElem.1 hB j i hj hi (by omega); omega
  unfold cellAll mine
  rw [findE_app, hm, List.foldl_append, List.foldl_reverse]; rfl
/-- An entry, later. -/
def upE (e : Ent) : Ent := { e with seq := e.seq + 100 }
theorem up_ord {l : List Ent} (h : ordOk l = true) (hs : ∀ e ∈ l, 1 ≤ e.seq ∧ e.seq ≤ 28) : ordOk (l.map upE) = true := by
  refine ord_of_pw ?_ fun e he => ?_
  · rw [List.pairwise_map]
    refine (pw_of_ord h).imp fun {x y} h => ?_
    have h : (slt x.key y.key || (decide (x.key = y.key) && decide (y.seq < x.seq))) = true := h
    show (slt x.key y.key || (decide (x.key = y.key) && decide (y.seq + 100 < x.seq + 100))) = true
    rw [Bool.or_eq_true, Bool.and_eq_true, decide_eq_true_iff, decide_eq_true_iff] at h ⊢
    exact h.imp_right fun h => ⟨h.1, by omega⟩
  · obtain ⟨e0, h0, rfl⟩ := List.mem_map.1 he
    have h1 := ordOk_all h e0 h0
    have h2 := hs e0 h0
    have e1 : (upE e0).key = e0.key := rfl
    have e2 : (upE e0).seq = e0.seq + 100 := rfl
    have e3 : (upE e0).kind = e0.kind := rfl
    have e4 : (upE e0).text = e0.text := rfl
    have e5 : (upE e0).n = e0.n := rfl
    unfold entOk at h1 ⊢
    rw [e1, e2, e3, e4, e5]
    rw [Bool.and_eq_true, Bool.and_eq_true, Bool.and_eq_true, decide_eq_true_iff, decide_eq_true_iff] at h1 ⊢
    obtain ⟨q1, q2, q3, q4⟩ := h1
    exact ⟨q1, by omega, by omega, q4⟩
theorem on_cell {old l : List Ent} {snaps : List Int} {key : ByteArray} {t : Int} (ho : Dist old) (hos : ∀ e ∈ old, e.seq ≤ 24) (h : ordOk l = true) (hs : ∀ e ∈ l, 101 ≤ e.seq ∧ e.seq ≤ 128) (ht : t ∈ snaps ∨ t ≤ 100 ∨ 128 ≤ t) :
    cellAll (old ++ l) key t = cellAll (old ++ squash l snaps false) key t := by
  have hp := pw_of_ord h
  have hm : ∀ e ∈ squash l snaps false, 101 ≤ e.seq ∧ e.seq ≤ 128 := fun e he => by
    obtain ⟨e', h1, h2, _⟩ := squash_mem he
    rw [h2]; exact hs e' h1
  rw [cellAll_two ho (findE_desc hp key t) fun a ha b hb => by have := hos a ha; have := hs b hb; omega, cellAll_two ho (findE_desc (squash_pw hp) key t) fun a ha b hb => by have := hos a ha; have := hm b hb; omega]
  by_cases hlt : t ≤ 100
  · have e1 : findE l key t = [] := List.filter_eq_nil_iff.2 fun e he => by have := hs e he; simp; intro _; omega
    have e2 : findE (squash l snaps false) key t = [] := List.filter_eq_nil_iff.2 fun e he => by have := hm e he; simp; intro _; omega
    rw [e1, e2]
  · exact (squash_run (last := false) (fun h => nomatch h) h (ht.imp_right fun h e he => by have := hs e he; omega)).symm
theorem laws_FnSquashOn (bs ms : List Nat) (hb : ∀ b ∈ bs, b < 256) (hm : ∀ b ∈ ms, b < 256) : AFn Try.prog 8 [sl (bs.map encB), sl (ms.map encB)] [] (rb true) [] := by
  have hbl : (bs.map encB).length = bs.length := List.length_map ..
  have hml : (ms.map encB).length = ms.length := List.length_map ..
  by_cases hl : bs.length ≤ 1048576
  · by_cases hl2 : ms.length ≤ 1048576
    · obtain ⟨xs, snaps, b, hD, hxl, hE, hsl, hsn⟩ := Draw_Squash bs hb hl
      obtain ⟨old, key, seq, hD2, holl, hoE, hoD, hkey, hsq⟩ := Draw_CellAll ms hm hl2
      have hOk : OkE xs := fun e he => (hE e he).2.1
      have hS1 := impl_Squash xs snaps (by omega) (by omega) hOk b
      have hS2 := spec_Squash xs snaps (by omega) (by omega) hOk b
      have hex : ∃ o, squashed xs snaps b = o := ⟨_, rfl⟩
      obtain ⟨o, ho⟩ := hex
      have hol : o.length ≤ xs.length := by
        rw [← ho]; unfold squashed
        split
        · exact squash_len
        · exact Nat.zero_le _
      rw [ho] at hS1 hS2
      have hW := laws_wpEnts o o (by omega)
      rw [decide_eq_true rfl] at hW
      have hxn : (xs.map Ent.enc).length = xs.length := List.length_map ..
      have hon : (o.map Ent.enc).length = o.length := List.length_map ..
      have holn : (old.map Ent.enc).length = old.length := List.length_map ..
      have hsnn : (snaps.map encI).length = snaps.length := List.length_map ..
      refine AFn.introX (E := En 0 md0 (fz := [5, 6, 8, 11, 18, 19, 20, 21])) (en_ok 0 _ _ _ _ _) Try.func8 rfl rfl rfl fun _ _ => ?_
      refine Split.mk fun t h1 => ?_
      cases t
      case true => (exfalso; rw [decide_eq_true_iff] at h1; omega)
      rw [decide_eq_false_iff_not] at h1
      refine Split.mk fun t h2 => ?_
      cases t
      case true => (exfalso; rw [decide_eq_true_iff] at h2; omega)
      rw [decide_eq_false_iff_not] at h2
      refine ACall.mk _ _ hD ?_
      refine Fz.mk _ (frzE _) ?_
      refine Fz.mk _ (frzI _) ?_
      refine ACall.mk _ _ hD2 ?_
      refine Fz.mk _ (frzE _) ?_
      refine ACall.mk _ _ hS1 ?_
      refine Fz.mk _ (frzE _) ?_
      let S : Nat → List (List C) → St := fun i R => ⟨none :: none :: none :: none :: none :: some (sl (List.map Ent.enc xs)) :: some (sl (List.map encI snaps)) :: some (av (.bool b)) :: some (sl (List.map Ent.enc old)) :: some (av (.string key)) :: none :: some (sl (List.map Ent.enc o)) :: some (.one (.ref 12 0 (.cell 0))) :: some (av (.int .i64 i)) :: List.replicate 128 none, absent :: absent :: absent :: absent :: absent :: absent :: absent :: absent :: absent :: absent :: absent :: absent :: ⟨0, 1, some [.us 32 R]⟩ :: List.replicate 129 absent⟩
      refine ALoop.mk (fun m s => ∃ (i : Nat) (R : List (List C)), i ≤ xs.length ∧ m = xs.length - i ∧ R = ((xs.take i).map upE).map Ent.enc ∧ s = S i R)
        ⟨_, _, Weak.trans (Weak.nrm [false, false, false, false, false, true, true, true, true, true, false, true, true, true] [(47, 12)] rfl rfl rfl) Weak.one, 0, [], Nat.zero_le _, rfl, rfl, rfl⟩ ?_
      rintro m s ⟨i, R, hi, rfl, hR, hs⟩
      by_cases hin : i < xs.length
      · have hadd : IntKind.i64.wrap (xs[i].seq + 100) = xs[i].seq + 100 := by have := (hE _ (List.getElem_mem hin)).2.2.1; have := (hE _ (List.getElem_mem hin)).2.2.2.1; exact wrapI (by omega) (by omega)
        have hRl : R.length ≤ 15 := by rw [hR, List.length_map, List.length_map, List.length_take]; omega
        have hR2 : R ++ [(upE xs[i]).enc] = ((xs.take (i + 1)).map upE).map Ent.enc := by rw [hR, List.take_succ_eq_append_getElem hin, List.map_append, List.map_append]; rfl
        subst hs
        refine Split.mk fun t h1 => ?_
        cases t
        case false => (exfalso; rw [decide_eq_false_iff_not] at h1; omega)
        rw [decide_eq_true_iff] at h1
        refine Need.mk (by omega) ?_
        refine Row.mk _ (map_get _ xs i (by omega)) ?_
        refine Num.mk _ hadd ?_
        refine Need.mk (appEq (A' := _) (B' := [[vs xs[i].key, vi (xs[i].seq + 100), vi xs[i].kind, vs xs[i].text, vi xs[i].n]]) rfl rfl (by simp only [List.length_append, List.length_map, List.length_take, List.length_drop, List.length_cons, List.length_nil, List.length_reverse, List.length_replicate, List.length_set]; omega) (by decide)) ?_
        refine Num.mk _ (wrapS (by omega)) ?_
        exact ⟨_, _, by omega, Weak.nrm [false, false, false, false, false, true, true, true, true, true, false, true, true, true] [(65, 12)] rfl rfl rfl, i + 1, _, by omega, rfl, hR2, rfl⟩
      · have hin : i = xs.length := by omega
        rw [hin, List.take_length] at hR
        have hex : ∃ us, xs.map upE = us := ⟨_, rfl⟩
        obtain ⟨us, hus⟩ := hex
        have hul : us.length = xs.length := by rw [← hus, List.length_map]
        have hun : (us.map Ent.enc).length = us.length := List.length_map ..
        rw [hus] at hR
        subst hR
        subst hs
        refine Split.mk fun t h1 => ?_
        cases t
        case true => (exfalso; rw [decide_eq_true_iff] at h1; omega)
        rw [decide_eq_false_iff_not] at h1
        let S2 : Nat → List (List C) → St := fun i R => ⟨none :: none :: none :: none :: none :: some (sl (List.map Ent.enc xs)) :: some (sl (List.map encI snaps)) :: some (av (.bool b)) :: some (sl (List.map Ent.enc old)) :: some (av (.string key)) :: none :: some (sl (List.map Ent.enc o)) :: some (.one (.ref 12 0 (.cell 0))) :: none :: none :: some (.one (.ref 15 0 (.cell 0))) :: some (av (.int .i64 i)) :: List.replicate 125 none, absent :: absent :: absent :: absent :: absent :: absent :: absent :: absent :: absent :: absent :: absent :: absent :: ⟨0, 1, some [.us 32 (List.map Ent.enc us)]⟩ :: absent :: absent :: ⟨0, 1, some [.us 3 R]⟩ :: List.replicate 126 absent⟩
        refine ALoop.mk (fun m s => ∃ (i : Nat) (R : List (List C)), i ≤ snaps.length ∧ m = snaps.length - i ∧ R = ((snaps.take i).map (· + 100)).map encI ∧ s = S2 i R)
          ⟨_, _, Weak.trans (Weak.nrm [false, false, false, false, false, true, true, true, true, true, false, true, true, false, false, true, true] [(12, 12), (66, 15)] rfl rfl rfl) Weak.one, 0, [], Nat.zero_le _, rfl, rfl, rfl⟩ ?_
        rintro m s ⟨i, R, hi, rfl, hR, hs⟩
        by_cases hin : i < snaps.length
        · have hadd : IntKind.i64.wrap (snaps[i] + 100) = snaps[i] + 100 := by have := hsn _ (List.getElem_mem hin); exact wrapI (by omega) (by omega)
          have hRl : R.length ≤ 3 := by rw [hR, List.length_map, List.length_map, List.length_take]; omega
          have hR2 : R ++ [[vi (snaps[i] + 100)]] = ((snaps.take (i + 1)).map (· + 100)).map encI := by rw [hR, List.take_succ_eq_append_getElem hin, List.map_append, List.map_append]; rfl
          subst hs
          refine Split.mk fun t h1 => ?_
          cases t
          case false => (exfalso; rw [decide_eq_false_iff_not] at h1; omega)
          rw [decide_eq_true_iff] at h1
          refine Need.mk (by omega) ?_
          refine Row.mk _ (map_get _ snaps i (by omega)) ?_
          refine Num.mk _ hadd ?_
          refine Need.mk (appEq (A' := _) (B' := [[vi (snaps[i] + 100)]]) rfl rfl (by simp only [List.length_append, List.length_map, List.length_take, List.length_drop, List.length_cons, List.length_nil, List.length_reverse, List.length_replicate, List.length_set]; omega) (by decide)) ?_
          refine Num.mk _ (wrapS (by omega)) ?_
          exact ⟨_, _, by omega, Weak.nrm [false, false, false, false, false, true, true, true, true, true, false, true, true, false, false, true, true] [(12, 12), (80, 15)] rfl rfl rfl, i + 1, _, by omega, rfl, hR2, rfl⟩
        · have hin : i = snaps.length := by omega
          rw [hin, List.take_length] at hR
          have hex : ∃ hs, snaps.map (· + 100) = hs := ⟨_, rfl⟩
          obtain ⟨hs, hhs⟩ := hex
          have hhl : hs.length = snaps.length := by rw [← hhs, List.length_map]
          have hhn : (hs.map encI).length = hs.length := List.length_map ..
          have hOkU : OkE us := fun e he => by
            rw [← hus] at he
            obtain ⟨e0, h0, rfl⟩ := List.mem_map.1 he
            exact hOk e0 h0
          have hS3 := impl_Squash us hs (by omega) (by omega) hOkU false
          have hex : ∃ w, squashed us hs false = w := ⟨_, rfl⟩
          obtain ⟨w, hw⟩ := hex
          have hwl : w.length ≤ us.length := by
            rw [← hw]; unfold squashed
            split
            · exact squash_len
            · exact Nat.zero_le _
          have hwn : (w.map Ent.enc).length = w.length := List.length_map ..
          rw [hw] at hS3
          have hcell : ordOk xs = true → ∀ t, (t = 100000 ∨ t = 50 ∨ t = 7 ∨ t ∈ hs) → cellAll (old ++ us) key t = cellAll (old ++ w) key t := fun h t ht => by
            have hseq : ∀ e ∈ xs, 1 ≤ e.seq ∧ e.seq ≤ 28 := fun e he => ⟨(hE e he).2.2.1, (hE e he).2.2.2.1⟩
            have hou : ordOk us = true := by rw [← hus]; exact up_ord h hseq
            rw [← hw, show squashed us hs false = squash us hs false from if_pos hou]
            refine on_cell hoD (fun e he => (hoE e he).2.2) hou (fun e he => ?_) ?_
            · rw [← hus] at he
              obtain ⟨e0, h0, rfl⟩ := List.mem_map.1 he
              have := hseq e0 h0
              show 101 ≤ e0.seq + 100 ∧ e0.seq + 100 ≤ 128
              omega
            · rcases ht with h | h | h | h
              · exact .inr (.inr (by omega))
              · exact .inr (.inl (by omega))
              · exact .inr (.inl (by omega))
              · exact .inl h
          rw [hhs] at hR
          have hfA : ∀ z : List Ent, Frz (.us 32 (([] ++ old.map Ent.enc) ++ z.map Ent.enc)) (.sl ((old ++ z).map Ent.enc)) := fun z => by rw [List.nil_append, ← List.map_append]; exact frzE _
          have hfA1 := hfA us
          have hfA2 := hfA w
          have hfT : Frz (.us 3 ([[vi 100000], [vi 50], [vi 7]] ++ hs.map encI)) (.sl ((100000 :: 50 :: 7 :: hs).map encI)) := frzI (100000 :: 50 :: 7 :: hs)
          have hex : ∃ ts, 100000 :: 50 :: 7 :: hs = ts := ⟨_, rfl⟩
          obtain ⟨ts, hts⟩ := hex
          have htl : ts.length ≤ 6 := by rw [← hts]; simp; omega
          have htm : ∀ t ∈ ts, t = 100000 ∨ t = 50 ∨ t = 7 ∨ t ∈ hs := fun t h => by
            rw [← hts] at h
            simpa using h
          rw [hts] at hfT
          have htn : (ts.map encI).length = ts.length := List.length_map ..
          have hAn : ((old ++ us).map Ent.enc).length ≤ 100 := by rw [List.length_map, List.length_append]; omega
          subst hR
          subst s
          refine Split.mk fun t h1 => ?_
          cases t
          case true => (exfalso; rw [decide_eq_true_iff] at h1; omega)
          rw [decide_eq_false_iff_not] at h1
          refine ACall.mk _ _ hS2 ?_
          refine Fz.mk _ (frzE _) ?_
          refine ACall.mk _ _ hW ?_
          refine Need.mk (⟨ClL.mem (.v .nil), no_objs⟩) ?_
          refine Split.mk fun t h2 => ?_
          cases t
          case false => cases h2
          let S3 : Nat → St := fun i => ⟨none :: none :: none :: none :: none :: some (sl (List.map Ent.enc xs)) :: none :: none :: some (sl (List.map Ent.enc old)) :: some (av (.string key)) :: none :: none :: some (.one (.ref 12 0 (.cell 0))) :: none :: none :: some (.one (.ref 15 0 (.cell 0))) :: none :: some (av (.int .i64 i)) :: List.replicate 124 none, absent :: absent :: absent :: absent :: absent :: absent :: absent :: absent :: absent :: absent :: absent :: absent :: ⟨0, 1, some [.us 32 (List.map Ent.enc us)]⟩ :: absent :: absent :: ⟨0, 1, some [.us 3 (List.map encI hs)]⟩ :: List.replicate 126 absent⟩
          refine ALoop.mk (fun m s => ∃ i : Nat, 1 ≤ i ∧ i ≤ xs.length + 1 ∧ m = xs.length + 1 - i ∧ (∀ j (h1 : 0 < j) (_ : j < i) (h3 : j < xs.length), eLess (xs[j - 1]'(by omega)) xs[j] = true) ∧ s = S3 i)
            ⟨_, _, Weak.nrm [false, false, false, false, false, true, false, false, true, true, false, false, true, false, false, true, false, true] [(12, 12), (15, 15)] rfl rfl rfl, 1, Nat.le_refl _, by omega, rfl, fun j h1 h2 => by omega, rfl⟩ ?_
          rintro m s ⟨i, hi1, hi, rfl, hno, hst⟩
          by_cases hlt : i < xs.length
          · have hsub : IntKind.i64.wrap ((i : Int) - 1) = ((i - 1 : Nat) : Int) := wrapI' (by omega) (by omega)
            have hL := impl_EntryLess (xs[i - 1]'(by omega)) xs[i]
            have hex : ∃ c, eLess (xs[i - 1]'(by omega)) xs[i] = c := ⟨_, rfl⟩
            obtain ⟨c, hc⟩ := hex
            rw [hc] at hL
            have hr1 := map_get Ent.enc xs (i - 1) (by omega)
            cases c
            · subst hst
              refine Split.mk fun t h1 => ?_
              cases t
              case false => (exfalso; rw [decide_eq_false_iff_not] at h1; omega)
              rw [decide_eq_true_iff] at h1
              refine Num.mk _ hsub ?_
              refine Need.mk (by omega) ?_
              refine Row.mk _ hr1 ?_
              refine Need.mk (by omega) ?_
              refine Row.mk _ (map_get _ xs i (by omega)) ?_
              refine ACall.mk _ _ hL ?_
              refine Split.mk fun t h2 => ?_
              cases t
              case true => cases h2
              refine Need.mk (rfl) ?_
              exact Need.mk ⟨[], _, .same, rfl, rfl⟩ trivial
            · have hno2 : ∀ j (h1 : 0 < j) (_ : j < i + 1) (h3 : j < xs.length), eLess (xs[j - 1]'(by omega)) xs[j] = true := fun j h1 h2 h3 => by
                by_cases hj : j = i
                · subst hj; exact hc
                · exact hno j h1 (by omega) h3
              subst hst
              refine Split.mk fun t h1 => ?_
              cases t
              case false => (exfalso; rw [decide_eq_false_iff_not] at h1; omega)
              rw [decide_eq_true_iff] at h1
              refine Num.mk _ hsub ?_
              refine Need.mk (by omega) ?_
              refine Row.mk _ hr1 ?_
              refine Need.mk (by omega) ?_
              refine Row.mk _ (map_get _ xs i (by omega)) ?_
              refine ACall.mk _ _ hL ?_
              refine Split.mk fun t h2 => ?_
              cases t
              case false => cases h2
              refine Need.mk (rfl) ?_
              refine Num.mk _ (wrapS (by omega)) ?_
              exact ⟨_, _, by omega, Weak.nrm [false, false, false, false, false, true, false, false, true, true, false, false, true, false, false, true, false, true] [(12, 12), (15, 15)] rfl rfl rfl, i + 1, by omega, by omega, rfl, hno2, rfl⟩
          · have hord : ordOk xs = true := (ordOk_iff xs).2 fun j hj => ⟨(hE _ (List.getElem_mem hj)).1, fun i' hi' => by
              have := hno j (by omega) (by omega) hj
              have e : j - 1 = i' := by omega
              simpa [e] using this⟩
            have hcell := hcell hord
            subst hst
            refine Split.mk fun t h1 => ?_
            cases t
            case true => (exfalso; rw [decide_eq_true_iff] at h1; omega)
            rw [decide_eq_false_iff_not] at h1
            refine Fz.mk _ (frzE _) ?_
            refine Fz.mk _ (frzI _) ?_
            refine ACall.mk _ _ hS3 ?_
            refine Need.mk (⟨ClL.mem (.us (clE _) .nil), no_objs⟩) ?_
            refine Fz.mk _ (frzE _) ?_
            refine Need.mk (⟨(plainE _), (lenE _)⟩) ?_
            refine Need.mk (appEq (A' := []) (B' := _) rfl rfl (by simp only [List.length_append, List.length_map, List.length_take, List.length_drop, List.length_cons, List.length_nil, List.length_reverse, List.length_replicate, List.length_set]; omega) (by decide)) ?_
            refine Need.mk ((plainE _)) ?_
            refine Need.mk (appEq (A' := ([] ++ _)) (B' := _) rfl rfl (by simp only [List.length_append, List.length_map, List.length_take, List.length_drop, List.length_cons, List.length_nil, List.length_reverse, List.length_replicate, List.length_set]; omega) (by decide)) ?_
            refine Fz.mk _ hfA1 ?_
            refine Need.mk (⟨(plainE _), (lenE _)⟩) ?_
            refine Need.mk (appEq (A' := []) (B' := _) rfl rfl (by simp only [List.length_append, List.length_map, List.length_take, List.length_drop, List.length_cons, List.length_nil, List.length_reverse, List.length_replicate, List.length_set]; omega) (by decide)) ?_
            refine Need.mk (⟨(plainE _), (lenE _)⟩) ?_
            refine Need.mk (appEq (A' := ([] ++ _)) (B' := _) rfl rfl (by simp only [List.length_append, List.length_map, List.length_take, List.length_drop, List.length_cons, List.length_nil, List.length_reverse, List.length_replicate, List.length_set]; omega) (by decide)) ?_
            refine Fz.mk _ hfA2 ?_
            refine Need.mk ((plainI _)) ?_
            refine Need.mk (appEq (A' := [[vi 100000], [vi 50], [vi 7]]) (B' := _) rfl rfl (by simp only [List.length_append, List.length_map, List.length_take, List.length_drop, List.length_cons, List.length_nil, List.length_reverse, List.length_replicate, List.length_set]; omega) (by decide)) ?_
            refine Fz.mk _ hfT ?_
            have hul2 : (old ++ us).length ≤ 1048576 := by rw [List.length_append]; omega
            have hwl2 : (old ++ w).length ≤ 1048576 := by rw [List.length_append]; omega
            have hC : ∀ t, AFn Try.prog 28 [sl ((old ++ us).map Ent.enc), av (.string key), av (.int .i64 t)] [] (.agg (cellAll (old ++ us) key t).enc) [] := fun t => impl_CellAll (old ++ us) _ t hul2
            have hC' : ∀ t, AFn Try.prog 28 [sl ((old ++ w).map Ent.enc), av (.string key), av (.int .i64 t)] [] (.agg (cellAll (old ++ w) key t).enc) [] := fun t => impl_CellAll (old ++ w) _ t hwl2
            have hex : ∃ la, old ++ us = la := ⟨_, rfl⟩
            obtain ⟨la, hla⟩ := hex
            have hex : ∃ lb, old ++ w = lb := ⟨_, rfl⟩
            obtain ⟨lb, hlb⟩ := hex
            rw [hla] at hC hcell
            rw [hlb] at hC' hcell
            let S4 : List Ent → List Ent → Nat → St := fun la lb i => ⟨none :: none :: none :: none :: none :: none :: none :: none :: none :: some (av (.string key)) :: none :: none :: none :: none :: none :: none :: none :: none :: none :: some (sl (List.map Ent.enc la)) :: some (sl (List.map Ent.enc lb)) :: some (sl (List.map encI ts)) :: some (av (.int .i64 i)) :: List.replicate 119 none, List.replicate 142 absent⟩
            refine ALoop.mk (fun m s => ∃ i : Nat, i ≤ ts.length ∧ m = ts.length - i ∧ s = S4 la lb i)
              ⟨_, _, Weak.nrm [false, false, false, false, false, false, false, false, false, true, false, false, false, false, false, false, false, false, false, true, true, true, true] [] rfl rfl rfl, 0, Nat.zero_le _, rfl, by rw [← hla, ← hlb]; rfl⟩ ?_
            rintro m s ⟨k, hk, rfl, hst⟩
            by_cases hkn : k < ts.length
            · have hC1 := hC ts[k]
              have hC2 := hC' ts[k]
              have hce := hcell ts[k] (htm _ (List.getElem_mem hkn))
              have hex : ∃ c, cellAll lb key ts[k] = c := ⟨_, rfl⟩
              obtain ⟨c, hc⟩ := hex
              rw [hc] at hce hC2
              rw [hce] at hC1
              have hcr : c = c := rfl
              subst hst
              refine Split.mk fun t h1 => ?_
              cases t
              case false => (exfalso; rw [decide_eq_false_iff_not] at h1; omega)
              rw [decide_eq_true_iff] at h1
              refine Need.mk (by omega) ?_
              refine Row.mk _ (map_get _ ts k (by omega)) ?_
              refine ACall.mk _ _ hC1 ?_
              refine Need.mk (by omega) ?_
              refine Row.mk _ (map_get _ ts k (by omega)) ?_
              refine ACall.mk _ _ hC2 ?_
              refine Split.mk fun t h2 => ?_
              cases t
              case true => (exfalso; rw [Bool.not_eq_true', cel_beq, decide_eq_false_iff_not] at h2; exact absurd ‹_› h2)
              rw [Bool.not_eq_false', cel_beq, decide_eq_true_iff] at h2
              refine Need.mk (rfl) ?_
              refine Num.mk _ (wrapS (by omega)) ?_
              exact ⟨_, _, by omega, Weak.nrm [false, false, false, false, false, false, false, false, false, true, false, false, false, false, false, false, false, false, false, true, true, true, true] [] rfl rfl rfl, k + 1, by omega, rfl, rfl⟩
            · subst hst
              refine Split.mk fun t h1 => ?_
              cases t
              case true => (exfalso; rw [decide_eq_true_iff] at h1; omega)
              rw [decide_eq_false_iff_not] at h1
              exact Need.mk ⟨[], _, .same, rfl, rfl⟩ trivial
    · refine AFn.introX (E := En 0 md0 (fz := [5, 6, 8, 11, 18, 19, 20, 21])) (en_ok 0 _ _ _ _ _) Try.func8 rfl rfl rfl fun _ _ => ?_
      refine Split.mk fun t h1 => ?_
      cases t
      case true => (exfalso; rw [decide_eq_true_iff] at h1; omega)
      rw [decide_eq_false_iff_not] at h1
      refine Split.mk fun t h2 => ?_
      cases t
      case false => (exfalso; rw [decide_eq_false_iff_not] at h2; omega)
      rw [decide_eq_true_iff] at h2
      exact Need.mk ⟨[], _, .same, rfl, rfl⟩ trivial
  · refine AFn.introX (E := En 0 md0 (fz := [5, 6, 8, 11, 18, 19, 20, 21])) (en_ok 0 _ _ _ _ _) Try.func8 rfl rfl rfl fun _ _ => ?_
    refine Split.mk fun t h1 => ?_
    cases t
    case false => (exfalso; rw [decide_eq_false_iff_not] at h1; omega)
    rw [decide_eq_true_iff] at h1
    exact Need.mk ⟨[], _, .same, rfl, rfl⟩ trivial
theorem laws_FnSquashOn_any (c0 : C) (h0 : Sh (.slice tyB) c0) (c1 : C) (h1 : Sh (.slice tyB) c1) : AFn Try.prog 8 [.one (.c c0), .one (.c c1)] [] (rb true) [] := by
  obtain ⟨bs, rfl, hb⟩ := dec_bytes h0
  obtain ⟨ms, rfl, hm⟩ := dec_bytes h1
  exact laws_FnSquashOn bs ms hb hm
end Go.Proofs.Ytlmdheeammfihaa
