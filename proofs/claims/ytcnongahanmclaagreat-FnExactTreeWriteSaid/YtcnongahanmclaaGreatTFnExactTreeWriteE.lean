/-
  Contracts of functions, part 5.
-/
import Derived.Test.YtcnongahanmclaaGreatTFnExactTreeWriteD
namespace Go.Proofs.YtcnongahanmclaaGreat
open Go Go.Proofs Ev
set_option maxRecDepth 100000
set_option linter.unusedSimpArgs false
set_option linter.unusedVariables false
set_option maxHeartbeats 20000000
theorem sizeH (a b : List (List C)) (hs : List Hd1) (r : List C) (k : Nat) (ha : a = hs.map encH) (hb : b = [r]) (hk : k ≤ 100) (h : hs.length ≤ 2000000) : (a.length + b.length) * k ≤ 140737488355328 ∧ a.length + b.length ≤ maxLen := by
  subst ha; subst hb
  rw [List.length_map]
  have : (hs.length + [r].length) * k ≤ (hs.length + [r].length) * 100 := Nat.mul_le_mul_left _ hk
  simp only [List.length_cons, List.length_nil] at this ⊢
  exact ⟨by omega, Nat.le_trans (by omega : hs.length + 1 ≤ 2000001) (by decide)⟩
theorem spec_MergeAll (L : List (List Ent)) (hN : L.flatten.length ≤ 1048576) (hL : L.length ≤ 1048576) : AFn Tryz.prog 114 [sl (L.map encX)] [] (.one (.us 54 ((isort eLess L.flatten).map Ent.enc))) [] := by
  refine AFn.introX (E := En 0 md0) (en_ok 0 _) Tryz.func114 rfl rfl rfl fun _ _ => ?_
  have hn : (L.map encX).length = L.length := List.length_map ..
  have htot : ∀ i, i ≤ L.length → ((L.take i).flatten).length ≤ L.flatten.length := fun i _ => by
    have : L.flatten = (L.take i).flatten ++ (L.drop i).flatten := by rw [← List.flatten_append, List.take_append_drop]
    rw [this, List.length_append]; omega
  have hstep : ∀ (i : Nat) (h : i < L.length), (L.take (i + 1)).flatten = (L.take i).flatten ++ L[i] := fun i h => by
    rw [List.take_succ_eq_append_getElem h, List.flatten_append]; simp
  let S : Nat → List Ent → Nat → St := fun kd out i => ⟨some (sl (L.map encX)) :: none :: none :: some (.one (.ref 3 0 (.cell 0))) :: some (av (.int .i64 i)) :: List.replicate 27 none, absent :: absent :: absent :: ⟨0, kd, some [.us 54 (out.map Ent.enc)]⟩ :: List.replicate 28 absent⟩
  let S2 : Nat → List Ent → Nat → Nat → St := fun kd out i k => ⟨some (sl (L.map encX)) :: none :: none :: some (.one (.ref 3 0 (.cell 0))) :: some (av (.int .i64 i)) :: some (av (.int .i64 k)) :: List.replicate 26 none, absent :: absent :: absent :: ⟨0, kd, some [.us 54 (out.map Ent.enc)]⟩ :: List.replicate 28 absent⟩
  refine ALoop.mk (fun m s => ∃ i kd : Nat, i ≤ L.length ∧ m = L.length - i ∧ s = S kd (isort eLess (L.take i).flatten) i)
    ⟨L.length, _, Weak.nrm [true, false, false, true, true] [(6, 3)] rfl rfl rfl, 0, 2, Nat.zero_le _, rfl, rfl⟩ ?_
  rintro m s ⟨i, kd, hi, rfl, hs⟩
  by_cases hin : i = L.length
  · rw [hin, List.take_length] at hs
    subst hs
    refine Split.mk fun t ht => ?_
    rw [hn] at ht
    cases t
    case true => rw [decide_eq_true_iff] at ht; omega
    exact Need.mk ⟨[], _, .same, rfl, rfl⟩ trivial
  · have hia : i < L.length := by omega
    have hst := hstep i hia
    have htt := htot (i + 1) hia
    rw [hst, List.length_append] at htt
    have hrow := map_get encX L i hia
    have hln : (L[i].map Ent.enc).length = L[i].length := List.length_map ..
    have hex : ∃ l, L[i] = l := ⟨_, rfl⟩
    obtain ⟨l, hle⟩ := hex
    rw [hle] at hst htt hrow hln
    have hex : ∃ A, (L.take i).flatten = A := ⟨_, rfl⟩
    obtain ⟨A, hA⟩ := hex
    rw [hA] at hst htt hs
    subst hs
    refine Split.mk fun t ht => ?_
    rw [hn] at ht
    cases t
    case false => rw [decide_eq_false_iff_not] at ht; omega
    refine ALoop.mk (fun m s => ∃ k kd : Nat, k ≤ l.length ∧ m = l.length - k ∧ s = S2 kd (isort eLess (A ++ l.take k)) i k)
      ⟨l.length, _, Weak.nrm [true, false, false, true, true, true] [(3, 3)] rfl rfl rfl, 0, kd, Nat.zero_le _, rfl, by rw [List.take_zero, List.append_nil]; rfl⟩ ?_
    rintro m s ⟨k, kd, hk, rfl, hs⟩
    by_cases hkn : k = l.length
    · rw [hkn, List.take_length] at hs
      subst hs
      refine Need.mk (by omega) ?_
      refine Row.mk _ hrow ?_
      refine Split.mk fun t ht => ?_
      rw [hln] at ht
      cases t
      case true => rw [decide_eq_true_iff] at ht; omega
      refine Num.mk _ (wrapS (by omega)) ?_
      refine ⟨L.length - (i + 1), _, by omega, Weak.nrm [true, false, false, true, true] [(3, 3)] rfl rfl rfl, i + 1, kd, by omega, rfl, ?_⟩
      rw [hst]; rfl
    · have hka : k < l.length := by omega
      have hrow2 := map_get Ent.enc l k hka
      have hlen : (isort eLess (A ++ l.take k)).length ≤ 1048576 := by rw [isort_len, List.length_append, List.length_take]; omega
      have hins : ins eLess (isort eLess (A ++ l.take k)) l[k] = isort eLess (A ++ l.take (k + 1)) := by rw [← isort_snoc, List.append_assoc, ← List.take_succ_eq_append_getElem hka]
      have hex : ∃ ys, isort eLess (A ++ l.take k) = ys := ⟨_, rfl⟩
      obtain ⟨ys, hy⟩ := hex
      rw [hy] at hs hlen hins
      have hP := spec_l4Put ys l[k] hlen
      subst hs
      refine Need.mk (by omega) ?_
      refine Row.mk _ hrow ?_
      refine Split.mk fun t ht => ?_
      rw [hln] at ht
      cases t
      case false => rw [decide_eq_false_iff_not] at ht; omega
      refine Need.mk (by omega) ?_
      refine Row.mk _ hrow ?_
      refine Need.mk (by omega) ?_
      refine Row.mk _ hrow2 ?_
      refine Fz.mk _ (frzE ys) ?_
      refine ACall.mk _ _ hP ?_
      refine Need.mk ⟨closed_us _ _, no_objs⟩ ?_
      refine Num.mk _ (wrapS (by omega)) ?_
      refine ⟨l.length - (k + 1), _, by omega, Weak.nrm [true, false, false, true, true, true] [(30, 3)] rfl rfl rfl, k + 1, 1, by omega, rfl, ?_⟩
      rw [← hins]; rfl
theorem impl_MergeAll (L : List (List Ent)) (hN : L.flatten.length ≤ 1048576) (hL : L.length ≤ 1048576) : AFn Tryz.prog 110 [sl (L.map encX)] [] (.one (.us 54 ((isort eLess L.flatten).map Ent.enc))) [] := by
  refine AFn.introX (E := En 0 (md1 [116]) (fz := [26])) (en_ok 0 _ _ _ _ _) Tryz.func110 rfl rfl rfl fun _ _ => ?_
  have hpos : 0 < Tryz.prog.cellsOf 54 := pos_of tab_ok (t := 54) rfl
  have hn : (L.map encX).length = L.length := List.length_map ..
  have hmem : ∀ l ∈ L, l.length ≤ 1048576 := fun l hl => by
    have := sum_mem List.length hl
    rw [← List.length_flatten] at this
    omega
  have hex : ∃ K, L.map (isort eLess) = K := ⟨_, rfl⟩
  obtain ⟨K, hK⟩ := hex
  have hKl : K.length = L.length := by rw [← hK, List.length_map]
  have hKi : ∀ (i : Nat) (h : i < L.length), K[i]'(by omega) = isort eLess L[i] := fun i h => by subst hK; simp
  have hKs : ∀ l ∈ K, Srt eLess l := fun l hl => by
    rw [← hK] at hl
    obtain ⟨l0, _, rfl⟩ := List.mem_map.1 hl
    exact srt_isort eLess_wk _
  have hKf : isort eLess K.flatten = isort eLess L.flatten := by rw [← hK]; exact isort_flat L
  have hKn : K.flatten.length ≤ 1048576 := by rw [← hK, flat_len]; exact hN
  have hlv := live_len K
  have hlt : ∀ i, (live (K.take i)).length ≤ 1048576 := fun i => Nat.le_trans (live_len _) (by rw [List.length_take]; omega)
  have hI := heap_Init (live K) (by omega) (fun a ha => live_ne ha)
  obtain ⟨hp1, hp2⟩ := initF_ok ((live K).length / 2) (live K).length (live K) (Nat.le_refl _) (by omega) (fun c h0 hc hlo => by unfold par at hlo; omega)
  have hex : ∃ Z, isort eLess L.flatten = Z := ⟨_, rfl⟩
  obtain ⟨Z, hZ⟩ := hex
  rw [hZ] at hKf
  rw [hZ]
  have hex : ∃ H0, initF (live K).length ((live K).length / 2) (live K) = H0 := ⟨_, rfl⟩
  obtain ⟨H0, hH0⟩ := hex
  rw [hH0] at hI hp1 hp2
  let S1 : List Hd1 → Nat → St := fun hs i => ⟨none :: none :: none :: some (.bx 3 0) :: none :: none :: none :: none :: some (sl (L.map encX)) :: some (av (.int .i64 ((L.map encX).length : Nat))) :: some (av (.int .i64 i)) :: List.replicate 51 none, absent :: absent :: absent :: ⟨0, 0, some [.us 162 (hs.map encH)]⟩ :: List.replicate 58 absent⟩
  let S2 : List Hd1 → List Ent → St := fun hs out => ⟨none :: none :: none :: some (.bx 3 0) :: none :: none :: none :: some (.one (.ref 7 0 (.cell 0))) :: List.replicate 54 none, absent :: absent :: absent :: ⟨0, 0, some [.us 162 (hs.map encH)]⟩ :: absent :: absent :: absent :: ⟨0, 1, some [.us 54 (out.map Ent.enc)]⟩ :: List.replicate 54 absent⟩
  refine ALoop.mk (fun m s => ∃ i : Nat, i ≤ L.length ∧ m = L.length - i ∧ s = S1 (live (K.take i)) i)
    ⟨L.length, _, Weak.nrm [false, false, false, true, false, false, false, false, true, true, true] [(3, 3)] rfl rfl rfl, 0, Nat.zero_le _, rfl, rfl⟩ ?_
  rintro m s ⟨i, hi, rfl, hs⟩
  by_cases hin : i = L.length
  · have e : K.take i = K := List.take_of_length_le (by omega)
    rw [e] at hs
    subst hs
    refine Split.mk fun t ht => ?_
    rw [hn] at ht
    cases t
    case true => rw [decide_eq_true_iff] at ht; omega
    refine ACall.mk _ _ hI ?_
    refine ALoop.mk (fun m s => ∃ (M : List (List Ent)) (hs : List Hd1) (out : List Ent), m = M.flatten.length ∧ hs.Perm (live M) ∧ (∀ l ∈ M, Srt eLess l) ∧ HP hl hd0 hs hs.length 0 ∧ out ++ isort eLess M.flatten = Z ∧ out.length + M.flatten.length ≤ 1048576 ∧ hs.length ≤ 1048576 ∧ s = S2 hs out)
      ⟨K.flatten.length, _, Weak.trans (Weak.nrm [false, false, false, true, false, false, false, true] [(3, 3)] rfl rfl rfl) (Weak.nilOwn 7 7 54 rfl rfl hpos), K, H0, [], rfl, hp2, hKs, by rw [hp2.length_eq]; exact hp1, by rw [hKf]; rfl, by simpa using hKn, by rw [hp2.length_eq]; omega, rfl⟩ ?_
    rintro m s ⟨M, hs, out, rfl, hperm, hsrt, hhp, hout, hlen, hhl, hs0⟩
    cases hs with
    | nil =>
      have hM : M.flatten = [] := live_none (List.nil_perm.1 hperm)
      have ho : out = Z := by rw [← hout, hM]; exact (List.append_nil _).symm
      rw [ho] at hs0
      subst hs0
      refine Split.mk fun t ht => ?_
      cases t
      case true => cases ht
      exact Need.mk ⟨[], _, .same, rfl, rfl⟩ trivial
    | cons h0 tl =>
      obtain ⟨l0, p⟩ := h0
      have hl0 : l0 ≠ [] := live_ne (hperm.mem_iff.1 (List.mem_cons_self ..))
      have hex : ∃ x t, l0 = x :: t := List.exists_cons_of_ne_nil hl0
      obtain ⟨x, t, hl0e⟩ := hex
      subst hl0e
      obtain ⟨M', m1, m2, m3, m4, m5⟩ := live_round hperm hsrt hhp
      have hout2 : (out ++ [x]) ++ isort eLess M'.flatten = Z := by rw [← hout, m2]; simp
      have hlen2 : (out ++ [x]).length + M'.flatten.length ≤ 1048576 := by rw [List.length_append, List.length_singleton]; omega
      have hhl2 : tl.length + 1 ≤ 1048576 := hhl
      have hne : ∀ a ∈ tl, a.1 ≠ [] := fun a ha => live_ne (hperm.mem_iff.1 (List.mem_cons_of_mem _ ha))
      have hn0 : (0 : Int) ≤ 0 ∧ (0 : Int) < (((((x :: t, p) : Hd1) :: tl).map encH).length : Nat) := by rw [List.length_map, List.length_cons]; omega
      have hcut : (((x :: t).map Ent.enc).drop (1 : Int).toNat).take ((((x :: t).map Ent.enc).length : Int) - 1).toNat = t.map Ent.enc := by
        rw [List.length_map, List.length_cons]
        exact List.take_of_length_le (by show (t.map Ent.enc).length ≤ _; rw [List.length_map]; omega)
      have hrows : (((t, p) : Hd1) :: tl).map encH = [C.sl ((((x :: t).map Ent.enc).drop (1 : Int).toNat).take ((((x :: t).map Ent.enc).length : Int) - 1).toNat), vi (p : Nat)] :: tl.map encH := by rw [hcut]; rfl
      have hneed : (0 : Int) ≤ 1 ∧ (1 : Int) ≤ (((x :: t).map Ent.enc).length : Nat) ∧ (((x :: t).map Ent.enc).length : Int) ≤ (((x :: t).map Ent.enc).length : Nat) ∧ ∀ r ∈ (x :: t).map Ent.enc, r.length = 5 := ⟨by omega, by rw [List.length_map, List.length_cons]; omega, by omega, lenE _⟩
      have htl : ((((x :: t).map Ent.enc).drop (1 : Int).toNat).take ((((x :: t).map Ent.enc).length : Int) - 1).toNat).length = t.length := by rw [hcut, List.length_map]
      by_cases ht0 : t = []
      · have hP := heap_Pop ((t, p) :: tl) (by simp) (by simp; omega) (fun k hk hkl => by
          cases k with
          | zero => omega
          | succ k => exact hne _ (getH_mem (by simpa using hkl)))
        obtain ⟨q1, q2⟩ := pop_ok (a := (t, p)) hhp
        have hex : ∃ H, popF ((t, p) :: tl) = H := ⟨_, rfl⟩
        obtain ⟨H, hH⟩ := hex
        rw [hH] at hP q1 q2
        rw [hrows] at hP
        subst hs0
        refine Split.mk fun b ht => ?_
        cases b
        case false => rw [decide_eq_false_iff_not] at ht; exact absurd hn0.2 ht
        refine Need.mk hn0 ?_
        refine Row.mk _ rfl ?_
        refine Need.mk (by decide) ?_
        refine Row.mk _ rfl ?_
        refine Need.mk (sizeOk _ _ out [x] rfl rfl (by simp; omega)) ?_
        refine Need.mk hn0 ?_
        refine Row.mk _ rfl ?_
        refine Need.mk hneed ?_
        refine Need.mk hn0 ?_
        refine Row.mk _ rfl ?_
        refine Need.mk rfl ?_
        refine Need.mk hn0 ?_
        refine Row.mk _ rfl ?_
        refine Split.mk fun b ht => ?_
        rw [htl] at ht
        cases b
        case false => rw [ht0] at ht; cases ht
        refine ACall.mk _ _ hP ?_
        refine ⟨M'.flatten.length, _, by omega, Weak.nrm [false, false, false, true, false, false, false, true] [(3, 3), (42, 7)] rfl rfl rfl, M', H, out ++ [x], rfl, q2.trans (m4 ht0), m1, by rw [q2.length_eq]; exact q1, hout2, hlen2, by rw [q2.length_eq]; omega, ?_⟩
        refine Eq.trans (b := ⟨none :: none :: none :: some (.bx 3 0) :: none :: none :: none :: some (.one (.ref 7 0 (.cell 0))) :: List.replicate 54 none, absent :: absent :: absent :: ⟨0, 0, some [.us 162 (H.map encH)]⟩ :: absent :: absent :: absent :: ⟨0, 1, some [.us 54 (out.map Ent.enc ++ [x.enc])]⟩ :: List.replicate 54 absent⟩) rfl ?_
        rw [show out.map Ent.enc ++ [x.enc] = (out ++ [x]).map Ent.enc by rw [List.map_append]; rfl]
      · have hF := heap_Fix ((t, p) :: tl) (tl.length + 1) rfl (by simp; omega) (fun a ha => by
          rcases List.mem_cons.1 ha with h | h
          · subst h; exact ht0
          · exact hne a h)
        obtain ⟨q1, q2⟩ := fix_ok (a := (t, p)) hhp
        have hex : ∃ H, downF hl hd0 (tl.length + 1) ((t, p) :: tl) 0 (tl.length + 1) = H := ⟨_, rfl⟩
        obtain ⟨H, hH⟩ := hex
        rw [hH] at hF q1 q2
        rw [hrows] at hF
        subst hs0
        refine Split.mk fun b ht => ?_
        cases b
        case false => rw [decide_eq_false_iff_not] at ht; exact absurd hn0.2 ht
        refine Need.mk hn0 ?_
        refine Row.mk _ rfl ?_
        refine Need.mk (by decide) ?_
        refine Row.mk _ rfl ?_
        refine Need.mk (sizeOk _ _ out [x] rfl rfl (by simp; omega)) ?_
        refine Need.mk hn0 ?_
        refine Row.mk _ rfl ?_
        refine Need.mk hneed ?_
        refine Need.mk hn0 ?_
        refine Row.mk _ rfl ?_
        refine Need.mk rfl ?_
        refine Need.mk hn0 ?_
        refine Row.mk _ rfl ?_
        refine Split.mk fun b ht => ?_
        rw [htl] at ht
        cases b
        case true => rw [beq_iff_eq] at ht; exact absurd (List.eq_nil_of_length_eq_zero (by omega)) ht0
        refine ACall.mk _ _ hF ?_
        refine ⟨M'.flatten.length, _, by omega, Weak.nrm [false, false, false, true, false, false, false, true] [(3, 3), (42, 7)] rfl rfl rfl, M', H, out ++ [x], rfl, q2.trans (m5 ht0), m1, by rw [q2.length_eq]; exact q1, hout2, hlen2, by rw [q2.length_eq]; simp; omega, ?_⟩
        refine Eq.trans (b := ⟨none :: none :: none :: some (.bx 3 0) :: none :: none :: none :: some (.one (.ref 7 0 (.cell 0))) :: List.replicate 54 none, absent :: absent :: absent :: ⟨0, 0, some [.us 162 (H.map encH)]⟩ :: absent :: absent :: absent :: ⟨0, 1, some [.us 54 (out.map Ent.enc ++ [x.enc])]⟩ :: List.replicate 54 absent⟩) rfl ?_
        rw [show out.map Ent.enc ++ [x.enc] = (out ++ [x]).map Ent.enc by rw [List.map_append]; rfl]
  · have hia : i < L.length := by omega
    have hrow := map_get encX L i hia
    have hln : (L[i].map Ent.enc).length = L[i].length := List.length_map ..
    have hle := hmem L[i] (List.getElem_mem hia)
    have hlv := live_take (L := K) (i := i) (by omega)
    rw [hKi i hia] at hlv
    have hht := hlt i
    have hex : ∃ l, L[i] = l := ⟨_, rfl⟩
    obtain ⟨l, hle0⟩ := hex
    rw [hle0] at hrow hln hle hlv
    have hex : ∃ hs, live (K.take i) = hs := ⟨_, rfl⟩
    obtain ⟨hs1, hhs⟩ := hex
    rw [hhs] at hlv hht hs
    have hSt := slices_SortStable 165 eLess eLess_wk entryOrder_ok l (by omega)
    by_cases hl0 : l = []
    · have hlv2 : live (K.take (i + 1)) = hs1 := by rw [hlv, hl0]; exact List.append_nil _
      subst hs
      refine Split.mk fun t ht => ?_
      rw [hn] at ht
      cases t
      case false => rw [decide_eq_false_iff_not] at ht; omega
      refine Need.mk (by omega) ?_
      refine Row.mk _ hrow ?_
      refine Split.mk fun t ht => ?_
      rw [hln] at ht
      cases t
      case true => rw [decide_eq_true_iff, hl0] at ht; cases ht
      refine Num.mk _ (wrapS (by omega)) ?_
      exact ⟨L.length - (i + 1), _, by omega, Weak.nrm [false, false, false, true, false, false, false, false, true, true, true] [(3, 3)] rfl rfl rfl, i + 1, by omega, rfl, by rw [hlv2]; rfl⟩
    · have hlpos : 0 < l.length := List.length_pos_iff.2 hl0
      have hse : (isort eLess l).isEmpty = false := by
        have := isort_len eLess l
        cases hx : isort eLess l with
        | nil => rw [hx] at this; simp at this; omega
        | cons _ _ => rfl
      have hlv2 : live (K.take (i + 1)) = hs1 ++ [(isort eLess l, i)] := by rw [hlv, hse]; rfl
      have hex : ∃ ys, isort eLess l = ys := ⟨_, rfl⟩
      obtain ⟨ys, hy⟩ := hex
      rw [hy] at hSt hlv2
      subst hs
      refine Split.mk fun t ht => ?_
      rw [hn] at ht
      cases t
      case false => rw [decide_eq_false_iff_not] at ht; omega
      refine Need.mk (by omega) ?_
      refine Row.mk _ hrow ?_
      refine Split.mk fun t ht => ?_
      rw [hln] at ht
      cases t
      case false => rw [decide_eq_false_iff_not] at ht; omega
      refine Need.mk ⟨plainE l, lenE l⟩ ?_
      refine Need.mk (sizeOk _ _ [] l rfl rfl (by simp; omega)) ?_
      refine ACall.mk _ _ hSt ?_
      refine Fz.mk _ (frzE ys) ?_
      refine Need.mk (sizeH _ _ hs1 _ _ rfl rfl (by decide) (by omega)) ?_
      refine Num.mk _ (wrapS (by omega)) ?_
      refine ⟨L.length - (i + 1), _, by omega, Weak.nrm [false, false, false, true, false, false, false, false, true, true, true] [(3, 3)] rfl rfl rfl, i + 1, by omega, rfl, ?_⟩
      rw [hlv2]
      refine Eq.trans (b := ⟨none :: none :: none :: some (.bx 3 0) :: none :: none :: none :: none :: some (sl (L.map encX)) :: some (av (.int .i64 ((L.map encX).length : Nat))) :: some (av (.int .i64 (i + 1 : Nat))) :: List.replicate 51 none, absent :: absent :: absent :: ⟨0, 0, some [.us 162 (hs1.map encH ++ [encH (ys, i)])]⟩ :: List.replicate 58 absent⟩) rfl ?_
      rw [show hs1.map encH ++ [encH (ys, i)] = (hs1 ++ [(ys, i)]).map encH by rw [List.map_append]; rfl]
end Go.Proofs.YtcnongahanmclaaGreat

namespace Go.Proofs.YtcnongahanmclaaGreat
open Go Go.Proofs Ev
set_option maxRecDepth 100000
set_option linter.unusedSimpArgs false
set_option linter.unusedVariables false
set_option maxHeartbeats 8000000
theorem stampOk {seq : Int} {batch : List Ent} (hx : OkE batch) : OkE (stampT seq 0 batch) := fun e he => by
  obtain ⟨j, hj, rfl⟩ := stampT_mem he
  exact hx batch[j] (List.getElem_mem hj)
theorem impl_treeWrite (t : Tre) (batch : List Ent) (hs : 0 ≤ t.seq ∧ t.seq ≤ 100000) (hm : t.mem.length ≤ 1048576) (hx : OkE batch) (hl : batch.length ≤ 1048576) (w : Tre) (c : Bool) (hw : writeD batch t = (w, c)) :
    AFn Tryz.prog 66 [.agg (t.enc.map .c), sl (batch.map Ent.enc)] [] (.tup [.agg w.enc, .one (vb c)]) [] := by
  have hS := impl_stamped t.seq batch hs hx hl
  have hmn : (t.mem.map Ent.enc).length = t.mem.length := List.length_map ..
  unfold writeD at hw
  by_cases hb : stampB t.seq batch = true
  · rw [hb, if_pos rfl] at hS
    have hex : ∃ d, stampT t.seq 0 batch = d := ⟨_, rfl⟩
    obtain ⟨d, hd⟩ := hex
    have hdl : d.length = batch.length := by rw [← hd, stampT_len]
    have hdn : (d.map Ent.enc).length = d.length := List.length_map ..
    have hb12 := (stampB_iff.1 hb).2.2
    rw [hd] at hS hw
    by_cases hlen : t.mem.length + batch.length ≤ 60
    · rw [if_pos ⟨hb, hlen⟩] at hw
      injection hw with hw hc
      subst hc
      have hM := impl_MergeAll [t.mem, d] (by simp; omega) (by simp)
      have hfl : [t.mem, d].flatten = t.mem ++ d := by simp
      rw [hfl] at hM
      have hex : ∃ z, isort eLess (t.mem ++ d) = z := ⟨_, rfl⟩
      obtain ⟨z, hz⟩ := hex
      rw [hz] at hM hw
      have hadd : IntKind.i64.wrap (((t.mem.map Ent.enc).length : Nat) + ((d.map Ent.enc).length : Nat)) = ((t.mem.length + d.length : Nat) : Int) := wrapI' (by rw [hmn, hdn]; omega) (by omega)
      have hadd2 : IntKind.i64.wrap (t.seq + ((d.map Ent.enc).length : Nat)) = t.seq + (batch.length : Nat) := by rw [hdn, hdl]; exact wrapI (by omega) (by omega)
      have hfX : Frz (.us 29 [[.sl (t.mem.map Ent.enc)], [.sl (d.map Ent.enc)]]) (.sl ([t.mem, d].map encX)) := FrzLL.frz (.cons (.cons .sl .nil) (.cons (.cons .sl .nil) .nil))
      have hres : (RV.tup [.agg [vi (t.seq + (batch.length : Nat)), .sl (z.map Ent.enc), .sl (t.levels.map encL), .sl (t.snaps.map encI)], .one (vb true)]) = .tup [.agg w.enc, .one (vb true)] := by rw [← hw]; rfl
      refine AFn.introX (E := En 0 md0 (fz := [6])) (en_ok 0 _ _ _ _ _) Tryz.func66 rfl rfl rfl fun _ _ => ?_
      refine ACall.mk _ _ hS ?_
      refine Split.mk fun t h1 => ?_
      cases t
      case false => cases h1
      refine Fz.mk _ (frzE _) ?_
      refine Num.mk _ hadd ?_
      refine Split.mk fun t h2 => ?_
      cases t
      case true => (exfalso; rw [decide_eq_true_iff] at h2; omega)
      rw [decide_eq_false_iff_not] at h2
      refine Fz.mk _ hfX ?_
      refine ACall.mk _ _ hM ?_
      refine Need.mk (⟨ClL.mem (.us (clE _) .nil), no_objs⟩) ?_
      refine Num.mk _ hadd2 ?_
      refine Need.mk ⟨[false, true], _, .keep (.frz (frzE z) .same), ?_, rfl⟩ trivial
      exact hres
    · rw [if_neg (fun h => hlen h.2)] at hw
      injection hw with hw hc
      subst hc
      subst hw
      have hadd : IntKind.i64.wrap (((t.mem.map Ent.enc).length : Nat) + ((d.map Ent.enc).length : Nat)) = ((t.mem.length + d.length : Nat) : Int) := wrapI' (by rw [hmn, hdn]; omega) (by omega)
      refine AFn.introX (E := En 0 md0 (fz := [6])) (en_ok 0 _ _ _ _ _) Tryz.func66 rfl rfl rfl fun _ _ => ?_
      refine ACall.mk _ _ hS ?_
      refine Split.mk fun t h1 => ?_
      cases t
      case false => cases h1
      refine Fz.mk _ (frzE _) ?_
      refine Num.mk _ hadd ?_
      refine Split.mk fun t h2 => ?_
      cases t
      case false => (exfalso; rw [decide_eq_false_iff_not] at h2; omega)
      rw [decide_eq_true_iff] at h2
      exact Need.mk ⟨[], _, .same, rfl, rfl⟩ trivial
  · rw [if_neg (fun h => hb h.1)] at hw
    injection hw with hw hc
    subst hc
    subst hw
    have hb : stampB t.seq batch = false := by simpa using hb
    rw [hb] at hS
    refine AFn.introX (E := En 0 md0 (fz := [6])) (en_ok 0 _ _ _ _ _) Tryz.func66 rfl rfl rfl fun _ _ => ?_
    refine ACall.mk _ _ hS ?_
    refine Split.mk fun t h1 => ?_
    cases t
    case true => cases h1
    refine Fz.mk _ (frzE _) ?_
    exact Need.mk ⟨[], _, .same, rfl, rfl⟩ trivial
end Go.Proofs.YtcnongahanmclaaGreat

namespace Go.Proofs.YtcnongahanmclaaGreat
open Go Go.Proofs Ev
set_option maxRecDepth 100000
set_option linter.unusedSimpArgs false
set_option linter.unusedVariables false
set_option maxHeartbeats 8000000
theorem foldl_ins_take {l : List Ent} {d : List Ent} {i : Nat} (h : i < d.length) : (d.take (i + 1)).foldl (ins eLess) l = ins eLess ((d.take i).foldl (ins eLess) l) d[i] := by
  rw [List.take_succ_eq_append_getElem h, List.foldl_append]; rfl
theorem isort_two {m d : List Ent} (h : ordOk m = true) : isort eLess (m ++ d) = d.foldl (ins eLess) m := by
  have e : isort eLess (m ++ d) = d.foldl (ins eLess) (isort eLess m) := by unfold isort; rw [List.foldl_append]
  rw [e, isort_ord h]
theorem foldl_ins_len {d : List Ent} : ∀ {l : List Ent}, (d.foldl (ins eLess) l).length = l.length + d.length := by
  induction d with
  | nil => intro l; rfl
  | cons x d ih => intro l; rw [List.foldl_cons, ih, (ins_perm eLess l x).length_eq]; simp; omega
theorem spec_l5Write (t : Tre) (batch : List Ent) (hs : 0 ≤ t.seq ∧ t.seq ≤ 100000) (ho : ordOk t.mem = true) (hm : t.mem.length ≤ 1000000) (hx : OkE batch) (hl : batch.length ≤ 1048576) (w : Tre) (c : Bool) (hw : writeD batch t = (w, c)) :
    AFn Tryz.prog 59 [.agg (t.enc.map .c), sl (batch.map Ent.enc)] [] (.tup [.agg w.enc, .one (vb c)]) [] := by
  have hS := spec_l5Stamp t.seq batch hs hx hl
  have hmn : (t.mem.map Ent.enc).length = t.mem.length := List.length_map ..
  unfold writeD at hw
  by_cases hb : stampB t.seq batch = true
  · have hP : (stampP t.seq 0 batch).1 = stampT t.seq 0 batch := by
      have := stampP_ok (seq := t.seq) (i := 0) (stampP_inv (stampB_iff.1 hb).1)
      rw [this]
    rw [hb, hP] at hS
    have hex : ∃ d, stampT t.seq 0 batch = d := ⟨_, rfl⟩
    obtain ⟨d, hd⟩ := hex
    have hdl : d.length = batch.length := by rw [← hd, stampT_len]
    have hdn : (d.map Ent.enc).length = d.length := List.length_map ..
    have hb12 := (stampB_iff.1 hb).2.2
    rw [hd] at hS hw
    have hadd : IntKind.i64.wrap (((t.mem.map Ent.enc).length : Nat) + ((d.map Ent.enc).length : Nat)) = ((t.mem.length + d.length : Nat) : Int) := wrapI' (by rw [hmn, hdn]; omega) (by omega)
    by_cases hlen : t.mem.length + batch.length ≤ 60
    · rw [if_pos ⟨hb, hlen⟩] at hw
      injection hw with hw hc
      subst hc
      rw [isort_two ho] at hw
      have hadd2 : IntKind.i64.wrap (t.seq + ((d.map Ent.enc).length : Nat)) = t.seq + (batch.length : Nat) := by rw [hdn, hdl]; exact wrapI (by omega) (by omega)
      refine AFn.introX (E := En 0 md0 (fz := [6]) (fb := [2])) (en_ok 0 _ _ _ _ _) Tryz.func59 rfl rfl rfl fun _ _ => ?_
      refine ACall.mk _ _ hS ?_
      refine Split.mk fun t h1 => ?_
      cases t
      case false => cases h1
      refine Fz.mk _ (frzE _) ?_
      refine Num.mk _ hadd ?_
      refine Split.mk fun t h2 => ?_
      cases t
      case true => (exfalso; rw [decide_eq_true_iff] at h2; omega)
      rw [decide_eq_false_iff_not] at h2
      let S : Nat → List (List C) → St := fun i R => ⟨none :: none :: some (.bx 2 0) :: none :: some (.bx 4 0) :: none :: some (sl (List.map Ent.enc d)) :: none :: some (av (.int .i64 i)) :: List.replicate 40 none, absent :: absent :: ⟨0, 0, some [vi t.seq, .sl R, .sl (List.map encL t.levels), .sl (List.map encI t.snaps)]⟩ :: absent :: ⟨0, 0, some [vi 0, .us 54 [], .us 66 [], .us 3 []]⟩ :: List.replicate 44 absent⟩
      refine ALoop.mk (fun m s => ∃ (i : Nat) (z : List Ent), i ≤ d.length ∧ m = d.length - i ∧ (d.take i).foldl (ins eLess) t.mem = z ∧ z.length = t.mem.length + i ∧ s = S i (z.map Ent.enc))
        ⟨_, _, Weak.nrm [false, false, true, false, true, false, true, false, true] [(2, 2), (4, 4)] rfl rfl rfl, 0, t.mem, Nat.zero_le _, rfl, rfl, rfl, rfl⟩ ?_
      rintro m s ⟨i, z, hi, rfl, hz, hzl, hst⟩
      by_cases hin : i < d.length
      · have hPut := spec_l4Put z d[i] (by omega)
        have hz2 : (d.take (i + 1)).foldl (ins eLess) t.mem = ins eLess z d[i] := by rw [foldl_ins_take hin, hz]
        have hzl2 : (ins eLess z d[i]).length = t.mem.length + (i + 1) := by rw [(ins_perm eLess z d[i]).length_eq]; simp; omega
        have hex : ∃ y, ins eLess z d[i] = y := ⟨_, rfl⟩
        obtain ⟨y, hy⟩ := hex
        rw [hy] at hPut hz2 hzl2
        subst hst
        refine Split.mk fun t h1 => ?_
        cases t
        case false => (exfalso; rw [decide_eq_false_iff_not] at h1; omega)
        rw [decide_eq_true_iff] at h1
        refine Need.mk (by omega) ?_
        refine Row.mk _ (map_get _ d i (by omega)) ?_
        refine ACall.mk _ _ hPut ?_
        refine Fz.mk _ (frzE _) ?_
        refine Need.mk (rfl) ?_
        refine Num.mk _ (wrapS (by omega)) ?_
        exact ⟨_, _, by omega, Weak.nrm [false, false, true, false, true, false, true, false, true] [(2, 2), (4, 4)] rfl rfl rfl, i + 1, y, by omega, rfl, hz2, hzl2, rfl⟩
      · have hin : i = d.length := by omega
        rw [hin, List.take_length] at hz
        rw [hz] at hw
        have hres : (RV.tup [.agg [vi (t.seq + (batch.length : Nat)), .sl (z.map Ent.enc), .sl (t.levels.map encL), .sl (t.snaps.map encI)], .one (vb true)]) = .tup [.agg w.enc, .one (vb true)] := by rw [← hw]; rfl
        subst hst
        refine Split.mk fun t h1 => ?_
        cases t
        case true => (exfalso; rw [decide_eq_true_iff] at h1; omega)
        rw [decide_eq_false_iff_not] at h1
        refine Num.mk _ hadd2 ?_
        exact Need.mk ⟨[], _, .same, hres, rfl⟩ trivial
    · rw [if_neg (fun h => hlen h.2)] at hw
      injection hw with hw hc
      subst hc
      subst hw
      refine AFn.introX (E := En 0 md0 (fz := [6]) (fb := [2])) (en_ok 0 _ _ _ _ _) Tryz.func59 rfl rfl rfl fun _ _ => ?_
      refine ACall.mk _ _ hS ?_
      refine Split.mk fun t h1 => ?_
      cases t
      case false => cases h1
      refine Fz.mk _ (frzE _) ?_
      refine Num.mk _ hadd ?_
      refine Split.mk fun t h2 => ?_
      cases t
      case false => (exfalso; rw [decide_eq_false_iff_not] at h2; omega)
      rw [decide_eq_true_iff] at h2
      exact Need.mk ⟨[], _, .same, rfl, rfl⟩ trivial
  · rw [if_neg (fun h => hb h.1)] at hw
    injection hw with hw hc
    subst hc
    subst hw
    have hb : stampB t.seq batch = false := by simpa using hb
    rw [hb] at hS
    refine AFn.introX (E := En 0 md0 (fz := [6]) (fb := [2])) (en_ok 0 _ _ _ _ _) Tryz.func59 rfl rfl rfl fun _ _ => ?_
    refine ACall.mk _ _ hS ?_
    refine Split.mk fun t h1 => ?_
    cases t
    case true => cases h1
    refine Fz.mk _ (frzE _) ?_
    exact Need.mk ⟨[], _, .same, rfl, rfl⟩ trivial
end Go.Proofs.YtcnongahanmclaaGreat

namespace Go.Proofs.YtcnongahanmclaaGreat
open Go Go.Proofs Ev
set_option maxRecDepth 100000
set_option linter.unusedSimpArgs false
set_option linter.unusedVariables false
set_option maxHeartbeats 1000000
def mdv (l : List FuncId) (g : List FuncId) : FuncId → Nat := fun f => bif l.elem f then 1 else bif g.elem f then 2 else 0
theorem spec_l4Run (xs : List Ent) (hx : OkE xs) (hl : xs.length ≤ 1099511627776) : AFn Tryz.prog 130 [sl (xs.map Ent.enc)] [] (.agg [.sl (xs.map Ent.enc), vi (rmask xs : Nat)]) [] := by
  refine AFn.introX (E := En 0 md0) (en_ok 0 md0) Tryz.func130 rfl rfl rfl fun _ _ => ?_
  refine ACall.mk _ _ (spec_l4Mask xs hx hl) ?_
  exact Need.mk ⟨[], _, .same, rfl, rfl⟩ trivial
end Go.Proofs.YtcnongahanmclaaGreat

namespace Go.Proofs.YtcnongahanmclaaGreat
open Go Go.Proofs Ev
set_option maxRecDepth 100000
set_option linter.unusedSimpArgs false
set_option linter.unusedVariables false
set_option maxHeartbeats 8000000
theorem writeD_small {t : Tre} {batch : List Ent} (h : t.Small) : (writeD batch t).1.Small := by
  unfold writeD
  split
  · rename_i hb
    refine ⟨?_, h.2.1, h.2.2.1, h.2.2.2⟩
    show (isort eLess (t.mem ++ stampT t.seq 0 batch)).length ≤ _
    rw [isort_len, List.length_append, stampT_len]
    exact Nat.le_trans hb.2 (by decide)
  · exact h
theorem impl_TreeWrite1 (t : Tre) (batch : List Ent) (hb : treeOk t = true) (hx : OkE batch) (hl : batch.length ≤ 1048576) : AFnK Tryz.prog 65 [.agg (t.enc.map .c), .bx 0 0] [[.sl (batch.map Ent.enc)]] [0] (.tup [.agg (writeD batch t).1.enc, .one (vb (writeD batch t).2)]) [[.sl (batch.map Ent.enc)]] := by
  obtain ⟨q1, q2, q3, _⟩ := treeOk_first hb
  have hW := impl_treeWrite t batch ⟨q1, q2⟩ (by omega) hx hl (writeD batch t).1 (writeD batch t).2 rfl
  have hex : ∃ w, (writeD batch t).1 = w := ⟨_, rfl⟩
  obtain ⟨w, hw⟩ := hex
  have hex : ∃ c, (writeD batch t).2 = c := ⟨_, rfl⟩
  obtain ⟨c, hc⟩ := hex
  rw [hw, hc] at hW
  rw [hw, hc]
  cases c
  · refine AFnK.introX (E := En 1 md0) (en_ok 1 _ _ _ _ _) Tryz.func65 rfl rfl rfl fun _ _ => ?_
    refine ACall.mk _ _ hW ?_
    refine Split.mk fun t h1 => ?_
    cases t
    case true => cases h1
    exact Need.mk ⟨[], _, .same, rfl, rfl⟩ trivial
  · refine AFnK.introX (E := En 1 md0) (en_ok 1 _ _ _ _ _) Tryz.func65 rfl rfl rfl fun _ _ => ?_
    refine ACall.mk _ _ hW ?_
    refine Split.mk fun t h1 => ?_
    cases t
    case false => cases h1
    exact Need.mk ⟨[], _, .same, rfl, rfl⟩ trivial
theorem impl_TreeWrite (t : Tre) (batch : List Ent) (ht : t.Ok) (hsm : t.Small) (hx : OkE batch) (hl : batch.length ≤ 1048576) : AFn Tryz.prog 20 [.agg (t.enc.map .c), sl (batch.map Ent.enc)] [] (.tup [.agg (encTO (treeDo t (writeD batch)).1), .one (vb (treeDo t (writeD batch)).2)]) [] := by
  have hD := treeDo_c1 65 (.sl (batch.map Ent.enc)) (writeD batch) t ht hsm (fun hb => impl_TreeWrite1 t batch hb hx hl) (fun _ => writeD_small hsm)
  have hex : ∃ x, (treeDo t (writeD batch)).1 = x := ⟨_, rfl⟩
  obtain ⟨x, hx⟩ := hex
  have hex : ∃ c, (treeDo t (writeD batch)).2 = c := ⟨_, rfl⟩
  obtain ⟨c, hc⟩ := hex
  rw [hx, hc] at hD
  rw [hx, hc]
  cases c
  · refine AFn.introX (E := En 0 md0) (en_ok 0 _ _ _ _ _) Tryz.func20 rfl rfl rfl fun _ _ => ?_
    refine ACall.mk _ _ hD ?_
    refine Split.mk fun t h1 => ?_
    cases t
    case true => cases h1
    exact Need.mk ⟨[], _, .same, rfl, rfl⟩ trivial
  · refine AFn.introX (E := En 0 md0) (en_ok 0 _ _ _ _ _) Tryz.func20 rfl rfl rfl fun _ _ => ?_
    refine ACall.mk _ _ hD ?_
    refine Split.mk fun t h1 => ?_
    cases t
    case false => cases h1
    exact Need.mk ⟨[], _, .same, rfl, rfl⟩ trivial
theorem spec_TreeWrite (t : Tre) (batch : List Ent) (ht : t.Ok) (hsm : t.Small) (hx : OkE batch) (hl : batch.length ≤ 1048576) : AFn Tryz.prog 17 [.agg (t.enc.map .c), sl (batch.map Ent.enc)] [] (.tup [.agg (treeDo t (writeD batch)).1.enc, .one (vb (treeDo t (writeD batch)).2)]) [] := by
  have hO := spec_TreeOk t ht (Nat.le_trans hsm.2.2.2 (by decide)) fun l hl r hr => Nat.le_trans ((hsm.2.2.1 l hl).2 r hr) (by decide)
  cases hb : treeOk t with
  | false =>
    rw [hb] at hO
    rw [show treeDo t (writeD batch) = (tre00, false) by unfold treeDo; rw [hb]; rfl]
    refine AFn.introX (E := En 0 md0) (en_ok 0 _ _ _ _ _) Tryz.func17 rfl rfl rfl fun _ _ => ?_
    refine ACall.mk _ _ hO ?_
    refine Split.mk fun t h1 => ?_
    cases t
    case true => cases h1
    exact Need.mk ⟨[false, true, true, true], _, .keep (.frz (frzE []) (.frz (frzRR []) (.frz (frzI []) .same))), rfl, rfl⟩ trivial
  | true =>
    rw [hb] at hO
    obtain ⟨q1, q2, q3, _⟩ := treeOk_first hb
    obtain ⟨l0, l1, l2, he, h3⟩ := treeOk_levels hb
    have hC := spec_l5Copy t hsm
    have hW := spec_l5Write t batch ⟨q1, q2⟩ (treeP.1 h3).1.2.2.2.1 (by omega) hx hl (writeD batch t).1 (writeD batch t).2 rfl
    have hd : treeDo t (writeD batch) = writeD batch t := by
      unfold treeDo
      rw [if_pos hb]
      split
      · rfl
      · rename_i h
        have h2 : (writeD batch t).2 = false := by simpa using h
        unfold writeD at h2 ⊢
        split
        · rename_i h3; rw [if_pos h3] at h2; cases h2
        · rfl
    rw [hd]
    have hex : ∃ x, (writeD batch t).1 = x := ⟨_, rfl⟩
    obtain ⟨x, hx⟩ := hex
    have hex : ∃ c, (writeD batch t).2 = c := ⟨_, rfl⟩
    obtain ⟨c, hc⟩ := hex
    rw [hx, hc] at hW
    rw [hx, hc]
    cases c
    · refine AFn.introX (E := En 0 (mdv [] [59])) (en_ok 0 _ _ _ _ _) Tryz.func17 rfl rfl rfl fun _ _ => ?_
      refine ACall.mk _ _ hO ?_
      refine Split.mk fun t h1 => ?_
      cases t
      case false => cases h1
      refine ACall.mk _ _ hC ?_
      refine Fz.mk _ (frzE _) ?_
      refine Fz.mk _ (frzRR _) ?_
      refine Fz.mk _ (frzI _) ?_
      refine ACall.mk _ _ hW ?_
      refine Split.mk fun t h2 => ?_
      cases t
      case true => cases h2
      exact Need.mk ⟨[], _, .same, rfl, rfl⟩ trivial
    · refine AFn.introX (E := En 0 (mdv [] [59])) (en_ok 0 _ _ _ _ _) Tryz.func17 rfl rfl rfl fun _ _ => ?_
      refine ACall.mk _ _ hO ?_
      refine Split.mk fun t h1 => ?_
      cases t
      case false => cases h1
      refine ACall.mk _ _ hC ?_
      refine Fz.mk _ (frzE _) ?_
      refine Fz.mk _ (frzRR _) ?_
      refine Fz.mk _ (frzI _) ?_
      refine ACall.mk _ _ hW ?_
      refine Split.mk fun t h2 => ?_
      cases t
      case false => cases h2
      exact Need.mk ⟨[], _, .same, rfl, rfl⟩ trivial
end Go.Proofs.YtcnongahanmclaaGreat

namespace Go.Proofs.YtcnongahanmclaaGreat
open Go Go.Proofs Ev
set_option maxRecDepth 100000
set_option linter.unusedSimpArgs false
set_option linter.unusedVariables false
theorem laws_markText (k : Nat) (hk : k ≤ 4611686018427387904) : AFn Tryz.prog 72 [av (.int .i64 k)] [] (.one (vs (markT k))) [] := by
  refine AFn.introX (E := En 0 md0) (en_ok 0 md0) Tryz.func72 rfl rfl rfl fun _ _ => ?_
  refine Split.mk fun t ht => ?_
  cases t
  · have h0 : 0 < k := by simp at ht; omega
    refine ALoop.mk (fun n s => ∃ (j : Nat) (out : ByteArray), n = j ∧ j + out.size ≤ 4611686018427387904 ∧ digs j out = digs k ⟨#[]⟩ ∧
      s = ⟨some (av (.int .i64 j)) :: none :: some (av (.string ⟨#[]⟩)) :: some (av (.string out)) :: List.replicate 16 none, List.replicate 20 absent⟩)
      ⟨k, _, Weak.nrm [true, false, true, true] [] rfl rfl rfl, k, ⟨#[]⟩, rfl, hk, rfl, rfl⟩ ?_
    rintro j s ⟨_, out, rfl, hb, hd, rfl⟩
    refine Split.mk fun t ht => ?_
    cases t
    · have hj : j = 0 := by simp at ht; omega
      subst hj
      refine Need.mk (strFits1 (by omega)) ?_
      refine Need.mk ⟨[], _, .same, ?_, rfl⟩ trivial
      have : markT k = ⟨#[109]⟩ ++ digs k ⟨#[]⟩ := by simp [markT]; omega
      rw [this, ← hd, digs_zero]; rfl
    · have hj : 0 < j := by simpa using ht
      refine Need.mk (by decide) ?_
      refine Num.mk ((48 + j % 10 : Nat) : Int) (by rw [show ((j : Int).tmod 10) = ((j % 10 : Nat) : Int) from rfl, wrapI] <;> omega) ?_
      refine Num.mk ((48 + j % 10 : Nat) : Int) (by rw [wrapU8] <;> omega) ?_
      refine Need.mk (strFits1 (by omega)) ?_
      refine Need.mk (by decide) ?_
      refine Num.mk ((j / 10 : Nat) : Int) (by rw [show ((j : Int).tdiv 10) = ((j / 10 : Nat) : Int) from rfl, wrapI] <;> omega) ?_
      refine ⟨j / 10, _, by omega, Weak.nrm [true, false, true, true] [] rfl rfl rfl, j / 10, dig j ++ out, rfl, ?_, ?_, rfl⟩
      · rw [ByteArray.size_append, show (dig j).size = 1 from rfl]; omega
      · rw [← digs_succ hj]; exact hd
  · have h0 : k = 0 := by simp at ht; omega
    subst h0
    exact Need.mk ⟨[], _, .same, rfl, rfl⟩ trivial
end Go.Proofs.YtcnongahanmclaaGreat

namespace Go.Proofs.YtcnongahanmclaaGreat
open Go Go.Proofs Ev
set_option maxRecDepth 100000
set_option linter.unusedSimpArgs false
set_option linter.unusedVariables false
theorem laws_markEntryS (xs : List Ent) (k : Nat) (hk : k + 5 * xs.length ≤ 4611686018427387904) : AFn Tryz.prog 24 [.one (.ref 0 0 (.cell 0)), av (.int .i64 k)] [[.us 54 (xs.map Ent.enc)]] (.one (vi ((k + 5 * xs.length : Nat) : Int))) [[.us 54 ((markL k xs.length).map Ent.enc)]] := by
  refine AFn.introX (E := En 1 md0) (en_ok 1 md0) Tryz.func24 rfl rfl rfl fun _ _ => ?_
  let S : List (List C) → Nat → Nat → St := fun rows i m => ⟨some (.one (.ref 0 0 (.cell 0))) :: some (av (.int .i64 m)) :: none :: none :: none :: some (av (.int .i64 i)) :: List.replicate 44 none, ⟨0, 1, some [.us 54 rows]⟩ :: List.replicate 50 absent⟩
  refine ALoop.mk (fun n s => ∃ (i : Nat) (ys : List Ent), i ≤ xs.length ∧ n = xs.length - i ∧ ys.length = xs.length ∧ (∀ j : Nat, j < i → ys[j]? = some (markE (k + 5 * j))) ∧ s = S (ys.map Ent.enc) i (k + 5 * i))
    ⟨xs.length, _, Weak.nrm [true, true, false, false, false, true] [(0, 0)] rfl rfl rfl, 0, xs, Nat.zero_le _, rfl, rfl, by intro j hj; omega, rfl⟩ ?_
  rintro n s ⟨i, ys, hi, rfl, hl, hm, rfl⟩
  refine Split.mk fun t ht => ?_
  rw [List.length_map] at ht
  cases t
  · have hia : i = xs.length := by simp at ht; omega
    subst hia
    refine Need.mk ⟨[], _, .same, rfl, ?_⟩ trivial
    rw [← markL_of hl hm]; rfl
  · have hia : i < ys.length := by simpa using ht
    have hlen : i < (ys.map Ent.enc).length := by rw [List.length_map]; exact hia
    refine ACall.mk _ _ (laws_markText (k + 5 * i) (by omega)) ?_
    refine Need.mk ⟨by omega, by simpa using hia⟩ ?_
    refine Row.mk _ (map_get _ ys i hia) ?_
    refine Num.mk _ (wrapS (by omega)) ?_
    refine Need.mk ⟨by omega, by simpa using hia⟩ ?_
    refine Row.mk _ (set_get _ _ _ hlen) ?_
    refine Num.mk _ (wrapS (by omega)) ?_
    refine Need.mk ⟨by omega, by simpa using hia⟩ ?_
    refine Row.mk _ (set_get _ _ _ (by simpa using hia)) ?_
    refine Num.mk _ (wrapS (by omega)) ?_
    refine ACall.mk _ _ (laws_markText (k + 5 * i + 1 + 1 + 1) (by omega)) ?_
    refine Need.mk ⟨by omega, by simpa using hia⟩ ?_
    refine Row.mk _ (set_get _ _ _ (by simpa using hia)) ?_
    refine Num.mk _ (wrapS (by omega)) ?_
    refine Need.mk ⟨by omega, by simpa using hia⟩ ?_
    refine Row.mk _ (set_get _ _ _ (by simpa using hia)) ?_
    refine Num.mk _ (wrapS (by omega)) ?_
    refine Num.mk _ (wrapS (by omega)) ?_
    refine ⟨xs.length - (i + 1), _, by omega, Weak.nrm [true, true, false, false, false, true] [(0, 0)] rfl rfl rfl, i + 1, ys.set i (markE (k + 5 * i)), by omega, rfl, by simpa using hl, fun j hj => ?_, ?_⟩
    · by_cases hji : j = i
      · subst hji; exact List.getElem?_set_self hia
      · rw [List.getElem?_set_ne (Ne.symm hji)]; exact hm j (by omega)
    · refine Eq.trans (b := S ((((((ys.map Ent.enc).set i _).set i _).set i _).set i _).set i (markE (k + 5 * i)).enc) (i + 1) (k + 5 * i + 1 + 1 + 1 + 1 + 1)) rfl ?_
      simp only [List.set_set, List.map_set]
      rfl
end Go.Proofs.YtcnongahanmclaaGreat

namespace Go.Proofs.YtcnongahanmclaaGreat
open Go Go.Proofs Ev
set_option maxRecDepth 100000
set_option linter.unusedSimpArgs false
set_option linter.unusedVariables false
theorem laws_markRunS (xs : List Rn) (k : Nat) (hk : posR k xs ≤ 4611686018427387904) : AFn Tryz.prog 128 [.one (.ref 0 0 (.cell 0)), av (.int .i64 k)] [[.us 68 (xs.map encO)]] (.one (vi (posR k xs : Nat))) [[.us 68 ((mkRs k xs).map encO)]] := by
  refine AFn.introX (E := En 1 (md1 [24])) (en_ok 1 _) Tryz.func128 rfl rfl rfl fun _ _ => ?_
  let S : List (List C) → Nat → Nat → St := fun rows i m => ⟨some (.one (.ref 0 0 (.cell 0))) :: some (av (.int .i64 m)) :: none :: none :: none :: some (av (.int .i64 i)) :: List.replicate 21 none, ⟨0, 1, some [.us 68 rows]⟩ :: List.replicate 27 absent⟩
  refine ALoop.mk (fun n s => ∃ i : Nat, i ≤ xs.length ∧ n = xs.length - i ∧ s = S ((mkRs k (xs.take i) ++ xs.drop i).map encO) i (posR k (xs.take i)))
    ⟨xs.length, _, Weak.nrm [true, true, false, false, false, true] [(0, 0)] rfl rfl rfl, 0, Nat.zero_le _, rfl, rfl⟩ ?_
  rintro n s ⟨i, hi, rfl, rfl⟩
  have hlen : (mkRs k (xs.take i) ++ xs.drop i).length = xs.length := by rw [List.length_append, mkRs_len, List.length_take, List.length_drop]; omega
  refine Split.mk fun t ht => ?_
  rw [List.length_map, hlen] at ht
  cases t
  · have hia : i = xs.length := by simp at ht; omega
    subst hia
    refine Need.mk ⟨[], _, .same, ?_, ?_⟩ trivial
    · rw [List.take_length]; rfl
    · rw [List.take_length, List.drop_length, List.append_nil]; rfl
  · have hia : i < xs.length := by simpa using ht
    have hget : (mkRs k (xs.take i) ++ xs.drop i)[i]? = some xs[i] := by
      rw [List.getElem?_append_right (by rw [mkRs_len, List.length_take]; omega), mkRs_len, List.length_take, Nat.min_eq_left (by omega), Nat.sub_self, List.getElem?_drop, Nat.add_zero, List.getElem?_eq_getElem hia]
    have hpos : posR k (xs.take (i + 1)) = posR k (xs.take i) + 5 * xs[i].ents.length + 1 := by rw [List.take_succ_eq_append_getElem hia, posR_app]; rfl
    have hle : posR k (xs.take (i + 1)) ≤ 4611686018427387904 := by
      have : posR k xs = posR (posR k (xs.take (i + 1))) (xs.drop (i + 1)) := by rw [← posR_app, List.take_append_drop]
      have h2 := posR_le (xs.drop (i + 1)) (posR k (xs.take (i + 1)))
      omega
    have hrow : ((mkRs k (xs.take i) ++ xs.drop i).map encO)[i]? = some (encO xs[i]) := by rw [List.getElem?_map, hget]; rfl
    have hlt : i < ((mkRs k (xs.take i) ++ xs.drop i).map encO).length := by rw [List.length_map, hlen]; exact hia
    have hxl := posR_len xs k
    refine Need.mk ⟨by omega, by omega⟩ ?_
    refine Row.mk _ hrow ?_
    refine Row.mk _ hrow ?_
    refine ACall.mk _ _ (laws_markEntryS xs[i].ents (posR k (xs.take i)) (by omega)) ?_
    refine Row.mk _ hrow ?_
    refine Need.mk ⟨by omega, by rw [List.length_set]; omega⟩ ?_
    refine Row.mk _ (set_get _ _ _ hlt) ?_
    refine Num.mk _ (wrapS (by omega)) ?_
    refine Num.mk _ (wrapS (by omega)) ?_
    refine ⟨xs.length - (i + 1), _, by omega, Weak.nrm [true, true, false, false, false, true] [(0, 0)] rfl rfl rfl, i + 1, by omega, rfl, ?_⟩
    refine Eq.trans (b := S ((((mkRs k (xs.take i) ++ xs.drop i).map encO).set i _).set i (encO (mkR (posR k (xs.take i)) xs[i]))) (i + 1) (posR k (xs.take i) + 5 * xs[i].ents.length + 1)) rfl ?_
    rw [hpos, List.set_set, ← List.map_set, mkRs_step hia]
end Go.Proofs.YtcnongahanmclaaGreat

namespace Go.Proofs.YtcnongahanmclaaGreat
open Go Go.Proofs Ev
set_option maxRecDepth 100000
set_option linter.unusedSimpArgs false
set_option linter.unusedVariables false
theorem laws_markRunSS (xs : List (List Rn)) (k : Nat) (hk : posL k xs ≤ 4611686018427387904) : AFn Tryz.prog 70 [.one (.ref 0 0 (.cell 0)), av (.int .i64 k)] [[.us 66 (xs.map encLO)]] (.one (vi (posL k xs : Nat))) [[.us 66 ((mkLs k xs).map encLO)]] := by
  refine AFn.introX (E := En 1 (md1 [128])) (en_ok 1 _) Tryz.func70 rfl rfl rfl fun _ hs => ?_
  have hxl := Small.lenU (hs _ (List.mem_cons_self ..) _ (List.mem_cons_self ..))
  rw [List.length_map] at hxl
  let S : List (List C) → Nat → Nat → St := fun rows i m => ⟨some (.one (.ref 0 0 (.cell 0))) :: some (av (.int .i64 m)) :: none :: none :: none :: some (av (.int .i64 i)) :: List.replicate 13 none, ⟨0, 1, some [.us 66 rows]⟩ :: List.replicate 19 absent⟩
  refine ALoop.mk (fun n s => ∃ i : Nat, i ≤ xs.length ∧ n = xs.length - i ∧ s = S ((mkLs k (xs.take i) ++ xs.drop i).map encLO) i (posL k (xs.take i)))
    ⟨xs.length, _, Weak.nrm [true, true, false, false, false, true] [(0, 0)] rfl rfl rfl, 0, Nat.zero_le _, rfl, rfl⟩ ?_
  rintro n s ⟨i, hi, rfl, rfl⟩
  have hlen : (mkLs k (xs.take i) ++ xs.drop i).length = xs.length := by rw [List.length_append, mkLs_len, List.length_take, List.length_drop]; omega
  refine Split.mk fun t ht => ?_
  rw [List.length_map, hlen] at ht
  cases t
  · have hia : i = xs.length := by simp at ht; omega
    subst hia
    refine Need.mk ⟨[], _, .same, ?_, ?_⟩ trivial
    · rw [List.take_length]; rfl
    · rw [List.take_length, List.drop_length, List.append_nil]; rfl
  · have hia : i < xs.length := by simpa using ht
    have hget : (mkLs k (xs.take i) ++ xs.drop i)[i]? = some xs[i] := by
      rw [List.getElem?_append_right (by rw [mkLs_len, List.length_take]; omega), mkLs_len, List.length_take, Nat.min_eq_left (by omega), Nat.sub_self, List.getElem?_drop, Nat.add_zero, List.getElem?_eq_getElem hia]
    have hpos : posL k (xs.take (i + 1)) = posR (posL k (xs.take i)) xs[i] := by rw [List.take_succ_eq_append_getElem hia, posL_app]; rfl
    have hle : posL k (xs.take (i + 1)) ≤ 4611686018427387904 := by
      have : posL k xs = posL (posL k (xs.take (i + 1))) (xs.drop (i + 1)) := by rw [← posL_app, List.take_append_drop]
      have h2 := posL_le (xs.drop (i + 1)) (posL k (xs.take (i + 1)))
      omega
    have hrow : ((mkLs k (xs.take i) ++ xs.drop i).map encLO)[i]? = some (encLO xs[i]) := by rw [List.getElem?_map, hget]; rfl
    have hlt : i < ((mkLs k (xs.take i) ++ xs.drop i).map encLO).length := by rw [List.length_map, hlen]; exact hia
    refine Need.mk ⟨by omega, by omega⟩ ?_
    refine Row.mk _ hrow ?_
    refine Row.mk _ hrow ?_
    refine ACall.mk _ _ (laws_markRunS xs[i] (posL k (xs.take i)) (by omega)) ?_
    refine Row.mk _ hrow ?_
    refine Num.mk _ (wrapS (by omega)) ?_
    refine ⟨xs.length - (i + 1), _, by omega, Weak.nrm [true, true, false, false, false, true] [(0, 0)] rfl rfl rfl, i + 1, by omega, rfl, ?_⟩
    refine Eq.trans (b := S (((mkLs k (xs.take i) ++ xs.drop i).map encLO).set i (encLO (mkRs (posL k (xs.take i)) xs[i]))) (i + 1) (posR (posL k (xs.take i)) xs[i])) rfl ?_
    rw [hpos, ← List.map_set, mkLs_step hia]
end Go.Proofs.YtcnongahanmclaaGreat

namespace Go.Proofs.YtcnongahanmclaaGreat
open Go Go.Proofs Ev
set_option maxRecDepth 100000
set_option linter.unusedSimpArgs false
set_option linter.unusedVariables false
theorem laws_markIntS (xs : List Int) (k : Nat) (hk : k + xs.length ≤ 4611686018427387904) : AFn Tryz.prog 71 [.one (.ref 0 0 (.cell 0)), av (.int .i64 k)] [[.us 3 (xs.map encI)]] (.one (vi ((k + xs.length : Nat) : Int))) [[.us 3 ((markI k xs.length).map encI)]] := by
  refine AFn.introX (E := En 1 md0) (en_ok 1 md0) Tryz.func71 rfl rfl rfl fun _ _ => ?_
  let S : List (List C) → Nat → Nat → St := fun rows i m => ⟨some (.one (.ref 0 0 (.cell 0))) :: some (av (.int .i64 m)) :: none :: none :: none :: some (av (.int .i64 i)) :: List.replicate 13 none, ⟨0, 1, some [.us 3 rows]⟩ :: List.replicate 19 absent⟩
  refine ALoop.mk (fun n s => ∃ (i : Nat) (ys : List Int), i ≤ xs.length ∧ n = xs.length - i ∧ ys.length = xs.length ∧ (∀ j : Nat, j < i → ys[j]? = some ((k + j : Nat) : Int)) ∧ s = S (ys.map encI) i (k + i))
    ⟨xs.length, _, Weak.nrm [true, true, false, false, false, true] [(0, 0)] rfl rfl rfl, 0, xs, Nat.zero_le _, rfl, rfl, by intro j hj; omega, rfl⟩ ?_
  rintro n s ⟨i, ys, hi, rfl, hl, hm, rfl⟩
  refine Split.mk fun t ht => ?_
  rw [List.length_map] at ht
  cases t
  · have hia : i = xs.length := by simp at ht; omega
    subst hia
    refine Need.mk ⟨[], _, .same, rfl, ?_⟩ trivial
    rw [← markI_of hl hm]; rfl
  · have hia : i < ys.length := by simpa using ht
    refine Need.mk ⟨by omega, by simpa using hia⟩ ?_
    refine Row.mk _ (map_get _ ys i hia) ?_
    refine Num.mk _ (wrapS (by omega)) ?_
    refine Num.mk _ (wrapS (by omega)) ?_
    refine ⟨xs.length - (i + 1), _, by omega, Weak.nrm [true, true, false, false, false, true] [(0, 0)] rfl rfl rfl, i + 1, ys.set i ((k + i : Nat) : Int), by omega, rfl, by simpa using hl, fun j hj => ?_, ?_⟩
    · by_cases hji : j = i
      · subst hji; exact List.getElem?_set_self hia
      · rw [List.getElem?_set_ne (Ne.symm hji)]; exact hm j (by omega)
    · refine Eq.trans (b := S ((ys.map encI).set i (encI ((k + i : Nat) : Int))) (i + 1) (k + i + 1)) rfl ?_
      simp only [List.map_set]
      rfl
end Go.Proofs.YtcnongahanmclaaGreat

namespace Go.Proofs.YtcnongahanmclaaGreat
open Go Go.Proofs Ev
set_option maxRecDepth 100000
set_option linter.unusedSimpArgs false
set_option linter.unusedVariables false
def posT (k : Nat) (t : Tre) : Nat := posL (k + 5 * t.mem.length) t.levels + t.snaps.length
def mkT (k : Nat) (t : Tre) : Tre := ⟨t.seq, markL k t.mem.length, mkLs (k + 5 * t.mem.length) t.levels, markI (posL (k + 5 * t.mem.length) t.levels) t.snaps.length⟩
def argT (t : Tre) : AV := .agg [.c (vi t.seq), .ref 0 0 (.cell 0), .ref 1 0 (.cell 0), .ref 2 0 (.cell 0)]
def obsT (t : Tre) : List (List C) := [[.us 54 (t.mem.map Ent.enc)], [.us 66 (t.levels.map encLO)], [.us 3 (t.snaps.map encI)]]
theorem laws_markTree (t : Tre) (k : Nat) (hk : posT k t ≤ 4611686018427387904) : AFn Tryz.prog 23 [argT t, av (.int .i64 k)] (obsT t) (.one (vi (posT k t : Nat))) (obsT (mkT k t)) := by
  refine AFn.introX (E := En 3 (md1 [24, 70, 71]) [2]) (en_ok 3 _ _) Tryz.func23 rfl rfl rfl fun _ hs => ?_
  have h1 := posL_le t.levels (k + 5 * t.mem.length)
  unfold posT at hk
  refine ACall.mk _ _ (laws_markEntryS t.mem k (by omega)) ?_
  refine ACall.mk _ _ (laws_markRunSS t.levels (k + 5 * t.mem.length) (by omega)) ?_
  refine ACall.mk _ _ (laws_markIntS t.snaps (posL (k + 5 * t.mem.length) t.levels) (by omega)) ?_
  exact Need.mk ⟨[], _, .same, rfl, rfl⟩ trivial
end Go.Proofs.YtcnongahanmclaaGreat

namespace Go.Proofs.YtcnongahanmclaaGreat
open Go Go.Proofs Ev
set_option maxRecDepth 100000
set_option linter.unusedSimpArgs false
set_option linter.unusedVariables false
theorem posT_sz {t : Tre} (h : t.size ≤ 1048576) : posT 1 t ≤ 6000000 := by
  have h1 := posL_sz t.levels (1 + 5 * t.mem.length)
  have hz : t.size = sizeE t.mem + sizeRR t.levels + t.snaps.length := rfl
  have h2 : t.mem.length ≤ sizeE t.mem := by unfold sizeE; omega
  unfold posT; omega
theorem posT_like {t x : Tre} (h : t.size ≤ 1048576) (hm : x.mem = t.mem) (hl : x.levels = t.levels) (hs : x.snaps.length ≤ t.snaps.length + 1) : posT 1 x ≤ 6000000 := by
  have h1 := posL_sz t.levels (1 + 5 * t.mem.length)
  have hz : t.size = sizeE t.mem + sizeRR t.levels + t.snaps.length := rfl
  have h2 : t.mem.length ≤ sizeE t.mem := by unfold sizeE; omega
  unfold posT; rw [hm, hl]; omega
theorem posT_do {t : Tre} {d : Tre → Tre × Bool} (h : t.size ≤ 1048576) (hd : (d t).2 = true → posT 1 (d t).1 ≤ 6000000) : posT 1 (treeDo t d).1 ≤ 6000000 := by
  unfold treeDo
  split
  · split
    · rename_i hh; exact hd hh
    · exact posT_sz h
  · show posT 1 tre00 ≤ _; decide
theorem pos_TreeSnap (t : Tre) (h : t.size ≤ 1048576) : posT 1 (treeDo t snapD).1 ≤ 6000000 := posT_do h fun _ => by
  unfold snapD
  split
  · exact posT_sz h
  · exact posT_like h rfl rfl (by simp)
theorem pos_TreeDrop (t : Tre) (seq : Int) (h : t.size ≤ 1048576) : posT 1 (treeDo t (dropD seq)).1 ≤ 6000000 := posT_do h fun _ => by
  unfold dropD
  split
  · exact posT_like h rfl rfl (by simp only [List.length_append, List.length_take, List.length_drop]; omega)
  · exact posT_sz h
end Go.Proofs.YtcnongahanmclaaGreat

namespace Go.Proofs.YtcnongahanmclaaGreat
open Go Go.Proofs Ev
set_option maxRecDepth 100000
set_option linter.unusedSimpArgs false
set_option linter.unusedVariables false
theorem laws_szEntry (e : Ent) (left : Nat) (he : e.Ok) (hl : left ≤ 1048576) : AFn Tryz.prog 58 [.agg (e.enc.map .c), av (.int .i64 left)] [] (.one (vi (cut e.size left))) [] := by
  refine AFn.introX (E := En 0 md0) (en_ok 0 md0) Tryz.func58 rfl rfl rfl fun _ _ => ?_
  obtain ⟨h1, h2⟩ := he
  have he : e.size = e.key.size + e.text.size := rfl
  unfold maxLen at h1 h2
  have fin : ∀ {z : Int}, z = cut e.size left → RV.one (vi z) = RV.one (vi (cut e.size left)) := fun h => by rw [h]
  refine Num.mk ((left : Int) - e.key.size) (by rw [IntKind.wrap_i64]; omega) ?_
  refine Split.mk fun t ht => ?_
  cases t
  · have h3 : e.key.size ≤ left := by simp at ht; omega
    refine Num.mk ((left : Int) - e.key.size - e.text.size) (by rw [IntKind.wrap_i64]; omega) ?_
    refine Split.mk fun t ht => ?_
    cases t
    · have h4 : e.size ≤ left := by simp at ht; omega
      exact Need.mk ⟨[], _, .same, fin (by rw [cut_pos h4]; omega), rfl⟩ trivial
    · have h4 : ¬ e.size ≤ left := by simp at ht; omega
      exact Need.mk ⟨[], _, .same, fin (by rw [cut_neg h4]), rfl⟩ trivial
  · have h4 : ¬ e.size ≤ left := by simp at ht; omega
    exact Need.mk ⟨[], _, .same, fin (by rw [cut_neg h4]), rfl⟩ trivial
theorem laws_szEntryS (xs : List Ent) (left : Nat) (he : OkE xs) (hl : left ≤ 1048576) : AFn Tryz.prog 16 [sl (xs.map Ent.enc), av (.int .i64 left)] [] (.one (vi (cut (sizeE xs) left))) [] := by
  refine AFn.introX (E := En 0 md0) (en_ok 0 md0) Tryz.func16 rfl rfl rfl fun hs _ => ?_
  have hn : (xs.map Ent.enc).length = xs.length := List.length_map ..
  have hx := Small.len (hs _ (List.mem_cons_self ..))
  rw [hn] at hx
  have hz : sizeE xs = xs.length + (xs.map Ent.size).sum := rfl
  have fin : ∀ {z : Int}, z = cut (sizeE xs) left → RV.one (vi z) = RV.one (vi (cut (sizeE xs) left)) := fun h => by rw [h]
  refine Num.mk ((left : Int) - xs.length) (by rw [hn, IntKind.wrap_i64]; omega) ?_
  refine Split.mk fun t ht => ?_
  cases t
  · have h3 : xs.length ≤ left := by simp at ht; omega
    refine ALoop.mk (fun m s => ∃ (i r : Nat), i ≤ xs.length ∧ m = xs.length - i ∧ xs.length + ((xs.take i).map Ent.size).sum + r = left ∧
        s = ⟨some (sl (xs.map Ent.enc)) :: some (av (.int .i64 r)) :: none :: none :: none :: some (av (.int .i64 i)) :: List.replicate 21 none, List.replicate 27 absent⟩)
      ⟨xs.length, _, Weak.nrm [true, true, false, false, false, true] [] rfl rfl rfl, 0, left - xs.length, Nat.zero_le _, rfl, by simp; omega, ?_⟩ ?_
    · rw [show ((left - xs.length : Nat) : Int) = (left : Int) - xs.length by omega]; rfl
    rintro m s ⟨i, r, hi, rfl, hr, rfl⟩
    refine Split.mk fun t ht => ?_
    rw [hn] at ht
    cases t
    · have hin : i = xs.length := by simp at ht; omega
      subst hin
      rw [List.take_length] at hr
      exact Need.mk ⟨[], _, .same, fin (by rw [cut_pos (by omega)]; omega), rfl⟩ trivial
    · have hia : i < xs.length := by simpa using ht
      have hsum := sum_take Ent.size xs hia
      have hle := sum_take_le Ent.size xs (i + 1)
      refine Need.mk (by omega) ?_
      refine Row.mk _ (map_get _ xs i hia) ?_
      refine ACall.mk _ _ (laws_szEntry xs[i] r (he _ (List.getElem_mem _)) (by omega)) ?_
      refine Split.mk fun t ht => ?_
      rw [cut_lt] at ht
      cases t
      · have h4 : xs[i].size ≤ r := by simpa using ht
        refine Num.mk _ (wrapS (by omega)) ?_
        refine ⟨xs.length - (i + 1), _, by omega, Weak.nrm [true, true, false, false, false, true] [] rfl rfl rfl, i + 1, r - xs[i].size, by omega, rfl, by omega, ?_⟩
        rw [← cut_pos h4]; rfl
      · have h4 : ¬ xs[i].size ≤ r := by simpa using ht
        exact Need.mk ⟨[], _, .same, fin (by rw [cut_neg (by omega)]), rfl⟩ trivial
  · have h4 : ¬ sizeE xs ≤ left := by simp at ht; omega
    exact Need.mk ⟨[], _, .same, fin (by rw [cut_neg h4]), rfl⟩ trivial
end Go.Proofs.YtcnongahanmclaaGreat

namespace Go.Proofs.YtcnongahanmclaaGreat
open Go Go.Proofs Ev
set_option maxRecDepth 100000
set_option linter.unusedSimpArgs false
set_option linter.unusedVariables false
theorem laws_szRun (r : Rn) (left : Nat) (he : OkE r.ents) (hl : left ≤ 1048576) : AFn Tryz.prog 174 [.agg (r.enc.map .c), av (.int .i64 left)] [] (.one (vi (cut (sizeE r.ents) left))) [] := by
  refine AFn.introX (E := En 0 md0) (en_ok 0 md0) Tryz.func174 rfl rfl rfl fun _ _ => ?_
  refine ACall.mk _ _ (laws_szEntryS r.ents left he hl) ?_
  refine Split.mk fun t ht => ?_
  rw [cut_lt] at ht
  cases t
  · exact Need.mk ⟨[], _, .same, rfl, rfl⟩ trivial
  · exact Need.mk ⟨[], _, .same, by rw [cut_neg (by simpa using ht)]; rfl, rfl⟩ trivial
theorem laws_szRunS (xs : List Rn) (left : Nat) (he : OkR xs) (hl : left ≤ 1048576) : AFn Tryz.prog 120 [sl (xs.map Rn.enc), av (.int .i64 left)] [] (.one (vi (cut (sizeR xs) left))) [] := by
  refine AFn.introX (E := En 0 md0) (en_ok 0 md0) Tryz.func120 rfl rfl rfl fun hs _ => ?_
  have hn : (xs.map Rn.enc).length = xs.length := List.length_map ..
  have hx := Small.len (hs _ (List.mem_cons_self ..))
  rw [hn] at hx
  have hz : sizeR xs = xs.length + (xs.map (fun r : Rn => sizeE r.ents)).sum := rfl
  have fin : ∀ {z : Int}, z = cut (sizeR xs) left → RV.one (vi z) = RV.one (vi (cut (sizeR xs) left)) := fun h => by rw [h]
  refine Num.mk ((left : Int) - xs.length) (by rw [hn, IntKind.wrap_i64]; omega) ?_
  refine Split.mk fun t ht => ?_
  cases t
  · have h3 : xs.length ≤ left := by simp at ht; omega
    refine ALoop.mk (fun m s => ∃ (i r : Nat), i ≤ xs.length ∧ m = xs.length - i ∧ xs.length + ((xs.take i).map (fun r : Rn => sizeE r.ents)).sum + r = left ∧
        s = ⟨some (sl (xs.map Rn.enc)) :: some (av (.int .i64 r)) :: none :: none :: none :: some (av (.int .i64 i)) :: List.replicate 21 none, List.replicate 27 absent⟩)
      ⟨xs.length, _, Weak.nrm [true, true, false, false, false, true] [] rfl rfl rfl, 0, left - xs.length, Nat.zero_le _, rfl, by simp; omega, ?_⟩ ?_
    · rw [show ((left - xs.length : Nat) : Int) = (left : Int) - xs.length by omega]; rfl
    rintro m s ⟨i, r, hi, rfl, hr, rfl⟩
    refine Split.mk fun t ht => ?_
    rw [hn] at ht
    cases t
    · have hin : i = xs.length := by simp at ht; omega
      subst hin
      rw [List.take_length] at hr
      exact Need.mk ⟨[], _, .same, fin (by rw [cut_pos (by omega)]; omega), rfl⟩ trivial
    · have hia : i < xs.length := by simpa using ht
      have hsum := sum_take (fun r : Rn => sizeE r.ents) xs hia
      have hle := sum_take_le (fun r : Rn => sizeE r.ents) xs (i + 1)
      refine Need.mk (by omega) ?_
      refine Row.mk _ (map_get _ xs i hia) ?_
      refine ACall.mk _ _ (laws_szRun xs[i] r (he _ (List.getElem_mem _)) (by omega)) ?_
      refine Split.mk fun t ht => ?_
      rw [cut_lt] at ht
      cases t
      · have h4 : (sizeE xs[i].ents) ≤ r := by simpa using ht
        refine Num.mk _ (wrapS (by omega)) ?_
        refine ⟨xs.length - (i + 1), _, by omega, Weak.nrm [true, true, false, false, false, true] [] rfl rfl rfl, i + 1, r - (sizeE xs[i].ents), by omega, rfl, by omega, ?_⟩
        rw [← cut_pos h4]; rfl
      · have h4 : ¬ (sizeE xs[i].ents) ≤ r := by simpa using ht
        exact Need.mk ⟨[], _, .same, fin (by rw [cut_neg (by omega)]), rfl⟩ trivial
  · have h4 : ¬ sizeR xs ≤ left := by simp at ht; omega
    exact Need.mk ⟨[], _, .same, fin (by rw [cut_neg h4]), rfl⟩ trivial
theorem laws_szRunSS (xs : List (List Rn)) (left : Nat) (he : OkRR xs) (hl : left ≤ 1048576) : AFn Tryz.prog 56 [sl (xs.map encL), av (.int .i64 left)] [] (.one (vi (cut (sizeRR xs) left))) [] := by
  refine AFn.introX (E := En 0 md0) (en_ok 0 md0) Tryz.func56 rfl rfl rfl fun hs _ => ?_
  have hn : (xs.map encL).length = xs.length := List.length_map ..
  have hx := Small.len (hs _ (List.mem_cons_self ..))
  rw [hn] at hx
  have hz : sizeRR xs = xs.length + (xs.map sizeR).sum := rfl
  have fin : ∀ {z : Int}, z = cut (sizeRR xs) left → RV.one (vi z) = RV.one (vi (cut (sizeRR xs) left)) := fun h => by rw [h]
  refine Num.mk ((left : Int) - xs.length) (by rw [hn, IntKind.wrap_i64]; omega) ?_
  refine Split.mk fun t ht => ?_
  cases t
  · have h3 : xs.length ≤ left := by simp at ht; omega
    refine ALoop.mk (fun m s => ∃ (i r : Nat), i ≤ xs.length ∧ m = xs.length - i ∧ xs.length + ((xs.take i).map sizeR).sum + r = left ∧
        s = ⟨some (sl (xs.map encL)) :: some (av (.int .i64 r)) :: none :: none :: none :: some (av (.int .i64 i)) :: List.replicate 21 none, List.replicate 27 absent⟩)
      ⟨xs.length, _, Weak.nrm [true, true, false, false, false, true] [] rfl rfl rfl, 0, left - xs.length, Nat.zero_le _, rfl, by simp; omega, ?_⟩ ?_
    · rw [show ((left - xs.length : Nat) : Int) = (left : Int) - xs.length by omega]; rfl
    rintro m s ⟨i, r, hi, rfl, hr, rfl⟩
    refine Split.mk fun t ht => ?_
    rw [hn] at ht
    cases t
    · have hin : i = xs.length := by simp at ht; omega
      subst hin
      rw [List.take_length] at hr
      exact Need.mk ⟨[], _, .same, fin (by rw [cut_pos (by omega)]; omega), rfl⟩ trivial
    · have hia : i < xs.length := by simpa using ht
      have hsum := sum_take sizeR xs hia
      have hle := sum_take_le sizeR xs (i + 1)
      refine Need.mk (by omega) ?_
      refine Row.mk _ (map_get _ xs i hia) ?_
      refine ACall.mk _ _ (laws_szRunS xs[i] r (he _ (List.getElem_mem _)) (by omega)) ?_
      refine Split.mk fun t ht => ?_
      rw [cut_lt] at ht
      cases t
      · have h4 : (sizeR xs[i]) ≤ r := by simpa using ht
        refine Num.mk _ (wrapS (by omega)) ?_
        refine ⟨xs.length - (i + 1), _, by omega, Weak.nrm [true, true, false, false, false, true] [] rfl rfl rfl, i + 1, r - (sizeR xs[i]), by omega, rfl, by omega, ?_⟩
        rw [← cut_pos h4]; rfl
      · have h4 : ¬ (sizeR xs[i]) ≤ r := by simpa using ht
        exact Need.mk ⟨[], _, .same, fin (by rw [cut_neg (by omega)]), rfl⟩ trivial
  · have h4 : ¬ sizeRR xs ≤ left := by simp at ht; omega
    exact Need.mk ⟨[], _, .same, fin (by rw [cut_neg h4]), rfl⟩ trivial
end Go.Proofs.YtcnongahanmclaaGreat

namespace Go.Proofs.YtcnongahanmclaaGreat
open Go Go.Proofs Ev
set_option maxRecDepth 100000
set_option linter.unusedSimpArgs false
set_option linter.unusedVariables false
theorem laws_szIntS (xs : List Int) (left : Nat) (hl : left ≤ 1048576) : AFn Tryz.prog 57 [sl (xs.map encI), av (.int .i64 left)] [] (.one (vi (cut xs.length left))) [] := by
  refine AFn.introX (E := En 0 md0) (en_ok 0 md0) Tryz.func57 rfl rfl rfl fun hs _ => ?_
  have hn : (xs.map encI).length = xs.length := List.length_map ..
  have hx := Small.len (hs _ (List.mem_cons_self ..))
  rw [hn] at hx
  have fin : ∀ {z : Int}, z = cut xs.length left → RV.one (vi z) = RV.one (vi (cut xs.length left)) := fun h => by rw [h]
  refine Num.mk ((left : Int) - xs.length) (by rw [hn, IntKind.wrap_i64]; omega) ?_
  refine Split.mk fun t ht => ?_
  cases t
  · have h3 : xs.length ≤ left := by simp at ht; omega
    exact Need.mk ⟨[], _, .same, fin (by rw [cut_pos h3]; omega), rfl⟩ trivial
  · have h3 : ¬ xs.length ≤ left := by simp at ht; omega
    exact Need.mk ⟨[], _, .same, fin (by rw [cut_neg h3]), rfl⟩ trivial
theorem laws_szTree (t : Tre) (left : Nat) (he : t.Ok) (hl : left ≤ 1048576) : AFn Tryz.prog 15 [.agg (t.enc.map .c), av (.int .i64 left)] [] (.one (vi (cut t.size left))) [] := by
  refine AFn.introX (E := En 0 md0) (en_ok 0 md0) Tryz.func15 rfl rfl rfl fun _ _ => ?_
  have hz : t.size = sizeE t.mem + sizeRR t.levels + t.snaps.length := rfl
  have fin : ∀ {z : Int}, z = cut t.size left → RV.one (vi z) = RV.one (vi (cut t.size left)) := fun h => by rw [h]
  by_cases h1 : sizeE t.mem ≤ left
  · refine ACall.mk (.one (vi ((left - sizeE t.mem : Nat) : Int))) [] (by rw [← cut_pos h1]; exact laws_szEntryS t.mem left he.1 hl) ?_
    refine Split.mk fun b hb => ?_
    cases b
    · by_cases h2 : sizeRR t.levels ≤ left - sizeE t.mem
      · refine ACall.mk (.one (vi ((left - sizeE t.mem - sizeRR t.levels : Nat) : Int))) [] (by rw [← cut_pos h2]; exact laws_szRunSS t.levels (left - sizeE t.mem) he.2 (by omega)) ?_
        refine Split.mk fun b hb => ?_
        cases b
        · by_cases h3 : t.snaps.length ≤ left - sizeE t.mem - sizeRR t.levels
          · refine ACall.mk (.one (vi ((left - sizeE t.mem - sizeRR t.levels - t.snaps.length : Nat) : Int))) [] (by rw [← cut_pos h3]; exact laws_szIntS t.snaps _ (by omega)) ?_
            refine Split.mk fun b hb => ?_
            cases b
            · exact Need.mk ⟨[], _, .same, fin (by rw [cut_pos (by omega)]; omega), rfl⟩ trivial
            · simp at hb <;> omega
          · refine ACall.mk (.one (vi (-1))) [] (by rw [← cut_neg h3]; exact laws_szIntS t.snaps _ (by omega)) ?_
            refine Split.mk fun b hb => ?_
            cases b
            · simp at hb
            · exact Need.mk ⟨[], _, .same, fin (by rw [cut_neg (by omega)]), rfl⟩ trivial
        · simp at hb <;> omega
      · refine ACall.mk (.one (vi (-1))) [] (by rw [← cut_neg h2]; exact laws_szRunSS t.levels (left - sizeE t.mem) he.2 (by omega)) ?_
        refine Split.mk fun b hb => ?_
        cases b
        · simp at hb
        · exact Need.mk ⟨[], _, .same, fin (by rw [cut_neg (by omega)]), rfl⟩ trivial
    · simp at hb <;> omega
  · refine ACall.mk (.one (vi (-1))) [] (by rw [← cut_neg h1]; exact laws_szEntryS t.mem left he.1 hl) ?_
    refine Split.mk fun b hb => ?_
    cases b
    · simp at hb
    · exact Need.mk ⟨[], _, .same, fin (by rw [cut_neg (by omega)]), rfl⟩ trivial
end Go.Proofs.YtcnongahanmclaaGreat

namespace Go.Proofs.YtcnongahanmclaaGreat
open Go Go.Proofs Ev
set_option maxRecDepth 100000
set_option linter.unusedSimpArgs false
set_option linter.unusedVariables false
theorem laws_toEntry (e : Ent) : AFn Tryz.prog 63 [.agg (e.enc.map .c)] [] (.agg e.enc) [] := by
  refine AFn.introX (E := En 0 md0) (en_ok 0 md0) Tryz.func63 rfl rfl rfl fun _ _ => ?_
  exact Need.mk ⟨[], _, .same, rfl, rfl⟩ trivial
theorem laws_toEntryS (xs : List Ent) (hx : xs.length ≤ 1048576) : AFn Tryz.prog 19 [sl (xs.map Ent.enc)] [] (.one (.us 54 (xs.map Ent.enc))) [] := by
  refine AFn.introX (E := En 0 md0) (en_ok 0 md0) Tryz.func19 rfl rfl rfl fun _ _ => ?_
  have hn : (xs.map Ent.enc).length = xs.length := List.length_map ..
  refine Need.mk ⟨by omega, by omega, by simp only [hn]; omega, by omega⟩ ?_
  let S : List (List C) → Nat → St := fun rows i => ⟨some (sl (xs.map Ent.enc)) :: none :: none :: some (.one (.ref 3 0 (.cell 0))) :: some (av (.int .i64 i)) :: List.replicate 18 none, absent :: absent :: absent :: ⟨0, 1, some [.us 54 rows]⟩ :: List.replicate 19 absent⟩
  refine ALoop.mk (fun m s => ∃ i : Nat, i ≤ xs.length ∧ m = xs.length - i ∧ s = S ((xs.take i ++ List.replicate (xs.length - i) ent0).map Ent.enc) i)
    ⟨xs.length, _, Weak.nrm [true, false, false, true, true] [(7, 3)] rfl rfl rfl, 0, Nat.zero_le _, rfl, ?_⟩ ?_
  · refine Eq.trans (b := S (List.replicate (xs.map Ent.enc).length (Ent.enc ent0)) 0) rfl ?_
    rw [hn, List.take_zero, List.nil_append, List.map_replicate, Nat.sub_zero]
  rintro m s ⟨i, hi, rfl, rfl⟩
  refine Split.mk fun t ht => ?_
  rw [hn] at ht
  cases t
  · have hin : i = xs.length := by simp at ht; omega
    subst hin
    refine Need.mk ⟨[], _, .same, ?_, rfl⟩ trivial
    rw [List.take_length, Nat.sub_self, List.replicate_zero, List.append_nil]; rfl
  · have hia : i < xs.length := by simpa using ht
    refine Need.mk (by omega) ?_
    refine Row.mk _ (map_get _ xs i hia) ?_
    refine ACall.mk _ _ (laws_toEntry xs[i]) ?_
    refine Need.mk ⟨by omega, by rw [List.length_map, to_len _ _ hi]; omega⟩ ?_
    refine Row.mk _ (to_get _ xs ent0 hia) ?_
    refine Num.mk _ (wrapS (by omega)) ?_
    refine ⟨xs.length - (i + 1), _, by omega, Weak.nrm [true, false, false, true, true] [(3, 3)] rfl rfl rfl, i + 1, by omega, rfl, ?_⟩
    refine Eq.trans (b := S (((xs.take i ++ List.replicate (xs.length - i) ent0).map Ent.enc).set i (Ent.enc xs[i])) (i + 1)) rfl ?_
    rw [← List.map_set, to_step xs ent0 hia]
end Go.Proofs.YtcnongahanmclaaGreat

namespace Go.Proofs.YtcnongahanmclaaGreat
open Go Go.Proofs Ev
set_option maxRecDepth 100000
set_option linter.unusedSimpArgs false
set_option linter.unusedVariables false
theorem laws_toRun (r : Rn) (hr : r.ents.length ≤ 1048576) : AFn Tryz.prog 175 [.agg (r.enc.map .c)] [] (.agg (encO r)) [] := by
  refine AFn.introX (E := En 0 md0) (en_ok 0 md0) Tryz.func175 rfl rfl rfl fun _ _ => ?_
  refine ACall.mk _ _ (laws_toEntryS r.ents hr) ?_
  exact Need.mk ⟨[], _, .same, rfl, rfl⟩ trivial
theorem laws_toRunS (xs : List Rn) (hx : xs.length ≤ 1048576) (hr : ∀ r ∈ xs, r.ents.length ≤ 1048576) : AFn Tryz.prog 124 [sl (xs.map Rn.enc)] [] (.one (.us 68 (xs.map encO))) [] := by
  refine AFn.introX (E := En 0 md0) (en_ok 0 md0) Tryz.func124 rfl rfl rfl fun _ _ => ?_
  have hn : (xs.map Rn.enc).length = xs.length := List.length_map ..
  refine Need.mk ⟨by omega, by omega, by simp only [hn]; omega, by omega⟩ ?_
  let S : List (List C) → Nat → St := fun rows i => ⟨some (sl (xs.map Rn.enc)) :: none :: none :: some (.one (.ref 3 0 (.cell 0))) :: some (av (.int .i64 i)) :: List.replicate 18 none, absent :: absent :: absent :: ⟨0, 1, some [.us 68 rows]⟩ :: List.replicate 19 absent⟩
  refine ALoop.mk (fun m s => ∃ i : Nat, i ≤ xs.length ∧ m = xs.length - i ∧ s = S ((xs.take i ++ List.replicate (xs.length - i) (⟨[], 0⟩ : Rn)).map encO) i)
    ⟨xs.length, _, Weak.nrm [true, false, false, true, true] [(7, 3)] rfl rfl rfl, 0, Nat.zero_le _, rfl, ?_⟩ ?_
  · refine Eq.trans (b := S (List.replicate (xs.map Rn.enc).length (encO (⟨[], 0⟩ : Rn))) 0) rfl ?_
    rw [hn, List.take_zero, List.nil_append, List.map_replicate, Nat.sub_zero]
  rintro m s ⟨i, hi, rfl, rfl⟩
  refine Split.mk fun t ht => ?_
  rw [hn] at ht
  cases t
  · have hin : i = xs.length := by simp at ht; omega
    subst hin
    refine Need.mk ⟨[], _, .same, ?_, rfl⟩ trivial
    rw [List.take_length, Nat.sub_self, List.replicate_zero, List.append_nil]; rfl
  · have hia : i < xs.length := by simpa using ht
    refine Need.mk (by omega) ?_
    refine Row.mk _ (map_get _ xs i hia) ?_
    refine ACall.mk _ _ (laws_toRun xs[i] (hr _ (List.getElem_mem _))) ?_
    refine Need.mk ⟨by omega, by rw [List.length_map, to_len _ _ hi]; omega⟩ ?_
    refine Row.mk _ (to_get _ xs (⟨[], 0⟩ : Rn) hia) ?_
    refine Num.mk _ (wrapS (by omega)) ?_
    refine ⟨xs.length - (i + 1), _, by omega, Weak.nrm [true, false, false, true, true] [(3, 3)] rfl rfl rfl, i + 1, by omega, rfl, ?_⟩
    refine Eq.trans (b := S (((xs.take i ++ List.replicate (xs.length - i) (⟨[], 0⟩ : Rn)).map encO).set i (encO xs[i])) (i + 1)) rfl ?_
    rw [← List.map_set, to_step xs (⟨[], 0⟩ : Rn) hia]
end Go.Proofs.YtcnongahanmclaaGreat

namespace Go.Proofs.YtcnongahanmclaaGreat
open Go Go.Proofs Ev
set_option maxRecDepth 100000
set_option linter.unusedSimpArgs false
set_option linter.unusedVariables false
theorem laws_toRunSS (xs : List (List Rn)) (hx : xs.length ≤ 1048576) (hr : ∀ l ∈ xs, l.length ≤ 1048576 ∧ ∀ r ∈ l, r.ents.length ≤ 1048576) : AFn Tryz.prog 61 [sl (xs.map encL)] [] (.one (.us 66 (xs.map encLO))) [] := by
  refine AFn.introX (E := En 0 md0) (en_ok 0 md0) Tryz.func61 rfl rfl rfl fun _ _ => ?_
  have hn : (xs.map encL).length = xs.length := List.length_map ..
  refine Need.mk ⟨by omega, by omega, by simp only [hn]; omega, by omega⟩ ?_
  let S : List (List C) → Nat → St := fun rows i => ⟨some (sl (xs.map encL)) :: none :: none :: some (.one (.ref 3 0 (.cell 0))) :: some (av (.int .i64 i)) :: List.replicate 18 none, absent :: absent :: absent :: ⟨0, 1, some [.us 66 rows]⟩ :: List.replicate 19 absent⟩
  refine ALoop.mk (fun m s => ∃ i : Nat, i ≤ xs.length ∧ m = xs.length - i ∧ s = S ((xs.take i ++ List.replicate (xs.length - i) ([] : List Rn)).map encLO) i)
    ⟨xs.length, _, Weak.nrm [true, false, false, true, true] [(7, 3)] rfl rfl rfl, 0, Nat.zero_le _, rfl, ?_⟩ ?_
  · refine Eq.trans (b := S (List.replicate (xs.map encL).length (encLO ([] : List Rn))) 0) rfl ?_
    rw [hn, List.take_zero, List.nil_append, List.map_replicate, Nat.sub_zero]
  rintro m s ⟨i, hi, rfl, rfl⟩
  refine Split.mk fun t ht => ?_
  rw [hn] at ht
  cases t
  · have hin : i = xs.length := by simp at ht; omega
    subst hin
    refine Need.mk ⟨[], _, .same, ?_, rfl⟩ trivial
    rw [List.take_length, Nat.sub_self, List.replicate_zero, List.append_nil]; rfl
  · have hia : i < xs.length := by simpa using ht
    refine Need.mk (by omega) ?_
    refine Row.mk _ (map_get _ xs i hia) ?_
    refine ACall.mk _ _ (laws_toRunS xs[i] (hr _ (List.getElem_mem _)).1 (hr _ (List.getElem_mem _)).2) ?_
    refine Need.mk ⟨by omega, by rw [List.length_map, to_len _ _ hi]; omega⟩ ?_
    refine Row.mk _ (to_get _ xs ([] : List Rn) hia) ?_
    refine Num.mk _ (wrapS (by omega)) ?_
    refine ⟨xs.length - (i + 1), _, by omega, Weak.nrm [true, false, false, true, true] [(3, 3)] rfl rfl rfl, i + 1, by omega, rfl, ?_⟩
    refine Eq.trans (b := S (((xs.take i ++ List.replicate (xs.length - i) ([] : List Rn)).map encLO).set i (encLO xs[i])) (i + 1)) rfl ?_
    rw [← List.map_set, to_step xs ([] : List Rn) hia]
end Go.Proofs.YtcnongahanmclaaGreat

namespace Go.Proofs.YtcnongahanmclaaGreat
open Go Go.Proofs Ev
set_option maxRecDepth 100000
set_option linter.unusedSimpArgs false
set_option linter.unusedVariables false
theorem laws_toIntS (xs : List Int) (hx : xs.length ≤ 1048576) : AFn Tryz.prog 62 [sl (xs.map encI)] [] (.one (.us 3 (xs.map encI))) [] := by
  refine AFn.introX (E := En 0 md0) (en_ok 0 md0) Tryz.func62 rfl rfl rfl fun _ _ => ?_
  have hn : (xs.map encI).length = xs.length := List.length_map ..
  refine Need.mk ⟨by omega, by omega, by simp only [hn]; omega, by omega⟩ ?_
  let S : List (List C) → Nat → St := fun rows i => ⟨some (sl (xs.map encI)) :: none :: none :: some (.one (.ref 3 0 (.cell 0))) :: some (av (.int .i64 i)) :: List.replicate 17 none, absent :: absent :: absent :: ⟨0, 1, some [.us 3 rows]⟩ :: List.replicate 18 absent⟩
  refine ALoop.mk (fun m s => ∃ i : Nat, i ≤ xs.length ∧ m = xs.length - i ∧ s = S ((xs.take i ++ List.replicate (xs.length - i) (0 : Int)).map encI) i)
    ⟨xs.length, _, Weak.nrm [true, false, false, true, true] [(7, 3)] rfl rfl rfl, 0, Nat.zero_le _, rfl, ?_⟩ ?_
  · refine Eq.trans (b := S (List.replicate (xs.map encI).length (encI (0 : Int))) 0) rfl ?_
    rw [hn, List.take_zero, List.nil_append, List.map_replicate, Nat.sub_zero]
  rintro m s ⟨i, hi, rfl, rfl⟩
  refine Split.mk fun t ht => ?_
  rw [hn] at ht
  cases t
  · have hin : i = xs.length := by simp at ht; omega
    subst hin
    refine Need.mk ⟨[], _, .same, ?_, rfl⟩ trivial
    rw [List.take_length, Nat.sub_self, List.replicate_zero, List.append_nil]; rfl
  · have hia : i < xs.length := by simpa using ht
    refine Need.mk (by omega) ?_
    refine Row.mk _ (map_get _ xs i hia) ?_
    refine Need.mk ⟨by omega, by rw [List.length_map, to_len _ _ hi]; omega⟩ ?_
    refine Row.mk _ (to_get _ xs (0 : Int) hia) ?_
    refine Num.mk _ (wrapS (by omega)) ?_
    refine ⟨xs.length - (i + 1), _, by omega, Weak.nrm [true, false, false, true, true] [(3, 3)] rfl rfl rfl, i + 1, by omega, rfl, ?_⟩
    refine Eq.trans (b := S (((xs.take i ++ List.replicate (xs.length - i) (0 : Int)).map encI).set i (encI xs[i])) (i + 1)) rfl ?_
    rw [← List.map_set, to_step xs (0 : Int) hia]
end Go.Proofs.YtcnongahanmclaaGreat

namespace Go.Proofs.YtcnongahanmclaaGreat
open Go Go.Proofs Ev
set_option maxRecDepth 100000
set_option linter.unusedSimpArgs false
set_option linter.unusedVariables false
theorem laws_toTree (t : Tre) (ht : Tre.Small t) : AFn Tryz.prog 18 [.agg (t.enc.map .c)] [] (.agg (encTO t)) [] := by
  refine AFn.introX (E := En 0 md0) (en_ok 0 md0) Tryz.func18 rfl rfl rfl fun _ _ => ?_
  refine ACall.mk _ _ (laws_toEntryS t.mem ht.1) ?_
  refine ACall.mk _ _ (laws_toRunSS t.levels ht.2.1 ht.2.2.1) ?_
  refine ACall.mk _ _ (laws_toIntS t.snaps ht.2.2.2) ?_
  exact Need.mk ⟨[], _, .same, rfl, rfl⟩ trivial
end Go.Proofs.YtcnongahanmclaaGreat

namespace Go.Proofs.YtcnongahanmclaaGreat
open Go Go.Proofs Ev
set_option maxRecDepth 100000
set_option linter.unusedSimpArgs false
set_option linter.unusedVariables false
theorem laws_eqEntry (a b : Ent) : AFn Tryz.prog 69 [.agg (a.enc.map .c), .agg (b.enc.map .c)] [] (rb (decide (a = b))) [] := by
  refine AFn.introX (E := En 0 md0) (en_ok 0 md0) Tryz.func69 rfl rfl rfl fun _ _ => ?_
  have fin : ∀ {c : Bool}, c = decide (a = b) → rb c = rb (decide (a = b)) := fun h => by rw [h]
  refine Split.mk fun t ht => ?_
  rw [bytes_beq] at ht
  cases t
  · refine Split.mk fun t ht1 => ?_
    cases t
    · refine Split.mk fun t ht2 => ?_
      cases t
      · refine Split.mk fun t ht3 => ?_
        rw [bytes_beq] at ht3
        cases t
        · refine Split.mk fun t ht4 => ?_
          cases t
          · exact Need.mk ⟨[], _, .same, fin (by cases a; cases b; simp_all), rfl⟩ trivial
          · exact Need.mk ⟨[], _, .same, fin (by cases a; cases b; simp_all), rfl⟩ trivial
        · exact Need.mk ⟨[], _, .same, fin (by cases a; cases b; simp_all), rfl⟩ trivial
      · exact Need.mk ⟨[], _, .same, fin (by cases a; cases b; simp_all), rfl⟩ trivial
    · exact Need.mk ⟨[], _, .same, fin (by cases a; cases b; simp_all), rfl⟩ trivial
  · exact Need.mk ⟨[], _, .same, fin (by cases a; cases b; simp_all), rfl⟩ trivial
end Go.Proofs.YtcnongahanmclaaGreat

namespace Go.Proofs.YtcnongahanmclaaGreat
open Go Go.Proofs Ev
set_option maxRecDepth 100000
set_option linter.unusedSimpArgs false
set_option linter.unusedVariables false
theorem laws_eqEntryS (a b : List Ent) : AFn Tryz.prog 22 [sl (a.map Ent.enc), sl (b.map Ent.enc)] [] (rb (decide (a = b))) [] := by
  refine AFn.introX (E := En 0 md0) (en_ok 0 md0) Tryz.func22 rfl rfl rfl fun hs _ => ?_
  have ha := Small.len (hs _ (List.mem_cons_self ..))
  rw [List.length_map] at ha
  have fin : ∀ {c : Bool}, c = decide (a = b) → rb c = rb (decide (a = b)) := fun h => by rw [h]
  refine Split.mk fun t ht => ?_
  cases t
  · have hl : a.length = b.length := Int.ofNat_inj.1 (by simpa using ht)
    refine ALoop.mk (fun n s => ∃ i : Nat, i ≤ a.length ∧ n = a.length - i ∧ a.take i = b.take i ∧
      s = ⟨some (sl (a.map Ent.enc)) :: some (sl (b.map Ent.enc)) :: none :: none :: some (av (.bool false)) :: some (av (.int .i64 i)) :: List.replicate 21 none, List.replicate 27 absent⟩)
      ⟨a.length, _, Weak.nrm [true, true, false, false, true, true] [] rfl rfl rfl, 0, Nat.zero_le _, rfl, rfl, rfl⟩ ?_
    rintro n s ⟨i, hi, rfl, hp, rfl⟩
    refine Split.mk fun t ht => ?_
    cases t
    · have hia : i = a.length := by simp at ht; omega
      refine Need.mk ⟨[], _, .same, fin ?_, rfl⟩ trivial
      subst hia
      rw [List.take_length, hl, List.take_length] at hp
      simp [hp]
    · have hia : i < a.length := by simpa using ht
      refine Need.mk (by omega) ?_
      refine Row.mk _ (map_get _ a i hia) ?_
      refine Need.mk (by omega) ?_
      refine Row.mk _ (map_get _ b i (by omega)) ?_
      refine ACall.mk _ _ (laws_eqEntry a[i] (b[i]'(by omega))) ?_
      refine Split.mk fun t ht2 => ?_
      cases t
      · refine Need.mk rfl ?_
        refine Need.mk ⟨[], _, .same, fin ?_, rfl⟩ trivial
        have : a[i] ≠ b[i]'(by omega) := by simpa using ht2
        refine (decide_eq_false fun e => this ?_).symm
        subst e; rfl
      · refine Need.mk rfl ?_
        refine Num.mk _ (wrapS (by omega)) ?_
        refine ⟨a.length - (i + 1), _, by omega, Weak.nrm [true, true, false, false, true, true] [] rfl rfl rfl, i + 1, by omega, rfl, ?_, rfl⟩
        have : a[i] = b[i]'(by omega) := by simpa using ht2
        rw [List.take_succ_eq_append_getElem hia, List.take_succ_eq_append_getElem (by omega), hp, this]
  · refine Need.mk ⟨[], _, .same, fin ?_, rfl⟩ trivial
    have : a.length ≠ b.length := by
      intro e; simp [e] at ht
    exact (decide_eq_false fun e => this (by rw [e])).symm
end Go.Proofs.YtcnongahanmclaaGreat

namespace Go.Proofs.YtcnongahanmclaaGreat
open Go Go.Proofs Ev
set_option maxRecDepth 100000
set_option linter.unusedSimpArgs false
set_option linter.unusedVariables false
theorem laws_eqRun (a b : Rn) : AFn Tryz.prog 177 [.agg (a.enc.map .c), .agg (b.enc.map .c)] [] (rb (decide (a = b))) [] := by
  refine AFn.introX (E := En 0 md0) (en_ok 0 md0) Tryz.func177 rfl rfl rfl fun _ _ => ?_
  have fin : ∀ {c : Bool}, c = decide (a = b) → rb c = rb (decide (a = b)) := fun h => by rw [h]
  refine ACall.mk _ _ (laws_eqEntryS a.ents b.ents) ?_
  refine Split.mk fun t ht => ?_
  cases t
  · exact Need.mk ⟨[], _, .same, fin (by cases a; cases b; simp_all), rfl⟩ trivial
  · refine Split.mk fun t ht1 => ?_
    cases t
    · exact Need.mk ⟨[], _, .same, fin (by cases a; cases b; simp_all), rfl⟩ trivial
    · exact Need.mk ⟨[], _, .same, fin (by cases a; cases b; simp_all), rfl⟩ trivial
end Go.Proofs.YtcnongahanmclaaGreat

namespace Go.Proofs.YtcnongahanmclaaGreat
open Go Go.Proofs Ev
set_option maxRecDepth 100000
set_option linter.unusedSimpArgs false
set_option linter.unusedVariables false
theorem laws_eqRunS (a b : List Rn) : AFn Tryz.prog 127 [sl (a.map Rn.enc), sl (b.map Rn.enc)] [] (rb (decide (a = b))) [] := by
  refine AFn.introX (E := En 0 md0) (en_ok 0 md0) Tryz.func127 rfl rfl rfl fun hs _ => ?_
  have ha := Small.len (hs _ (List.mem_cons_self ..))
  rw [List.length_map] at ha
  have fin : ∀ {c : Bool}, c = decide (a = b) → rb c = rb (decide (a = b)) := fun h => by rw [h]
  refine Split.mk fun t ht => ?_
  cases t
  · have hl : a.length = b.length := Int.ofNat_inj.1 (by simpa using ht)
    refine ALoop.mk (fun n s => ∃ i : Nat, i ≤ a.length ∧ n = a.length - i ∧ a.take i = b.take i ∧
      s = ⟨some (sl (a.map Rn.enc)) :: some (sl (b.map Rn.enc)) :: none :: none :: some (av (.bool false)) :: some (av (.int .i64 i)) :: List.replicate 21 none, List.replicate 27 absent⟩)
      ⟨a.length, _, Weak.nrm [true, true, false, false, true, true] [] rfl rfl rfl, 0, Nat.zero_le _, rfl, rfl, rfl⟩ ?_
    rintro n s ⟨i, hi, rfl, hp, rfl⟩
    refine Split.mk fun t ht => ?_
    cases t
    · have hia : i = a.length := by simp at ht; omega
      refine Need.mk ⟨[], _, .same, fin ?_, rfl⟩ trivial
      subst hia
      rw [List.take_length, hl, List.take_length] at hp
      simp [hp]
    · have hia : i < a.length := by simpa using ht
      refine Need.mk (by omega) ?_
      refine Row.mk _ (map_get _ a i hia) ?_
      refine Need.mk (by omega) ?_
      refine Row.mk _ (map_get _ b i (by omega)) ?_
      refine ACall.mk _ _ (laws_eqRun a[i] (b[i]'(by omega))) ?_
      refine Split.mk fun t ht2 => ?_
      cases t
      · refine Need.mk rfl ?_
        refine Need.mk ⟨[], _, .same, fin ?_, rfl⟩ trivial
        have : a[i] ≠ b[i]'(by omega) := by simpa using ht2
        refine (decide_eq_false fun e => this ?_).symm
        subst e; rfl
      · refine Need.mk rfl ?_
        refine Num.mk _ (wrapS (by omega)) ?_
        refine ⟨a.length - (i + 1), _, by omega, Weak.nrm [true, true, false, false, true, true] [] rfl rfl rfl, i + 1, by omega, rfl, ?_, rfl⟩
        have : a[i] = b[i]'(by omega) := by simpa using ht2
        rw [List.take_succ_eq_append_getElem hia, List.take_succ_eq_append_getElem (by omega), hp, this]
  · refine Need.mk ⟨[], _, .same, fin ?_, rfl⟩ trivial
    have : a.length ≠ b.length := by
      intro e; simp [e] at ht
    exact (decide_eq_false fun e => this (by rw [e])).symm
end Go.Proofs.YtcnongahanmclaaGreat

namespace Go.Proofs.YtcnongahanmclaaGreat
open Go Go.Proofs Ev
set_option maxRecDepth 100000
set_option linter.unusedSimpArgs false
set_option linter.unusedVariables false
theorem laws_eqRunSS (a b : List (List Rn)) : AFn Tryz.prog 67 [sl (a.map encL), sl (b.map encL)] [] (rb (decide (a = b))) [] := by
  refine AFn.introX (E := En 0 md0) (en_ok 0 md0) Tryz.func67 rfl rfl rfl fun hs _ => ?_
  have ha := Small.len (hs _ (List.mem_cons_self ..))
  rw [List.length_map] at ha
  have fin : ∀ {c : Bool}, c = decide (a = b) → rb c = rb (decide (a = b)) := fun h => by rw [h]
  refine Split.mk fun t ht => ?_
  cases t
  · have hl : a.length = b.length := Int.ofNat_inj.1 (by simpa using ht)
    refine ALoop.mk (fun n s => ∃ i : Nat, i ≤ a.length ∧ n = a.length - i ∧ a.take i = b.take i ∧
      s = ⟨some (sl (a.map encL)) :: some (sl (b.map encL)) :: none :: none :: some (av (.bool false)) :: some (av (.int .i64 i)) :: List.replicate 21 none, List.replicate 27 absent⟩)
      ⟨a.length, _, Weak.nrm [true, true, false, false, true, true] [] rfl rfl rfl, 0, Nat.zero_le _, rfl, rfl, rfl⟩ ?_
    rintro n s ⟨i, hi, rfl, hp, rfl⟩
    refine Split.mk fun t ht => ?_
    cases t
    · have hia : i = a.length := by simp at ht; omega
      refine Need.mk ⟨[], _, .same, fin ?_, rfl⟩ trivial
      subst hia
      rw [List.take_length, hl, List.take_length] at hp
      simp [hp]
    · have hia : i < a.length := by simpa using ht
      refine Need.mk (by omega) ?_
      refine Row.mk _ (map_get _ a i hia) ?_
      refine Need.mk (by omega) ?_
      refine Row.mk _ (map_get _ b i (by omega)) ?_
      refine ACall.mk _ _ (laws_eqRunS a[i] (b[i]'(by omega))) ?_
      refine Split.mk fun t ht2 => ?_
      cases t
      · refine Need.mk rfl ?_
        refine Need.mk ⟨[], _, .same, fin ?_, rfl⟩ trivial
        have : a[i] ≠ b[i]'(by omega) := by simpa using ht2
        refine (decide_eq_false fun e => this ?_).symm
        subst e; rfl
      · refine Need.mk rfl ?_
        refine Num.mk _ (wrapS (by omega)) ?_
        refine ⟨a.length - (i + 1), _, by omega, Weak.nrm [true, true, false, false, true, true] [] rfl rfl rfl, i + 1, by omega, rfl, ?_, rfl⟩
        have : a[i] = b[i]'(by omega) := by simpa using ht2
        rw [List.take_succ_eq_append_getElem hia, List.take_succ_eq_append_getElem (by omega), hp, this]
  · refine Need.mk ⟨[], _, .same, fin ?_, rfl⟩ trivial
    have : a.length ≠ b.length := by
      intro e; simp [e] at ht
    exact (decide_eq_false fun e => this (by rw [e])).symm
end Go.Proofs.YtcnongahanmclaaGreat

namespace Go.Proofs.YtcnongahanmclaaGreat
open Go Go.Proofs Ev
set_option maxRecDepth 100000
set_option linter.unusedSimpArgs false
set_option linter.unusedVariables false
theorem laws_eqIntS (a b : List Int) : AFn Tryz.prog 68 [sl (a.map encI), sl (b.map encI)] [] (rb (decide (a = b))) [] := by
  refine AFn.introX (E := En 0 md0) (en_ok 0 md0) Tryz.func68 rfl rfl rfl fun hs _ => ?_
  have ha := Small.len (hs _ (List.mem_cons_self ..))
  rw [List.length_map] at ha
  have fin : ∀ {c : Bool}, c = decide (a = b) → rb c = rb (decide (a = b)) := fun h => by rw [h]
  refine Split.mk fun t ht => ?_
  cases t
  · have hl : a.length = b.length := Int.ofNat_inj.1 (by simpa using ht)
    refine ALoop.mk (fun n s => ∃ i : Nat, i ≤ a.length ∧ n = a.length - i ∧ a.take i = b.take i ∧
      s = ⟨some (sl (a.map encI)) :: some (sl (b.map encI)) :: none :: none :: some (av (.bool false)) :: some (av (.int .i64 i)) :: List.replicate 20 none, List.replicate 26 absent⟩)
      ⟨a.length, _, Weak.nrm [true, true, false, false, true, true] [] rfl rfl rfl, 0, Nat.zero_le _, rfl, rfl, rfl⟩ ?_
    rintro n s ⟨i, hi, rfl, hp, rfl⟩
    refine Split.mk fun t ht => ?_
    cases t
    · have hia : i = a.length := by simp at ht; omega
      refine Need.mk ⟨[], _, .same, fin ?_, rfl⟩ trivial
      subst hia
      rw [List.take_length, hl, List.take_length] at hp
      simp [hp]
    · have hia : i < a.length := by simpa using ht
      refine Need.mk (by omega) ?_
      refine Row.mk _ (map_get _ a i hia) ?_
      refine Need.mk (by omega) ?_
      refine Row.mk _ (map_get _ b i (by omega)) ?_
      refine Split.mk fun t ht2 => ?_
      cases t
      · refine Need.mk rfl ?_
        refine Num.mk _ (wrapS (by omega)) ?_
        refine ⟨a.length - (i + 1), _, by omega, Weak.nrm [true, true, false, false, true, true] [] rfl rfl rfl, i + 1, by omega, rfl, ?_, rfl⟩
        have : a[i] = b[i]'(by omega) := by simpa using ht2
        rw [List.take_succ_eq_append_getElem hia, List.take_succ_eq_append_getElem (by omega), hp, this]
      · refine Need.mk rfl ?_
        refine Need.mk ⟨[], _, .same, fin ?_, rfl⟩ trivial
        have : a[i] ≠ b[i]'(by omega) := by simpa using ht2
        refine (decide_eq_false fun e => this ?_).symm
        subst e; rfl
  · refine Need.mk ⟨[], _, .same, fin ?_, rfl⟩ trivial
    have : a.length ≠ b.length := by
      intro e; simp [e] at ht
    exact (decide_eq_false fun e => this (by rw [e])).symm
end Go.Proofs.YtcnongahanmclaaGreat

namespace Go.Proofs.YtcnongahanmclaaGreat
open Go Go.Proofs Ev
set_option maxRecDepth 100000
set_option linter.unusedSimpArgs false
set_option linter.unusedVariables false
theorem laws_eqTree (a b : Tre) : AFn Tryz.prog 21 [.agg (a.enc.map .c), .agg (b.enc.map .c)] [] (rb (decide (a = b))) [] := by
  refine AFn.introX (E := En 0 md0) (en_ok 0 md0) Tryz.func21 rfl rfl rfl fun _ _ => ?_
  have fin : ∀ {c : Bool}, c = decide (a = b) → rb c = rb (decide (a = b)) := fun h => by rw [h]
  refine Split.mk fun t ht => ?_
  cases t
  · refine ACall.mk _ _ (laws_eqEntryS a.mem b.mem) ?_
    refine Split.mk fun t ht1 => ?_
    cases t
    · exact Need.mk ⟨[], _, .same, fin (by cases a; cases b; simp_all), rfl⟩ trivial
    · refine ACall.mk _ _ (laws_eqRunSS a.levels b.levels) ?_
      refine Split.mk fun t ht2 => ?_
      cases t
      · exact Need.mk ⟨[], _, .same, fin (by cases a; cases b; simp_all), rfl⟩ trivial
      · refine ACall.mk _ _ (laws_eqIntS a.snaps b.snaps) ?_
        refine Split.mk fun t ht3 => ?_
        cases t
        · exact Need.mk ⟨[], _, .same, fin (by cases a; cases b; simp_all), rfl⟩ trivial
        · exact Need.mk ⟨[], _, .same, fin (by cases a; cases b; simp_all), rfl⟩ trivial
  · exact Need.mk ⟨[], _, .same, fin (by cases a; cases b; simp_all), rfl⟩ trivial
end Go.Proofs.YtcnongahanmclaaGreat

namespace Go.Proofs.YtcnongahanmclaaGreat
open Go Go.Proofs Ev
set_option maxRecDepth 100000
set_option linter.unusedSimpArgs false
set_option linter.unusedVariables false
theorem laws_heldEntryS (k n : Nat) (hk : k + 5 * n ≤ 4611686018427387904) : AFn Tryz.prog 73 [sl ((markL k n).map Ent.enc), av (.int .i64 k)] [] (.one (vi ((k + 5 * n : Nat) : Int))) [] := by
  refine AFn.introX (E := En 0 md0) (en_ok 0 md0) Tryz.func73 rfl rfl rfl fun _ _ => ?_
  have hn : ((markL k n).map Ent.enc).length = n := by rw [List.length_map, markL_len]
  refine ALoop.mk (fun m s => ∃ i : Nat, i ≤ n ∧ m = n - i ∧
      s = ⟨some (sl ((markL k n).map Ent.enc)) :: some (av (.int .i64 ((k + 5 * i : Nat) : Int))) :: none :: none :: none :: some (av (.int .i64 i)) :: List.replicate 54 none, List.replicate 60 absent⟩)
    ⟨n, _, Weak.nrm [true, true, false, false, false, true] [] rfl rfl rfl, 0, Nat.zero_le _, rfl, rfl⟩ ?_
  rintro m s ⟨i, hi, rfl, rfl⟩
  refine Split.mk fun t ht => ?_
  rw [hn] at ht
  cases t
  · have hin : i = n := by simp at ht; omega
    subst hin
    exact Need.mk ⟨[], _, .same, rfl, rfl⟩ trivial
  · have hin : i < n := by simpa using ht
    have hget : ((markL k n).map Ent.enc)[i]? = some (markE (k + 5 * i)).enc := by rw [List.getElem?_map, markL_get hin]; rfl
    refine Need.mk (by omega) ?_
    refine Row.mk _ hget ?_
    refine ACall.mk _ _ (laws_markText (k + 5 * i) (by omega)) ?_
    refine Split.mk fun t ht => ?_
    rw [bytes_beq] at ht
    cases t
    · refine Need.mk rfl ?_
      refine Num.mk _ (wrapS (by omega)) ?_
      refine Need.mk (by omega) ?_
      refine Row.mk _ hget ?_
      refine Split.mk fun t ht => ?_
      cases t
      · refine Num.mk _ (wrapS (by omega)) ?_
        refine Need.mk (by omega) ?_
        refine Row.mk _ hget ?_
        refine Split.mk fun t ht => ?_
        cases t
        · refine Num.mk _ (wrapS (by omega)) ?_
          refine Need.mk (by omega) ?_
          refine Row.mk _ hget ?_
          refine ACall.mk _ _ (laws_markText (k + 5 * i + 1 + 1 + 1) (by omega)) ?_
          refine Split.mk fun t ht => ?_
          rw [bytes_beq] at ht
          cases t
          · refine Need.mk rfl ?_
            refine Num.mk _ (wrapS (by omega)) ?_
            refine Need.mk (by omega) ?_
            refine Row.mk _ hget ?_
            refine Split.mk fun t ht => ?_
            cases t
            · refine Num.mk _ (wrapS (by omega)) ?_
              refine Num.mk _ (wrapS (by omega)) ?_
              exact ⟨n - (i + 1), _, by omega, Weak.nrm [true, true, false, false, false, true] [] rfl rfl rfl, i + 1, by omega, rfl, rfl⟩
            · simp [markE] at ht <;> omega
          · simp [markE] at ht <;> omega
        · simp [markE] at ht <;> omega
      · simp [markE] at ht <;> omega
    · simp [markE] at ht <;> omega
end Go.Proofs.YtcnongahanmclaaGreat

namespace Go.Proofs.YtcnongahanmclaaGreat
open Go Go.Proofs Ev
set_option maxRecDepth 100000
set_option linter.unusedSimpArgs false
set_option linter.unusedVariables false
theorem laws_heldRunS (xs : List Rn) (k : Nat) (hk : posR k xs ≤ 4611686018427387904) : AFn Tryz.prog 129 [sl ((mkRs k xs).map Rn.enc), av (.int .i64 k)] [] (.one (vi (posR k xs : Nat))) [] := by
  refine AFn.introX (E := En 0 md0) (en_ok 0 md0) Tryz.func129 rfl rfl rfl fun _ _ => ?_
  have hn : ((mkRs k xs).map Rn.enc).length = xs.length := by rw [List.length_map, mkRs_len]
  have hxl := posR_len xs k
  refine ALoop.mk (fun m s => ∃ i : Nat, i ≤ xs.length ∧ m = xs.length - i ∧
      s = ⟨some (sl ((mkRs k xs).map Rn.enc)) :: some (av (.int .i64 ((posR k (xs.take i) : Nat) : Int))) :: none :: none :: none :: some (av (.int .i64 i)) :: List.replicate 25 none, List.replicate 31 absent⟩)
    ⟨xs.length, _, Weak.nrm [true, true, false, false, false, true] [] rfl rfl rfl, 0, Nat.zero_le _, rfl, rfl⟩ ?_
  rintro m s ⟨i, hi, rfl, rfl⟩
  refine Split.mk fun t ht => ?_
  rw [hn] at ht
  cases t
  · have hin : i = xs.length := by simp at ht; omega
    subst hin
    refine Need.mk ⟨[], _, .same, ?_, rfl⟩ trivial
    rw [List.take_length]; rfl
  · have hia : i < xs.length := by simpa using ht
    have hpos : posR k (xs.take (i + 1)) = posR k (xs.take i) + 5 * xs[i].ents.length + 1 := by rw [List.take_succ_eq_append_getElem hia, posR_app]; rfl
    have hle : posR k (xs.take (i + 1)) ≤ 4611686018427387904 := by
      have : posR k xs = posR (posR k (xs.take (i + 1))) (xs.drop (i + 1)) := by rw [← posR_app, List.take_append_drop]
      have h2 := posR_le (xs.drop (i + 1)) (posR k (xs.take (i + 1)))
      omega
    have hget : ((mkRs k xs).map Rn.enc)[i]? = some (mkR (posR k (xs.take i)) xs[i]).enc := by
      have h1 : mkRs k xs = mkRs k (xs.take i) ++ mkRs (posR k (xs.take i)) (xs.drop i) := by rw [← mkRs_app, List.take_append_drop]
      rw [List.getElem?_map, h1, List.getElem?_append_right (by rw [mkRs_len, List.length_take]; omega), mkRs_len, List.length_take, Nat.min_eq_left (by omega), Nat.sub_self, List.drop_eq_getElem_cons hia]
      rfl
    refine Need.mk (by omega) ?_
    refine Row.mk _ hget ?_
    refine ACall.mk _ _ (laws_heldEntryS (posR k (xs.take i)) xs[i].ents.length (by omega)) ?_
    refine Split.mk fun t ht => ?_
    cases t
    · refine Need.mk (by omega) ?_
      refine Row.mk _ hget ?_
      refine Split.mk fun t ht => ?_
      cases t
      · refine Num.mk _ (wrapS (by omega)) ?_
        refine Num.mk _ (wrapS (by omega)) ?_
        refine ⟨xs.length - (i + 1), _, by omega, Weak.nrm [true, true, false, false, false, true] [] rfl rfl rfl, i + 1, by omega, rfl, ?_⟩
        rw [hpos]; rfl
      · simp [mkR] at ht
    · simp at ht <;> omega
end Go.Proofs.YtcnongahanmclaaGreat

namespace Go.Proofs.YtcnongahanmclaaGreat
open Go Go.Proofs Ev
set_option maxRecDepth 100000
set_option linter.unusedSimpArgs false
set_option linter.unusedVariables false
theorem laws_heldRunSS (xs : List (List Rn)) (k : Nat) (hk : posL k xs ≤ 4611686018427387904) : AFn Tryz.prog 74 [sl ((mkLs k xs).map encL), av (.int .i64 k)] [] (.one (vi (posL k xs : Nat))) [] := by
  refine AFn.introX (E := En 0 md0) (en_ok 0 md0) Tryz.func74 rfl rfl rfl fun hs _ => ?_
  have hn : ((mkLs k xs).map encL).length = xs.length := by rw [List.length_map, mkLs_len]
  have hxl := Small.len (hs _ (List.mem_cons_self ..))
  rw [hn] at hxl
  refine ALoop.mk (fun m s => ∃ i : Nat, i ≤ xs.length ∧ m = xs.length - i ∧
      s = ⟨some (sl ((mkLs k xs).map encL)) :: some (av (.int .i64 ((posL k (xs.take i) : Nat) : Int))) :: none :: none :: none :: some (av (.int .i64 i)) :: List.replicate 15 none, List.replicate 21 absent⟩)
    ⟨xs.length, _, Weak.nrm [true, true, false, false, false, true] [] rfl rfl rfl, 0, Nat.zero_le _, rfl, rfl⟩ ?_
  rintro m s ⟨i, hi, rfl, rfl⟩
  refine Split.mk fun t ht => ?_
  rw [hn] at ht
  cases t
  · have hin : i = xs.length := by simp at ht; omega
    subst hin
    refine Need.mk ⟨[], _, .same, ?_, rfl⟩ trivial
    rw [List.take_length]; rfl
  · have hia : i < xs.length := by simpa using ht
    have hpos : posL k (xs.take (i + 1)) = posR (posL k (xs.take i)) xs[i] := by rw [List.take_succ_eq_append_getElem hia, posL_app]; rfl
    have hle : posL k (xs.take (i + 1)) ≤ 4611686018427387904 := by
      have : posL k xs = posL (posL k (xs.take (i + 1))) (xs.drop (i + 1)) := by rw [← posL_app, List.take_append_drop]
      have h2 := posL_le (xs.drop (i + 1)) (posL k (xs.take (i + 1)))
      omega
    have hget : ((mkLs k xs).map encL)[i]? = some (encL (mkRs (posL k (xs.take i)) xs[i])) := by
      have h1 : mkLs k xs = mkLs k (xs.take i) ++ mkLs (posL k (xs.take i)) (xs.drop i) := by rw [← mkLs_app, List.take_append_drop]
      rw [List.getElem?_map, h1, List.getElem?_append_right (by rw [mkLs_len, List.length_take]; omega), mkLs_len, List.length_take, Nat.min_eq_left (by omega), Nat.sub_self, List.drop_eq_getElem_cons hia]
      rfl
    refine Need.mk (by omega) ?_
    refine Row.mk _ hget ?_
    refine ACall.mk _ _ (laws_heldRunS xs[i] (posL k (xs.take i)) (by omega)) ?_
    refine Split.mk fun t ht => ?_
    cases t
    · refine Num.mk _ (wrapS (by omega)) ?_
      refine ⟨xs.length - (i + 1), _, by omega, Weak.nrm [true, true, false, false, false, true] [] rfl rfl rfl, i + 1, by omega, rfl, ?_⟩
      rw [hpos]; rfl
    · simp at ht <;> omega
end Go.Proofs.YtcnongahanmclaaGreat

namespace Go.Proofs.YtcnongahanmclaaGreat
open Go Go.Proofs Ev
set_option maxRecDepth 100000
set_option linter.unusedSimpArgs false
set_option linter.unusedVariables false
theorem laws_heldIntS (k n : Nat) (hk : k + n ≤ 4611686018427387904) : AFn Tryz.prog 75 [sl ((markI k n).map encI), av (.int .i64 k)] [] (.one (vi ((k + n : Nat) : Int))) [] := by
  refine AFn.introX (E := En 0 md0) (en_ok 0 md0) Tryz.func75 rfl rfl rfl fun _ _ => ?_
  have hn : ((markI k n).map encI).length = n := by rw [List.length_map, markI_len]
  refine ALoop.mk (fun m s => ∃ i : Nat, i ≤ n ∧ m = n - i ∧
      s = ⟨some (sl ((markI k n).map encI)) :: some (av (.int .i64 ((k + i : Nat) : Int))) :: none :: none :: none :: some (av (.int .i64 i)) :: List.replicate 15 none, List.replicate 21 absent⟩)
    ⟨n, _, Weak.nrm [true, true, false, false, false, true] [] rfl rfl rfl, 0, Nat.zero_le _, rfl, rfl⟩ ?_
  rintro m s ⟨i, hi, rfl, rfl⟩
  refine Split.mk fun t ht => ?_
  rw [hn] at ht
  cases t
  · have hin : i = n := by simp at ht; omega
    subst hin
    exact Need.mk ⟨[], _, .same, rfl, rfl⟩ trivial
  · have hin : i < n := by simpa using ht
    have hget : ((markI k n).map encI)[i]? = some (encI ((k + i : Nat) : Int)) := by rw [List.getElem?_map, markI_get hin]; rfl
    refine Need.mk (by omega) ?_
    refine Row.mk _ hget ?_
    refine Split.mk fun t ht => ?_
    cases t
    · refine Num.mk _ (wrapS (by omega)) ?_
      refine Num.mk _ (wrapS (by omega)) ?_
      exact ⟨n - (i + 1), _, by omega, Weak.nrm [true, true, false, false, false, true] [] rfl rfl rfl, i + 1, by omega, rfl, rfl⟩
    · simp at ht
end Go.Proofs.YtcnongahanmclaaGreat

namespace Go.Proofs.YtcnongahanmclaaGreat
open Go Go.Proofs Ev
set_option maxRecDepth 100000
set_option linter.unusedSimpArgs false
set_option linter.unusedVariables false
theorem laws_heldTree (t : Tre) (k : Nat) (hk : posT k t ≤ 4611686018427387904) : AFn Tryz.prog 25 [.agg ((mkT k t).enc.map .c), av (.int .i64 k)] [] (.one (vi (posT k t : Nat))) [] := by
  refine AFn.introX (E := En 0 md0) (en_ok 0 md0) Tryz.func25 rfl rfl rfl fun _ hs => ?_
  have h1 := posL_le t.levels (k + 5 * t.mem.length)
  unfold posT at hk
  refine ACall.mk _ _ (laws_heldEntryS k t.mem.length (by omega)) ?_
  refine Split.mk fun b hb => ?_
  cases b
  · refine ACall.mk _ _ (laws_heldRunSS t.levels (k + 5 * t.mem.length) (by omega)) ?_
    refine Split.mk fun b hb => ?_
    cases b
    · refine ACall.mk _ _ (laws_heldIntS (posL (k + 5 * t.mem.length) t.levels) t.snaps.length (by omega)) ?_
      refine Split.mk fun b hb => ?_
      cases b
      · exact Need.mk ⟨[], _, .same, rfl, rfl⟩ trivial
      · simp at hb <;> omega
    · simp at hb <;> omega
  · simp at hb <;> omega
end Go.Proofs.YtcnongahanmclaaGreat
