/-
  Contracts of functions, part 4.
-/
import Derived.Test.YtcnongahanmclaaGreatTFnExactTreeCompactC
set_option linter.unusedVariables false
set_option linter.unusedSimpArgs false
namespace Go.Proofs.YtcnongahanmclaaGreat
open Go Go.Proofs Ev
set_option maxRecDepth 100000
set_option maxHeartbeats 40000000
set_option linter.unusedSimpArgs false
set_option linter.unusedVariables false
theorem sizeH (a b : List (List C)) (hs : List Hd1) (r : List C) (k : Nat) (ha : a = hs.map encH) (hb : b = [r]) (hk : k ≤ 100) (h : hs.length ≤ 2000000) : (a.length + b.length) * k ≤ 140737488355328 ∧ a.length + b.length ≤ maxLen := by
 subst ha; subst hb
 rw [List.length_map]
 have : (hs.length + [r].length) * k ≤ (hs.length + [r].length) * 100 := Nat.mul_le_mul_left _ hk
 simp only [List.length_cons, List.length_nil] at this ⊢
 exact ⟨by omega, Nat.le_trans (by omega : hs.length + 1 ≤ 2000001) (by decide)⟩
theorem spec_MergeAll (L : List (List Ent)) (hN : L.flatten.length ≤ 1048576) (hL : L.length ≤ 1048576) : AFn Tryz.prog 114 [sl (L.map encX)] [] (.one (.us 54 ((isort eLess L.flatten).map Ent.enc))) [] := by
 refine AFn.introX (E := En 0 md0) (en_ok 0 _) Tryz.func114 rfl rfl rfl fun _ _ => ?_
 have hn : (L.map encX).length = L.length := List.length_map ..
 have htot : ∀ i, i ≤ L.length → ((L.take i).flatten).length ≤ L.flatten.length := fun i _ => by
  have : L.flatten = (L.take i).flatten ++ (L.drop i).flatten := by rw [← List.flatten_append, List.take_append_drop]
  rw [this, List.length_append]; omega
 have hstep : ∀ (i : Nat) (h : i < L.length), (L.take (i + 1)).flatten = (L.take i).flatten ++ L[i] := fun i h => by
  rw [List.take_succ_eq_append_getElem h, List.flatten_append]; simp
 let S : Nat → List Ent → Nat → St := fun kd out i => ⟨some (sl (L.map encX)) :: none :: none :: some (.one (.ref 3 0 (.cell 0))) :: some (av (.int .i64 i)) :: List.replicate 27 none, absent :: absent :: absent :: ⟨0, kd, some [.us 54 (out.map Ent.enc)]⟩ :: List.replicate 28 absent⟩
 let S2 : Nat → List Ent → Nat → Nat → St := fun kd out i k => ⟨some (sl (L.map encX)) :: none :: none :: some (.one (.ref 3 0 (.cell 0))) :: some (av (.int .i64 i)) :: some (av (.int .i64 k)) :: List.replicate 26 none, absent :: absent :: absent :: ⟨0, kd, some [.us 54 (out.map Ent.enc)]⟩ :: List.replicate 28 absent⟩
 refine ALoop.mk (fun m s => ∃ i kd : Nat, i ≤ L.length ∧ m = L.length - i ∧ s = S kd (isort eLess (L.take i).flatten) i)
  ⟨L.length, _, Weak.nrm [true, false, false, true, true] [(6, 3)] rfl rfl rfl, 0, 2, Nat.zero_le _, rfl, rfl⟩ ?_
 rintro m s ⟨i, kd, hi, rfl, hs⟩
 by_cases hin : i = L.length
 ·rw [hin, List.take_length] at hs
  subst hs
  refine Split.mk fun t ht => ?_
  rw [hn] at ht
  cases t
  case true => rw [decide_eq_true_iff] at ht; omega
  exact Need.mk ⟨[], _, .same, rfl, rfl⟩ trivial
 ·have hia : i < L.length := by omega
  have hst := hstep i hia
  have htt := htot (i + 1) hia
  rw [hst, List.length_append] at htt
  have hrow := map_get encX L i hia
  have hln : (L[i].map Ent.enc).length = L[i].length := List.length_map ..
  have hex := exq (L[i])
  obtain ⟨l, hle⟩ := hex
  rw [hle] at hst htt hrow hln
  have hex := exq ((L.take i).flatten)
  obtain ⟨A, hA⟩ := hex
  rw [hA] at hst htt hs
  subst hs
  refine Split.mk fun t ht => ?_
  rw [hn] at ht
  cases t
  case false => rw [decide_eq_false_iff_not] at ht; omega
  refine ALoop.mk (fun m s => ∃ k kd : Nat, k ≤ l.length ∧ m = l.length - k ∧ s = S2 kd (isort eLess (A ++ l.take k)) i k)
   ⟨l.length, _, Weak.nrm [true, false, false, true, true, true] [(3, 3)] rfl rfl rfl, 0, kd, Nat.zero_le _, rfl, by rw [List.take_zero, List.append_nil]; rfl⟩ ?_
  rintro m s ⟨k, kd, hk, rfl, hs⟩
  by_cases hkn : k = l.length
  ·rw [hkn, List.take_length] at hs
   subst hs
   refine nd ?_
   refine Row.mk _ hrow ?_
   refine Split.mk fun t ht => ?_
   rw [hln] at ht
   cases t
   case true => rw [decide_eq_true_iff] at ht; omega
   refine Num.mk _ (wrapS (by omega)) ?_
   refine ⟨L.length - (i + 1), _, by omega, Weak.nrm [true, false, false, true, true] [(3, 3)] rfl rfl rfl, i + 1, kd, by omega, rfl, ?_⟩
   rw [hst]; rfl
  ·have hka : k < l.length := by omega
   have hrow2 := map_get Ent.enc l k hka
   have hlen : (isort eLess (A ++ l.take k)).length ≤ 1048576 := by rw [isort_len, List.length_append, List.length_take]; omega
   have hins : ins eLess (isort eLess (A ++ l.take k)) l[k] = isort eLess (A ++ l.take (k + 1)) := by rw [← isort_snoc, List.append_assoc, ← List.take_succ_eq_append_getElem hka]
   have hex := exq (isort eLess (A ++ l.take k))
   obtain ⟨ys, hy⟩ := hex
   rw [hy] at hs hlen hins
   have hP := spec_l4Put ys l[k] hlen
   subst hs
   refine nd ?_
   refine Row.mk _ hrow ?_
   refine Split.mk fun t ht => ?_
   rw [hln] at ht
   cases t
   case false => rw [decide_eq_false_iff_not] at ht; omega
   refine nd ?_
   refine Row.mk _ hrow ?_
   refine nd ?_
   refine Row.mk _ hrow2 ?_
   refine Fz.mk _ (frzE ys) ?_
   refine ACall.mk _ _ hP ?_
   refine Need.mk ⟨closed_us _ _, no_objs⟩ ?_
   refine Num.mk _ (wrapS (by omega)) ?_
   refine ⟨l.length - (k + 1), _, by omega, Weak.nrm [true, false, false, true, true, true] [(30, 3)] rfl rfl rfl, k + 1, 1, by omega, rfl, ?_⟩
   rw [← hins]; rfl
theorem impl_MergeAll (L : List (List Ent)) (hN : L.flatten.length ≤ 1048576) (hL : L.length ≤ 1048576) : AFn Tryz.prog 110 [sl (L.map encX)] [] (.one (.us 54 ((isort eLess L.flatten).map Ent.enc))) [] := by
 refine AFn.introX (E := En 0 (md1 [116]) (fz := [26])) (en_ok 0 _ _ _ _ _) Tryz.func110 rfl rfl rfl fun _ _ => ?_
 have hpos : 0 < Tryz.prog.cellsOf 54 := pos_of tab_ok (t := 54) rfl
 have hn : (L.map encX).length = L.length := List.length_map ..
 have hmem : ∀ l ∈ L, l.length ≤ 1048576 := fun l hl => by
  have := sum_mem List.length hl
  rw [← List.length_flatten] at this
  omega
 have hex := exq (L.map (isort eLess))
 obtain ⟨K, hK⟩ := hex
 have hKl : K.length = L.length := by rw [← hK, List.length_map]
 have hKi : ∀ (i : Nat) (h : i < L.length), K[i]'(by omega) = isort eLess L[i] := fun i h => by subst hK; simp
 have hKs : ∀ l ∈ K, Srt eLess l := fun l hl => by
  rw [← hK] at hl
  obtain ⟨l0, _, rfl⟩ := List.mem_map.1 hl
  exact srt_isort eLess_wk _
 have hKf : isort eLess K.flatten = isort eLess L.flatten := by rw [← hK]; exact isort_flat L
 have hKn : K.flatten.length ≤ 1048576 := by rw [← hK, flat_len]; exact hN
 have hlv := live_len K
 have hlt : ∀ i, (live (K.take i)).length ≤ 1048576 := fun i => Nat.le_trans (live_len _) (by rw [List.length_take]; omega)
 have hI := heap_Init (live K) (by omega) (fun a ha => live_ne ha)
 obtain ⟨hp1, hp2⟩ := initF_ok ((live K).length / 2) (live K).length (live K) (Nat.le_refl _) (by omega) (fun c h0 hc hlo => by unfold par at hlo; omega)
 have hex := exq (isort eLess L.flatten)
 obtain ⟨Z, hZ⟩ := hex
 rw [hZ] at hKf
 rw [hZ]
 have hex := exq (initF (live K).length ((live K).length / 2) (live K))
 obtain ⟨H0, hH0⟩ := hex
 rw [hH0] at hI hp1 hp2
 let S1 : List Hd1 → Nat → St := fun hs i => ⟨none :: none :: none :: some (.bx 3 0) :: none :: none :: none :: none :: some (sl (L.map encX)) :: some (av (.int .i64 ((L.map encX).length : Nat))) :: some (av (.int .i64 i)) :: List.replicate 51 none, absent :: absent :: absent :: ⟨0, 0, some [.us 162 (hs.map encH)]⟩ :: List.replicate 58 absent⟩
 let S2 : List Hd1 → List Ent → St := fun hs out => ⟨none :: none :: none :: some (.bx 3 0) :: none :: none :: none :: some (.one (.ref 7 0 (.cell 0))) :: List.replicate 54 none, absent :: absent :: absent :: ⟨0, 0, some [.us 162 (hs.map encH)]⟩ :: absent :: absent :: absent :: ⟨0, 1, some [.us 54 (out.map Ent.enc)]⟩ :: List.replicate 54 absent⟩
 refine ALoop.mk (fun m s => ∃ i : Nat, i ≤ L.length ∧ m = L.length - i ∧ s = S1 (live (K.take i)) i)
  ⟨L.length, _, Weak.nrm [false, false, false, true, false, false, false, false, true, true, true] [(3, 3)] rfl rfl rfl, 0, Nat.zero_le _, rfl, rfl⟩ ?_
 rintro m s ⟨i, hi, rfl, hs⟩
 by_cases hin : i = L.length
 ·have e : K.take i = K := List.take_of_length_le (by omega)
  rw [e] at hs
  subst hs
  refine Split.mk fun t ht => ?_
  rw [hn] at ht
  cases t
  case true => rw [decide_eq_true_iff] at ht; omega
  refine ACall.mk _ _ hI ?_
  refine ALoop.mk (fun m s => ∃ (M : List (List Ent)) (hs : List Hd1) (out : List Ent), m = M.flatten.length ∧ hs.Perm (live M) ∧ (∀ l ∈ M, Srt eLess l) ∧ HP hl hd0 hs hs.length 0 ∧ out ++ isort eLess M.flatten = Z ∧ out.length + M.flatten.length ≤ 1048576 ∧ hs.length ≤ 1048576 ∧ s = S2 hs out)
   ⟨K.flatten.length, _, Weak.trans (Weak.nrm [false, false, false, true, false, false, false, true] [(3, 3)] rfl rfl rfl) (Weak.nilOwn 7 7 54 rfl rfl hpos), K, H0, [], rfl, hp2, hKs, by rw [hp2.length_eq]; exact hp1, by rw [hKf]; rfl, by simpa using hKn, by rw [hp2.length_eq]; omega, rfl⟩ ?_
  rintro m s ⟨M, hs, out, rfl, hperm, hsrt, hhp, hout, hlen, hhl, hs0⟩
  cases hs with
  | nil =>
   have hM : M.flatten = [] := live_none (List.nil_perm.1 hperm)
   have ho : out = Z := by rw [← hout, hM]; exact (List.append_nil _).symm
   rw [ho] at hs0
   subst hs0
   refine sp0 ?_
   exact Need.mk ⟨[], _, .same, rfl, rfl⟩ trivial
  | cons h0 tl =>
   obtain ⟨l0, p⟩ := h0
   have hl0 : l0 ≠ [] := live_ne (hperm.mem_iff.1 (List.mem_cons_self ..))
   have hex : ∃ x t, l0 = x :: t := List.exists_cons_of_ne_nil hl0
   obtain ⟨x, t, hl0e⟩ := hex
   subst hl0e
   obtain ⟨M', m1, m2, m3, m4, m5⟩ := live_round hperm hsrt hhp
   have hout2 : (out ++ [x]) ++ isort eLess M'.flatten = Z := by rw [← hout, m2]; simp
   have hlen2 : (out ++ [x]).length + M'.flatten.length ≤ 1048576 := by rw [List.length_append, List.length_singleton]; omega
   have hhl2 : tl.length + 1 ≤ 1048576 := hhl
   have hne : ∀ a ∈ tl, a.1 ≠ [] := fun a ha => live_ne (hperm.mem_iff.1 (List.mem_cons_of_mem _ ha))
   have hn0 : (0 : Int) ≤ 0 ∧ (0 : Int) < (((((x :: t, p) : Hd1) :: tl).map encH).length : Nat) := by rw [List.length_map, List.length_cons]; omega
   have hcut : (((x :: t).map Ent.enc).drop (1 : Int).toNat).take ((((x :: t).map Ent.enc).length : Int) - 1).toNat = t.map Ent.enc := by
    rw [List.length_map, List.length_cons]
    exact List.take_of_length_le (by show (t.map Ent.enc).length ≤ _; rw [List.length_map]; omega)
   have hrows : (((t, p) : Hd1) :: tl).map encH = [C.sl ((((x :: t).map Ent.enc).drop (1 : Int).toNat).take ((((x :: t).map Ent.enc).length : Int) - 1).toNat), vi (p : Nat)] :: tl.map encH := by rw [hcut]; rfl
   have hneed : (0 : Int) ≤ 1 ∧ (1 : Int) ≤ (((x :: t).map Ent.enc).length : Nat) ∧ (((x :: t).map Ent.enc).length : Int) ≤ (((x :: t).map Ent.enc).length : Nat) ∧ ∀ r ∈ (x :: t).map Ent.enc, r.length = 5 := ⟨by omega, by rw [List.length_map, List.length_cons]; omega, by omega, lenE _⟩
   have htl : ((((x :: t).map Ent.enc).drop (1 : Int).toNat).take ((((x :: t).map Ent.enc).length : Int) - 1).toNat).length = t.length := by rw [hcut, List.length_map]
   by_cases ht0 : t = []
   ·have hP := heap_Pop ((t, p) :: tl) (by simp) (by simp; omega) (fun k hk hkl => by
     cases k with
     | zero => omega
     | succ k => exact hne _ (getH_mem (by simpa using hkl)))
    obtain ⟨q1, q2⟩ := pop_ok (a := (t, p)) hhp
    have hex := exq (popF ((t, p) :: tl))
    obtain ⟨H, hH⟩ := hex
    rw [hH] at hP q1 q2
    rw [hrows] at hP
    subst hs0
    refine Split.mk fun b ht => ?_
    cases b
    case false => rw [decide_eq_false_iff_not] at ht; exact absurd hn0.2 ht
    refine Need.mk hn0 ?_
    refine Row.mk _ rfl ?_
    refine Need.mk (by decide) ?_
    refine Row.mk _ rfl ?_
    refine Need.mk (sizeOk _ _ out [x] rfl rfl (by simp; omega)) ?_
    refine Need.mk hn0 ?_
    refine Row.mk _ rfl ?_
    refine Need.mk hneed ?_
    refine Need.mk hn0 ?_
    refine Row.mk _ rfl ?_
    refine Need.mk rfl ?_
    refine Need.mk hn0 ?_
    refine Row.mk _ rfl ?_
    refine Split.mk fun b ht => ?_
    rw [htl] at ht
    cases b
    case false => rw [ht0] at ht; cases ht
    refine ACall.mk _ _ hP ?_
    refine ⟨M'.flatten.length, _, by omega, Weak.nrm [false, false, false, true, false, false, false, true] [(3, 3), (42, 7)] rfl rfl rfl, M', H, out ++ [x], rfl, q2.trans (m4 ht0), m1, by rw [q2.length_eq]; exact q1, hout2, hlen2, by rw [q2.length_eq]; omega, ?_⟩
    refine Eq.trans (b := ⟨none :: none :: none :: some (.bx 3 0) :: none :: none :: none :: some (.one (.ref 7 0 (.cell 0))) :: List.replicate 54 none, absent :: absent :: absent :: ⟨0, 0, some [.us 162 (H.map encH)]⟩ :: absent :: absent :: absent :: ⟨0, 1, some [.us 54 (out.map Ent.enc ++ [x.enc])]⟩ :: List.replicate 54 absent⟩) rfl ?_
    rw [show out.map Ent.enc ++ [x.enc] = (out ++ [x]).map Ent.enc by rw [List.map_append]; rfl]
   ·have hF := heap_Fix ((t, p) :: tl) (tl.length + 1) rfl (by simp; omega) (fun a ha => by
     rcases List.mem_cons.1 ha with h | h
     ·subst h; exact ht0
     ·exact hne a h)
    obtain ⟨q1, q2⟩ := fix_ok (a := (t, p)) hhp
    have hex := exq (downF hl hd0 (tl.length + 1) ((t, p) :: tl) 0 (tl.length + 1))
    obtain ⟨H, hH⟩ := hex
    rw [hH] at hF q1 q2
    rw [hrows] at hF
    subst hs0
    refine Split.mk fun b ht => ?_
    cases b
    case false => rw [decide_eq_false_iff_not] at ht; exact absurd hn0.2 ht
    refine Need.mk hn0 ?_
    refine Row.mk _ rfl ?_
    refine Need.mk (by decide) ?_
    refine Row.mk _ rfl ?_
    refine Need.mk (sizeOk _ _ out [x] rfl rfl (by simp; omega)) ?_
    refine Need.mk hn0 ?_
    refine Row.mk _ rfl ?_
    refine Need.mk hneed ?_
    refine Need.mk hn0 ?_
    refine Row.mk _ rfl ?_
    refine Need.mk rfl ?_
    refine Need.mk hn0 ?_
    refine Row.mk _ rfl ?_
    refine Split.mk fun b ht => ?_
    rw [htl] at ht
    cases b
    case true => rw [beq_iff_eq] at ht; exact absurd (List.eq_nil_of_length_eq_zero (by omega)) ht0
    refine ACall.mk _ _ hF ?_
    refine ⟨M'.flatten.length, _, by omega, Weak.nrm [false, false, false, true, false, false, false, true] [(3, 3), (42, 7)] rfl rfl rfl, M', H, out ++ [x], rfl, q2.trans (m5 ht0), m1, by rw [q2.length_eq]; exact q1, hout2, hlen2, by rw [q2.length_eq]; simp; omega, ?_⟩
    refine Eq.trans (b := ⟨none :: none :: none :: some (.bx 3 0) :: none :: none :: none :: some (.one (.ref 7 0 (.cell 0))) :: List.replicate 54 none, absent :: absent :: absent :: ⟨0, 0, some [.us 162 (H.map encH)]⟩ :: absent :: absent :: absent :: ⟨0, 1, some [.us 54 (out.map Ent.enc ++ [x.enc])]⟩ :: List.replicate 54 absent⟩) rfl ?_
    rw [show out.map Ent.enc ++ [x.enc] = (out ++ [x]).map Ent.enc by rw [List.map_append]; rfl]
 ·have hia : i < L.length := by omega
  have hrow := map_get encX L i hia
  have hln : (L[i].map Ent.enc).length = L[i].length := List.length_map ..
  have hle := hmem L[i] (List.getElem_mem hia)
  have hlv := live_take (L := K) (i := i) (by omega)
  rw [hKi i hia] at hlv
  have hht := hlt i
  have hex := exq (L[i])
  obtain ⟨l, hle0⟩ := hex
  rw [hle0] at hrow hln hle hlv
  have hex := exq (live (K.take i))
  obtain ⟨hs1, hhs⟩ := hex
  rw [hhs] at hlv hht hs
  have hSt := slices_SortStable 165 eLess eLess_wk entryOrder_ok l (by omega)
  by_cases hl0 : l = []
  ·have hlv2 : live (K.take (i + 1)) = hs1 := by rw [hlv, hl0]; exact List.append_nil _
   subst hs
   refine Split.mk fun t ht => ?_
   rw [hn] at ht
   cases t
   case false => rw [decide_eq_false_iff_not] at ht; omega
   refine nd ?_
   refine Row.mk _ hrow ?_
   refine Split.mk fun t ht => ?_
   rw [hln] at ht
   cases t
   case true => rw [decide_eq_true_iff, hl0] at ht; cases ht
   refine Num.mk _ (wrapS (by omega)) ?_
   exact ⟨L.length - (i + 1), _, by omega, Weak.nrm [false, false, false, true, false, false, false, false, true, true, true] [(3, 3)] rfl rfl rfl, i + 1, by omega, rfl, by rw [hlv2]; rfl⟩
  ·have hlpos : 0 < l.length := List.length_pos_iff.2 hl0
   have hse : (isort eLess l).isEmpty = false := by
    have := isort_len eLess l
    cases hx : isort eLess l with
    | nil => rw [hx] at this; simp at this; omega
    | cons _ _ => rfl
   have hlv2 : live (K.take (i + 1)) = hs1 ++ [(isort eLess l, i)] := by rw [hlv, hse]; rfl
   have hex := exq (isort eLess l)
   obtain ⟨ys, hy⟩ := hex
   rw [hy] at hSt hlv2
   subst hs
   refine Split.mk fun t ht => ?_
   rw [hn] at ht
   cases t
   case false => rw [decide_eq_false_iff_not] at ht; omega
   refine nd ?_
   refine Row.mk _ hrow ?_
   refine Split.mk fun t ht => ?_
   rw [hln] at ht
   cases t
   case false => rw [decide_eq_false_iff_not] at ht; omega
   refine Need.mk ⟨plainE l, lenE l⟩ ?_
   refine Need.mk (sizeOk _ _ [] l rfl rfl (by simp; omega)) ?_
   refine ACall.mk _ _ hSt ?_
   refine Fz.mk _ (frzE ys) ?_
   refine Need.mk (sizeH _ _ hs1 _ _ rfl rfl (by decide) (by omega)) ?_
   refine Num.mk _ (wrapS (by omega)) ?_
   refine ⟨L.length - (i + 1), _, by omega, Weak.nrm [false, false, false, true, false, false, false, false, true, true, true] [(3, 3)] rfl rfl rfl, i + 1, by omega, rfl, ?_⟩
   rw [hlv2]
   refine Eq.trans (b := ⟨none :: none :: none :: some (.bx 3 0) :: none :: none :: none :: none :: some (sl (L.map encX)) :: some (av (.int .i64 ((L.map encX).length : Nat))) :: some (av (.int .i64 (i + 1 : Nat))) :: List.replicate 51 none, absent :: absent :: absent :: ⟨0, 0, some [.us 162 (hs1.map encH ++ [encH (ys, i)])]⟩ :: List.replicate 58 absent⟩) rfl ?_
   rw [show hs1.map encH ++ [encH (ys, i)] = (hs1 ++ [(ys, i)]).map encH by rw [List.map_append]; rfl]
theorem foldl_ins_len {d : List Ent} : ∀ {l : List Ent}, (d.foldl (ins eLess) l).length = l.length + d.length := by
 induction d with
 | nil => intro l; rfl
 | cons x d ih => intro l; rw [List.foldl_cons, ih, (ins_perm eLess l x).length_eq]; simp; omega
def mdv (l : List FuncId) (g : List FuncId) : FuncId → Nat := fun f => bif l.elem f then 1 else bif g.elem f then 2 else 0
theorem spec_l4Join (c : List Ent) (hne : 0 < c.length) (hl : c.length ≤ 1099511627776) (hok : ∀ e ∈ c, entOk e = true) (r : Ent) (hr : oneE c = r) : AFn Tryz.prog 220 [sl (c.map Ent.enc)] [] (.tup [.agg r.enc, .one (vb (sumOk r.n))]) [] := by
 have hn : (c.map Ent.enc).length = c.length := List.length_map ..
 have h0 : (c.map Ent.enc)[0]? = some (c[0]).enc := map_get _ c 0 hne
 refine AFn.introX (E := En 0 md0) (en_ok 0 _ _ _ _ _) Tryz.func220 rfl rfl rfl fun _ _ => ?_
 refine nd ?_
 refine Row.mk _ h0 ?_
 refine nd ?_
 refine Row.mk _ h0 ?_
 refine Need.mk (rfl) ?_
 let S : Nat → Int → St := fun i z => ⟨some (sl (List.map Ent.enc c)) :: none :: some (.bx 2 0) :: none :: some (.bx 4 0) :: some (av (.int .i64 i)) :: List.replicate 44 none, absent :: absent :: ⟨0, 0, some [vs ({ data := #[] }), vi 0, vi 0, vs ({ data := #[] }), vi 0]⟩ :: absent :: ⟨0, 0, some [vs c[0].key, vi c[0].seq, vi 3, vs ({ data := #[] }), vi z]⟩ :: List.replicate 45 absent⟩
 refine ALoop.mk (fun m s => ∃ (i : Nat) (z : Int), i ≤ c.length ∧ m = c.length - i ∧ -1000000 * (i : Int) ≤ z ∧ z ≤ 1000000 * (i : Int) ∧ r = oneFrom (decide (i = 0)) ⟨c[0].key, c[0].seq, 3, ⟨#[]⟩, z⟩ (c.drop i) ∧ s = S i z)
  ⟨_, _, Weak.nrm [true, false, true, false, true, true] [(2, 2), (4, 4)] rfl rfl rfl, 0, 0, Nat.zero_le _, rfl, by omega, by omega, by rw [← hr]; cases c with | nil => simp at hne | cons a l => rfl, rfl⟩ ?_
 rintro m s ⟨i, z, hi, rfl, hz1, hz2, hone, hs⟩
 by_cases hin : i = c.length
 ·rw [List.drop_of_length_le (by omega)] at hone
  have hone : r = ⟨c[0].key, c[0].seq, 3, ⟨#[]⟩, z⟩ := hone
  have hSz := spec_l3Sum z
  subst hone
  subst hs
  refine spF (by omega) fun h1 => ?_
  refine ACall.mk _ _ hSz ?_
  refine Split.mk fun t h2 => ?_
  cases t
  ·skip
   refine Need.mk (rfl) ?_
   exact Need.mk ⟨[], _, .same, by rw [h2]; rfl, rfl⟩ trivial
  ·skip
   refine Need.mk (rfl) ?_
   exact Need.mk ⟨[], _, .same, by rw [h2]; rfl, rfl⟩ trivial
 ·have hia : i < c.length := by omega
  have hE := entOk_kind (hok c[i] (List.getElem_mem hia))
  have hE1 := hE.1.1
  have hE2 := hE.1.2
  rw [List.drop_eq_getElem_cons hia] at hone
  have hSz := spec_l3Sum z
  have hSn := spec_l3Sum (z + c[i].n)
  by_cases hk1 : c[i].kind = 1
  ·rw [oneFrom_1 hk1] at hone
   subst hone
   subst hs
   refine spT (by omega) fun h1 => ?_
   refine nd ?_
   refine Row.mk _ (map_get _ c i (by omega)) ?_
   refine Num.mk _ (wrapI (by omega) (by omega)) ?_
   refine sqT (by omega) fun h2 => ?_
   refine ACall.mk _ _ hSn ?_
   refine Split.mk fun t h3 => ?_
   cases t
   ·skip
    refine Need.mk (rfl) ?_
    exact Need.mk ⟨[], _, .same, by rw [h3]; rfl, rfl⟩ trivial
   ·skip
    refine Need.mk (rfl) ?_
    exact Need.mk ⟨[], _, .same, by rw [h3]; rfl, rfl⟩ trivial
  ·by_cases hk2 : c[i].kind = 2
   ·rw [oneFrom_2 hk2] at hone
    have hn0 : c[i].n = 0 := by have := hE.2; omega
    have hw : IntKind.i64.wrap (z + c[i].n) = z := by rw [hn0, Int.add_zero]; exact wrapI (by omega) (by omega)
    by_cases hi0 : i = 0
    ·rw [if_pos (decide_eq_true hi0)] at hone
     subst hone
     subst hs
     refine spT (by omega) fun h1 => ?_
     refine nd ?_
     refine Row.mk _ (map_get _ c i (by omega)) ?_
     refine Num.mk _ hw ?_
     refine sqF (by omega) fun h2 => ?_
     refine sqT (by omega) fun h3 => ?_
     refine sqT (by omega) fun h4 => ?_
     refine ACall.mk _ _ hSz ?_
     refine Split.mk fun t h5 => ?_
     cases t
     ·skip
      refine Need.mk (rfl) ?_
      exact Need.mk ⟨[], _, .same, by rw [h5]; rfl, rfl⟩ trivial
     ·skip
      refine Need.mk (rfl) ?_
      exact Need.mk ⟨[], _, .same, by rw [h5]; rfl, rfl⟩ trivial
    ·rw [if_neg (by simp [hi0])] at hone
     subst hone
     subst hs
     refine spT (by omega) fun h1 => ?_
     refine nd ?_
     refine Row.mk _ (map_get _ c i (by omega)) ?_
     refine Num.mk _ hw ?_
     refine sqF (by omega) fun h2 => ?_
     refine sqT (by omega) fun h3 => ?_
     refine sqF (by omega) fun h4 => ?_
     refine ACall.mk _ _ hSz ?_
     refine Split.mk fun t h5 => ?_
     cases t
     ·skip
      refine Need.mk (rfl) ?_
      exact Need.mk ⟨[], _, .same, by rw [h5]; rfl, rfl⟩ trivial
     ·skip
      refine Need.mk (rfl) ?_
      exact Need.mk ⟨[], _, .same, by rw [h5]; rfl, rfl⟩ trivial
   ·have hk3 : c[i].kind = 3 := by have := hE.2; omega
    rw [oneFrom_3 hk3] at hone
    have hone2 : r = oneFrom (decide (i + 1 = 0)) ⟨c[0].key, c[0].seq, 3, ⟨#[]⟩, z + c[i].n⟩ (c.drop (i + 1)) := hone
    subst hs
    refine spT (by omega) fun h1 => ?_
    refine nd ?_
    refine Row.mk _ (map_get _ c i (by omega)) ?_
    refine Num.mk _ (wrapI (by omega) (by omega)) ?_
    refine sqF (by omega) fun h2 => ?_
    refine sqF (by omega) fun h3 => ?_
    refine Num.mk _ (wrapS (by omega)) ?_
    exact ⟨_, _, by omega, Weak.nrm [true, false, true, false, true, true] [(2, 2), (4, 4)] rfl rfl rfl, i + 1, z + c[i].n, by omega, rfl, by omega, by omega, hone2, rfl⟩
theorem impl_classOne (c : List Ent) (hne : 0 < c.length) (hl : c.length ≤ 1099511627776) (hok : ∀ e ∈ c, entOk e = true) (r : Ent) (hr : oneE c = r) : AFn Tryz.prog 223 [sl (c.map Ent.enc)] [] (.agg r.enc) [] := by
 have hn : (c.map Ent.enc).length = c.length := List.length_map ..
 have h0 : (c.map Ent.enc)[0]? = some (c[0]).enc := map_get _ c 0 hne
 refine AFn.introX (E := En 0 md0) (en_ok 0 _ _ _ _ _) Tryz.func223 rfl rfl rfl fun _ _ => ?_
 refine nd ?_
 refine Row.mk _ h0 ?_
 refine nd ?_
 refine Row.mk _ h0 ?_
 refine Need.mk (rfl) ?_
 let S : Nat → Int → St := fun i z => ⟨none :: none :: some (.bx 2 0) :: some (.bx 3 0) :: none :: none :: none :: none :: none :: none :: none :: none :: none :: none :: none :: some (sl (List.map Ent.enc c)) :: some (av (.int .i64 (↑(List.map Ent.enc c).length))) :: some (av (.int .i64 i)) :: List.replicate 35 none, absent :: absent :: ⟨0, 0, some [vs ({ data := #[] }), vi 0, vi 0, vs ({ data := #[] }), vi 0]⟩ :: ⟨0, 0, some [vs c[0].key, vi c[0].seq, vi 3, vs ({ data := #[] }), vi z]⟩ :: List.replicate 49 absent⟩
 refine ALoop.mk (fun m s => ∃ (i : Nat) (z : Int), i ≤ c.length ∧ m = c.length - i ∧ -1000000 * (i : Int) ≤ z ∧ z ≤ 1000000 * (i : Int) ∧ r = oneFrom (decide (i = 0)) ⟨c[0].key, c[0].seq, 3, ⟨#[]⟩, z⟩ (c.drop i) ∧ s = S i z)
  ⟨_, _, Weak.nrm [false, false, true, true, false, false, false, false, false, false, false, false, false, false, false, true, true, true] [(2, 2), (3, 3)] rfl rfl rfl, 0, 0, Nat.zero_le _, rfl, by omega, by omega, by rw [← hr]; cases c with | nil => simp at hne | cons a l => rfl, rfl⟩ ?_
 rintro m s ⟨i, z, hi, rfl, hz1, hz2, hone, hs⟩
 by_cases hin : i = c.length
 ·rw [List.drop_of_length_le (by omega)] at hone
  have hone : r = ⟨c[0].key, c[0].seq, 3, ⟨#[]⟩, z⟩ := hone
  have hSz := spec_l3Sum z
  subst hone
  subst hs
  refine spF (by omega) fun h1 => ?_
  exact Need.mk ⟨[], _, .same, rfl, rfl⟩ trivial
 ·have hia : i < c.length := by omega
  have hE := entOk_kind (hok c[i] (List.getElem_mem hia))
  have hE1 := hE.1.1
  have hE2 := hE.1.2
  rw [List.drop_eq_getElem_cons hia] at hone
  have hSz := spec_l3Sum z
  have hSn := spec_l3Sum (z + c[i].n)
  by_cases hk1 : c[i].kind = 1
  ·rw [oneFrom_1 hk1] at hone
   subst hone
   subst hs
   refine spT (by omega) fun h1 => ?_
   refine nd ?_
   refine Row.mk _ (map_get _ c i (by omega)) ?_
   refine sqF (by omega) fun h2 => ?_
   refine sqT (by omega) fun h3 => ?_
   refine Num.mk _ (wrapI (by omega) (by omega)) ?_
   refine Need.mk (rfl) ?_
   exact Need.mk ⟨[], _, .same, rfl, rfl⟩ trivial
  ·by_cases hk2 : c[i].kind = 2
   ·rw [oneFrom_2 hk2] at hone
    have hn0 : c[i].n = 0 := by have := hE.2; omega
    have hw : IntKind.i64.wrap (z + c[i].n) = z := by rw [hn0, Int.add_zero]; exact wrapI (by omega) (by omega)
    by_cases hi0 : i = 0
    ·rw [if_pos (decide_eq_true hi0)] at hone
     subst hone
     subst hs
     refine spT (by omega) fun h1 => ?_
     refine nd ?_
     refine Row.mk _ (map_get _ c i (by omega)) ?_
     refine sqF (by omega) fun h2 => ?_
     refine sqF (by omega) fun h3 => ?_
     refine sqT (by omega) fun h4 => ?_
     exact Need.mk ⟨[], _, .same, rfl, rfl⟩ trivial
    ·rw [if_neg (by simp [hi0])] at hone
     subst hone
     subst hs
     refine spT (by omega) fun h1 => ?_
     refine nd ?_
     refine Row.mk _ (map_get _ c i (by omega)) ?_
     refine sqF (by omega) fun h2 => ?_
     refine sqF (by omega) fun h3 => ?_
     refine sqF (by omega) fun h4 => ?_
     exact Need.mk ⟨[], _, .same, rfl, rfl⟩ trivial
   ·have hk3 : c[i].kind = 3 := by have := hE.2; omega
    rw [oneFrom_3 hk3] at hone
    have hone2 : r = oneFrom (decide (i + 1 = 0)) ⟨c[0].key, c[0].seq, 3, ⟨#[]⟩, z + c[i].n⟩ (c.drop (i + 1)) := hone
    subst hs
    refine spT (by omega) fun h1 => ?_
    refine nd ?_
    refine Row.mk _ (map_get _ c i (by omega)) ?_
    refine sqT (by omega) fun h2 => ?_
    refine Num.mk _ (wrapI (by omega) (by omega)) ?_
    refine Num.mk _ (wrapS (by omega)) ?_
    exact ⟨_, _, by omega, Weak.nrm [false, false, true, true, false, false, false, false, false, false, false, false, false, false, false, true, true, true] [(2, 2), (3, 3)] rfl rfl rfl, i + 1, z + c[i].n, by omega, rfl, by omega, by omega, hone2, rfl⟩
theorem spec_l4Class (c : List Ent) (hne : 0 < c.length) (hl : c.length ≤ 16777216) (hok : ∀ e ∈ c, entOk e = true) (last : Bool) (o : List Ent) (ho : classE c last = o) : AFn Tryz.prog 209 [sl (c.map Ent.enc), av (.bool last)] [] (.one (.us 54 (o.map Ent.enc))) [] := by
 have hn : (c.map Ent.enc).length = c.length := List.length_map ..
 have hex := exq (oneE c)
 obtain ⟨r, hr⟩ := hex
 have hJ := spec_l4Join c hne (Nat.le_trans hl (by decide)) hok r hr
 unfold classE at ho
 rw [hr] at ho
 by_cases hS : sumOk r.n = true
 ·rw [if_pos hS] at ho
  rw [hS] at hJ
  cases last with
  | false =>
   have ho : [r] = o := by simpa using ho
   subst ho
   refine AFn.introX (E := En 0 md0) (en_ok 0 _ _ _ _ _) Tryz.func209 rfl rfl rfl fun _ _ => ?_
   refine ACall.mk _ _ hJ ?_
   refine sp1 ?_
   exact Need.mk ⟨[], _, .same, rfl, rfl⟩ trivial
  | true =>
   by_cases h2 : r.kind = 2
   ·have ho : [] = o := by simpa [h2] using ho
    subst ho
    refine AFn.introX (E := En 0 md0) (en_ok 0 _ _ _ _ _) Tryz.func209 rfl rfl rfl fun _ _ => ?_
    refine ACall.mk _ _ hJ ?_
    refine sp1 ?_
    refine sqT (by omega) fun h2 => ?_
    exact Need.mk ⟨[], _, .same, rfl, rfl⟩ trivial
   ·by_cases h3 : r.kind = 3
    ·have ho : [{ r with kind := 1 }] = o := by simpa [h3] using ho
     subst ho
     refine AFn.introX (E := En 0 md0) (en_ok 0 _ _ _ _ _) Tryz.func209 rfl rfl rfl fun _ _ => ?_
     refine ACall.mk _ _ hJ ?_
     refine sp1 ?_
     refine sqF (by omega) fun h2 => ?_
     refine sqT (by omega) fun h3 => ?_
     exact Need.mk ⟨[], _, .same, rfl, rfl⟩ trivial
    ·have ho : [r] = o := by simpa [h2, h3] using ho
     subst ho
     refine AFn.introX (E := En 0 md0) (en_ok 0 _ _ _ _ _) Tryz.func209 rfl rfl rfl fun _ _ => ?_
     refine ACall.mk _ _ hJ ?_
     refine sp1 ?_
     refine sqF (by omega) fun h2 => ?_
     refine sqF (by omega) fun h3 => ?_
     exact Need.mk ⟨[], _, .same, rfl, rfl⟩ trivial
 ·rw [if_neg hS] at ho
  subst ho
  have hS : sumOk r.n = false := by simpa using hS
  rw [hS] at hJ
  refine AFn.introX (E := En 0 md0) (en_ok 0 _ _ _ _ _) Tryz.func209 rfl rfl rfl fun _ _ => ?_
  refine ACall.mk _ _ hJ ?_
  refine sp0 ?_
  refine Need.mk (⟨(plainE _), (lenE _)⟩) ?_
  refine apq (A' := []) (B' := _) rfl rfl ?_
  exact Need.mk ⟨[], _, .same, rfl, rfl⟩ trivial
theorem impl_squashClass (c : List Ent) (hne : 0 < c.length) (hl : c.length ≤ 16777216) (hok : ∀ e ∈ c, entOk e = true) (last : Bool) (o : List Ent) (ho : classE c last = o) : AFn Tryz.prog 212 [sl (c.map Ent.enc), av (.bool last)] [] (.one (.sl (o.map Ent.enc))) [] := by
 have hn : (c.map Ent.enc).length = c.length := List.length_map ..
 have hex := exq (oneE c)
 obtain ⟨r, hr⟩ := hex
 have hJ := impl_classOne c hne (Nat.le_trans hl (by decide)) hok r hr
 unfold classE at ho
 rw [hr] at ho
 by_cases hS : sumOk r.n = true
 ·rw [if_pos hS] at ho
  have hb : -1000000 ≤ r.n ∧ r.n ≤ 1000000 := by simpa [sumOk] using hS
  have hb1 := hb.1
  have hb2 := hb.2
  cases last with
  | false =>
   have ho : [r] = o := by simpa using ho
   subst ho
   refine AFn.introX (E := En 0 md0) (en_ok 0 _ _ _ _ _) Tryz.func212 rfl rfl rfl fun _ _ => ?_
   refine ACall.mk _ _ hJ ?_
   refine spF (by omega) fun h1 => ?_
   refine spF (by omega) fun h2 => ?_
   exact Need.mk ⟨[true], _, .frz (frzE [r]) .same, rfl, rfl⟩ trivial
  | true =>
   by_cases h2 : r.kind = 2
   ·have ho : [] = o := by simpa [h2] using ho
    subst ho
    refine AFn.introX (E := En 0 md0) (en_ok 0 _ _ _ _ _) Tryz.func212 rfl rfl rfl fun _ _ => ?_
    refine ACall.mk _ _ hJ ?_
    refine spF (by omega) fun h1 => ?_
    refine spF (by omega) fun h2 => ?_
    refine sqT (by omega) fun h3 => ?_
    exact Need.mk ⟨[true], _, .frz .nil .same, rfl, rfl⟩ trivial
   ·by_cases h3 : r.kind = 3
    ·have ho : [{ r with kind := 1 }] = o := by simpa [h3] using ho
     subst ho
     refine AFn.introX (E := En 0 md0) (en_ok 0 _ _ _ _ _) Tryz.func212 rfl rfl rfl fun _ _ => ?_
     refine ACall.mk _ _ hJ ?_
     refine spF (by omega) fun h1 => ?_
     refine spF (by omega) fun h2 => ?_
     refine sqF (by omega) fun h3 => ?_
     refine sqT (by omega) fun h4 => ?_
     exact Need.mk ⟨[true], _, .frz (frzE [{ r with kind := 1 }]) .same, rfl, rfl⟩ trivial
    ·have ho : [r] = o := by simpa [h2, h3] using ho
     subst ho
     refine AFn.introX (E := En 0 md0) (en_ok 0 _ _ _ _ _) Tryz.func212 rfl rfl rfl fun _ _ => ?_
     refine ACall.mk _ _ hJ ?_
     refine spF (by omega) fun h1 => ?_
     refine spF (by omega) fun h2 => ?_
     refine sqF (by omega) fun h3 => ?_
     refine sqF (by omega) fun h4 => ?_
     exact Need.mk ⟨[true], _, .frz (frzE [r]) .same, rfl, rfl⟩ trivial
 ·rw [if_neg hS] at ho
  subst ho
  have hb : 1000000 < r.n ∨ r.n < -1000000 := by simp [sumOk] at hS; omega
  refine AFn.introX (E := En 0 md0) (en_ok 0 _ _ _ _ _) Tryz.func212 rfl rfl rfl fun _ _ => ?_
  refine ACall.mk _ _ hJ ?_
  refine Split.mk fun t h1 => ?_
  cases t
  ·skip
   rw [decide_eq_false_iff_not] at h1
   refine spT (by omega) fun h2 => ?_
   exact Need.mk ⟨[], _, .same, rfl, rfl⟩ trivial
  ·skip
   rw [decide_eq_true_iff] at h1
   exact Need.mk ⟨[], _, .same, rfl, rfl⟩ trivial
theorem spec_l4Apart (snaps : List Int) (o n : Int) (hl : snaps.length ≤ 1099511627776) : AFn Tryz.prog 210 [sl (snaps.map encI), av (.int .i64 o), av (.int .i64 n)] [] (rb (partS snaps o n)) [] := by
 have hn : (snaps.map encI).length = snaps.length := List.length_map ..
 refine AFn.introX (E := En 0 md0) (en_ok 0 _ _ _ _ _) Tryz.func210 rfl rfl rfl fun _ _ => ?_
 let S : Nat → St := fun i => ⟨some (sl (List.map encI snaps)) :: some (av (.int .i64 o)) :: some (av (.int .i64 n)) :: none :: none :: none :: none :: some (av (.int .i64 i)) :: List.replicate 20 none, List.replicate 28 absent⟩
 refine ALoop.mk (fun m s => ∃ i : Nat, i ≤ snaps.length ∧ m = snaps.length - i ∧ (∀ j, j < i → ∀ h : j < snaps.length, ¬ (o ≤ snaps[j] ∧ snaps[j] < n)) ∧ s = S i)
  ⟨_, _, Weak.nrm [true, true, true, false, false, false, false, true] [] rfl rfl rfl, 0, Nat.zero_le _, rfl, fun j h => absurd h (by omega), rfl⟩ ?_
 rintro m s ⟨i, hi, rfl, hall, hs⟩
 by_cases hin : i = snaps.length
 ·have hres : partS snaps o n = false := partS_false fun j hj => hall j (by omega)
  subst hs
  refine spF (by omega) fun h1 => ?_
  exact Need.mk ⟨[], _, .same, congrArg rb hres.symm, rfl⟩ trivial
 ·have hia : i < snaps.length := by omega
  by_cases hA : o ≤ snaps[i]
  ·by_cases hB : snaps[i] < n
   ·have hres : partS snaps o n = true := partS_true hia hA hB
    subst hs
    refine spT (by omega) fun h1 => ?_
    refine nd ?_
    refine Row.mk _ (map_get _ snaps i (by omega)) ?_
    refine spT (by omega) fun h2 => ?_
    refine nd ?_
    refine Row.mk _ (map_get _ snaps i (by omega)) ?_
    refine spT (by omega) fun h3 => ?_
    exact Need.mk ⟨[], _, .same, congrArg rb hres.symm, rfl⟩ trivial
   ·have hno : ¬ (o ≤ snaps[i] ∧ snaps[i] < n) := fun h => hB h.2
    subst hs
    refine spT (by omega) fun h1 => ?_
    refine nd ?_
    refine Row.mk _ (map_get _ snaps i (by omega)) ?_
    refine spT (by omega) fun h2 => ?_
    refine nd ?_
    refine Row.mk _ (map_get _ snaps i (by omega)) ?_
    refine spF (by omega) fun h3 => ?_
    refine Num.mk _ (wrapS (by omega)) ?_
    exact ⟨_, _, by omega, Weak.nrm [true, true, true, false, false, false, false, true] [] rfl rfl rfl, i + 1, by omega, rfl, allS hall (fun _ => hno), rfl⟩
  ·have hno : ¬ (o ≤ snaps[i] ∧ snaps[i] < n) := fun h => hA h.1
   subst hs
   refine spT (by omega) fun h1 => ?_
   refine nd ?_
   refine Row.mk _ (map_get _ snaps i (by omega)) ?_
   refine spF (by omega) fun h2 => ?_
   refine Num.mk _ (wrapS (by omega)) ?_
   exact ⟨_, _, by omega, Weak.nrm [true, true, true, false, false, false, false, true] [] rfl rfl rfl, i + 1, by omega, rfl, allS hall (fun _ => hno), rfl⟩
theorem impl_parted (a b : Ent) (snaps : List Int) (hl : snaps.length ≤ 1099511627776) : AFn Tryz.prog 222 [.agg (a.enc.map .c), .agg (b.enc.map .c), sl (snaps.map encI)] [] (rb (partS snaps b.seq a.seq)) [] := by
 have hn : (snaps.map encI).length = snaps.length := List.length_map ..
 refine AFn.introX (E := En 0 md0) (en_ok 0 _ _ _ _ _) Tryz.func222 rfl rfl rfl fun _ _ => ?_
 let S : Nat → St := fun i => ⟨none :: none :: none :: some (.bx 3 0) :: some (.bx 4 0) :: none :: none :: none :: none :: some (sl (List.map encI snaps)) :: some (av (.int .i64 (↑(List.map encI snaps).length))) :: some (av (.int .i64 i)) :: List.replicate 14 none, absent :: absent :: absent :: ⟨0, 0, some [vs a.key, vi a.seq, vi a.kind, vs a.text, vi a.n]⟩ :: ⟨0, 0, some [vs b.key, vi b.seq, vi b.kind, vs b.text, vi b.n]⟩ :: List.replicate 21 absent⟩
 refine ALoop.mk (fun m s => ∃ i : Nat, i ≤ snaps.length ∧ m = snaps.length - i ∧ (∀ j, j < i → ∀ h : j < snaps.length, ¬ (b.seq ≤ snaps[j] ∧ snaps[j] < a.seq)) ∧ s = S i)
  ⟨_, _, Weak.nrm [false, false, false, true, true, false, false, false, false, true, true, true] [(3, 3), (4, 4)] rfl rfl rfl, 0, Nat.zero_le _, rfl, fun j h => absurd h (by omega), rfl⟩ ?_
 rintro m s ⟨i, hi, rfl, hall, hs⟩
 by_cases hin : i = snaps.length
 ·have hres : partS snaps b.seq a.seq = false := partS_false fun j hj => hall j (by omega)
  subst hs
  refine spF (by omega) fun h1 => ?_
  exact Need.mk ⟨[], _, .same, congrArg rb hres.symm, rfl⟩ trivial
 ·have hia : i < snaps.length := by omega
  by_cases hA : b.seq ≤ snaps[i]
  ·by_cases hB : snaps[i] < a.seq
   ·have hres : partS snaps b.seq a.seq = true := partS_true hia hA hB
    subst hs
    refine spT (by omega) fun h1 => ?_
    refine nd ?_
    refine Row.mk _ (map_get _ snaps i (by omega)) ?_
    refine spT (by omega) fun h2 => ?_
    refine spT (by omega) fun h3 => ?_
    exact Need.mk ⟨[], _, .same, congrArg rb hres.symm, rfl⟩ trivial
   ·have hno : ¬ (b.seq ≤ snaps[i] ∧ snaps[i] < a.seq) := fun h => hB h.2
    subst hs
    refine spT (by omega) fun h1 => ?_
    refine nd ?_
    refine Row.mk _ (map_get _ snaps i (by omega)) ?_
    refine spT (by omega) fun h2 => ?_
    refine spF (by omega) fun h3 => ?_
    refine Num.mk _ (wrapS (by omega)) ?_
    exact ⟨_, _, by omega, Weak.nrm [false, false, false, true, true, false, false, false, false, true, true, true] [(3, 3), (4, 4)] rfl rfl rfl, i + 1, by omega, rfl, allS hall (fun _ => hno), rfl⟩
  ·have hno : ¬ (b.seq ≤ snaps[i] ∧ snaps[i] < a.seq) := fun h => hA h.1
   subst hs
   refine spT (by omega) fun h1 => ?_
   refine nd ?_
   refine Row.mk _ (map_get _ snaps i (by omega)) ?_
   refine spF (by omega) fun h2 => ?_
   refine Num.mk _ (wrapS (by omega)) ?_
   exact ⟨_, _, by omega, Weak.nrm [false, false, false, true, true, false, false, false, false, true, true, true] [(3, 3), (4, 4)] rfl rfl rfl, i + 1, by omega, rfl, allS hall (fun _ => hno), rfl⟩
theorem spec_l4Left (cs : List (List Ent)) (hc : ∀ c ∈ cs, 0 < c.length ∧ c.length ≤ 16777216 ∧ ∀ e ∈ c, entOk e = true) (hl : cs.flatten.length ≤ 16777216) (last : Bool) (o : List Ent) (ho : (leftE last cs).1 = o) : AFn Tryz.prog 179 [sl (cs.map encX), av (.bool last)] [] (.one (.us 54 (o.map Ent.enc))) [] := by
 have hn : (cs.map encX).length = cs.length := List.length_map ..
 have hcl : cs.length ≤ 16777216 := le_flatten hc hl
 refine AFn.introX (E := En 0 md0) (en_ok 0 _ _ _ _ _) Tryz.func179 rfl rfl rfl fun _ _ => ?_
 refine Num.mk _ (wrapI (by omega) (by omega)) ?_
 let S : Int → Bool → List (List C) → St := fun z b R => ⟨some (sl (List.map encX cs)) :: some (av (.bool b)) :: none :: none :: none :: some (.one (.ref 5 0 (.cell 0))) :: some (av (.int .i64 z)) :: List.replicate 24 none, absent :: absent :: absent :: absent :: absent :: ⟨0, 1, some [.us 54 R]⟩ :: List.replicate 25 absent⟩
 refine ALoop.mk (fun m s => ∃ (i : Nat) (z : Int) (b : Bool) (x : List Ent) (R : List (List C)), i ≤ cs.length ∧ i = m ∧ z = (i : Int) - 1 ∧ leftE last (cs.drop i) = (x, b) ∧ R = x.map Ent.enc ∧ s = S z b R)
  ⟨_, _, Weak.trans (Weak.nrm [true, true, false, false, false, true, true] [(8, 5)] rfl rfl rfl) Weak.one, cs.length, _, last, [], [], Nat.le_refl _, rfl, by rw [hn], by rw [List.drop_length]; rfl, rfl, rfl⟩ ?_
 rintro m s ⟨i, z, b, x, R, hi, rfl, hz, hL, hR, hs⟩
 cases i with
 | zero =>
  have hz : z = -1 := by omega
  have hx : x = o := by rw [← ho]; exact (congrArg Prod.fst hL).symm
  subst hz
  subst hx
  subst hR
  subst hs
  refine sp0 ?_
  exact Need.mk ⟨[], _, .same, rfl, rfl⟩ trivial
 | succ j =>
  have hz : z = (j : Int) := by omega
  have hj : j < cs.length := hi
  have hcj := hc cs[j] (List.getElem_mem hj)
  have hxl : x.length ≤ 16777216 := by
   have h1 := leftE_len (last := last) (cs := cs.drop (j + 1)) fun c h => (hc c (List.mem_of_mem_drop h)).1
   rw [hL] at h1
   have h2 : (cs.drop (j + 1)).flatten.length ≤ cs.flatten.length := by
    conv => rhs; rw [← List.take_append_drop (j + 1) cs, List.flatten_append, List.length_append]
    omega
   exact Nat.le_trans h1 (Nat.le_trans h2 hl)
  have hex := exq (classE cs[j] b)
  obtain ⟨y, hy⟩ := hex
  have hC := spec_l4Class cs[j] hcj.1 hcj.2.1 hcj.2.2 b y hy
  have hyl : y.length ≤ 16777216 := by rw [← hy]; exact Nat.le_trans (classE_len hcj.1) hcj.2.1
  have hyn : (y.map Ent.enc).length = y.length := List.length_map ..
  have hL2 : leftE last (cs.drop j) = (y ++ x, b && y.isEmpty) := by rw [List.drop_eq_getElem_cons hj, leftE_cons, hL, hy]
  subst hz
  subst hR
  by_cases hy0 : y.length = 0
  ·have hb : (b && y.isEmpty) = b := by rw [List.length_eq_zero_iff.1 hy0]; simp
   rw [hb] at hL2
   subst hs
   refine sp1 ?_
   refine nd ?_
   refine Row.mk _ (map_get _ cs j (by omega)) ?_
   refine ACall.mk _ _ hC ?_
   refine spF (by omega) fun h2 => ?_
   refine Need.mk ((plainE _)) ?_
   refine apq (A' := []) (B' := _) rfl rfl ?_
   refine Need.mk ((plainE _)) ?_
   refine apq (A' := ([] ++ _)) (B' := _) rfl rfl ?_
   refine Num.mk _ (wrapI (by omega) (by omega)) ?_
   exact ⟨_, _, by omega, Weak.nrm [true, true, false, false, false, true, true] [(29, 5)] rfl rfl rfl, j, _, b, y ++ x, _, by omega, rfl, rfl, hL2, by rw [List.map_append]; rfl, rfl⟩
  ·have hb : (b && y.isEmpty) = false := by
    cases y with
    | nil => exact absurd rfl hy0
    | cons a t => simp
   rw [hb] at hL2
   subst hs
   refine sp1 ?_
   refine nd ?_
   refine Row.mk _ (map_get _ cs j (by omega)) ?_
   refine ACall.mk _ _ hC ?_
   refine spT (by omega) fun h2 => ?_
   refine Need.mk ((plainE _)) ?_
   refine apq (A' := []) (B' := _) rfl rfl ?_
   refine Need.mk ((plainE _)) ?_
   refine apq (A' := ([] ++ _)) (B' := _) rfl rfl ?_
   refine Num.mk _ (wrapI (by omega) (by omega)) ?_
   exact ⟨_, _, by omega, Weak.nrm [true, true, false, false, false, true, true] [(29, 5)] rfl rfl rfl, j, _, false, y ++ x, _, by omega, rfl, rfl, hL2, by rw [List.map_append]; rfl, rfl⟩
theorem spec_l4Classes (l : List Ent) (snaps : List Int) (hs0 : snaps.length ≤ 1099511627776) (hl : l.length ≤ 16777216) (o : List (List Ent)) (ho : classesE snaps l = o) : AFn Tryz.prog 180 [sl (l.map Ent.enc), sl (snaps.map encI)] [] (.one (.us 29 (o.map encX))) [] := by
 have hn : (l.map Ent.enc).length = l.length := List.length_map ..
 refine AFn.introX (E := En 0 md0) (en_ok 0 _ _ _ _ _) Tryz.func180 rfl rfl rfl fun _ _ => ?_
 let S : Nat → List (List C) → St := fun i R => ⟨some (sl (List.map Ent.enc l)) :: some (sl (List.map encI snaps)) :: none :: none :: none :: some (.one (.ref 5 0 (.cell 0))) :: some (av (.int .i64 i)) :: List.replicate 39 none, absent :: absent :: absent :: absent :: absent :: ⟨0, 1, some [.us 29 R]⟩ :: List.replicate 40 absent⟩
 refine ALoop.mk (fun m s => ∃ (i : Nat) (D : List (List Ent)) (R : List (List C)), i ≤ l.length ∧ m = l.length - i ∧ groups (brS snaps) l = D ++ groups (brS snaps) (l.drop i) ∧ D.flatten.length = i ∧ R = D.map encX ∧ s = S i R)
  ⟨_, _, Weak.trans (Weak.nrm [true, true, false, false, false, true, true] [(8, 5)] rfl rfl rfl) Weak.one, 0, [], [], Nat.zero_le _, rfl, rfl, rfl, rfl, rfl⟩ ?_
 rintro m s ⟨i, D, R, hi, rfl, hG, hDl, hR, hs⟩
 by_cases hin : i = l.length
 ·have hD : D = o := by rw [← ho, classesE, hG, hin, List.drop_length]; simp [groups]
  subst hD
  subst hR
  subst hs
  refine spF (by omega) fun h1 => ?_
  exact Need.mk ⟨[], _, .same, rfl, rfl⟩ trivial
 ·have hia : i < l.length := by omega
  subst hs
  refine spT (by omega) fun h1 => ?_
  refine Num.mk _ (wrapS (by omega)) ?_
  let S2 : Nat → St := fun k => ⟨some (sl (List.map Ent.enc l)) :: some (sl (List.map encI snaps)) :: none :: none :: none :: some (.one (.ref 5 0 (.cell 0))) :: some (av (.int .i64 ↑i)) :: some (av (.int .i64 (k : Nat))) :: List.replicate 38 none, absent :: absent :: absent :: absent :: absent :: ⟨0, 1, some [.us 29 R]⟩ :: List.replicate 40 absent⟩
  refine ALoop.mk (fun m s => ∃ k : Nat, i < k ∧ k ≤ l.length ∧ m = l.length - k ∧ (∀ j, i < j → j < k → ∀ h : j < l.length, brS snaps (l[j - 1]'(by omega)) l[j] = false) ∧ s = S2 k)
   ⟨_, _, Weak.nrm [true, true, false, false, false, true, true, true] [(5, 5)] rfl rfl rfl, i + 1, by omega, by omega, rfl, fun j h1 h2 => by omega, rfl⟩ ?_
  rintro m s ⟨k, hik, hk, rfl, hno, hs⟩
  have hfin : (k = l.length ∨ ∀ h : k < l.length, brS snaps (l[k - 1]'(by omega)) l[k] = true) → groups (brS snaps) l = (D ++ [(l.take k).drop i]) ++ groups (brS snaps) (l.drop k) ∧ (D ++ [(l.take k).drop i]).flatten.length = k := fun he => by
   have h := groups_split (br := brS snaps) (l := l.drop i) (k := k - i) (by omega) (by rw [List.length_drop]; omega) (fun j h1 h2 h3 => by
    have := hno (i + j) (by omega) (by omega) (by rw [List.length_drop] at h3; omega)
    simp only [List.getElem_drop]
    have e : i + (j - 1) = i + j - 1 := by omega
    simpa only [e] using this) (fun h3 => by
    rw [List.length_drop] at h3
    have := he.resolve_left (by omega) (by omega)
    simp only [List.getElem_drop]
    have e : i + (k - i - 1) = k - 1 := by omega
    have e2 : i + (k - i) = k := by omega
    simpa only [e, e2] using this)
   have e1 : (l.drop i).take (k - i) = (l.take k).drop i := by rw [List.drop_take]
   have e2 : (l.drop i).drop (k - i) = l.drop k := by rw [List.drop_drop]; congr 1; omega
   rw [e1, e2] at h
   refine ⟨by rw [hG, h]; simp, ?_⟩
   rw [List.flatten_append, List.length_append, hDl]
   simp; omega
  have hDn : D.length ≤ 16777216 := by
   have h1 : (groups (brS snaps) l).length ≤ l.length := groups_len
   rw [hG, List.length_append] at h1
   omega
  have hDm : (D.map encX).length = D.length := List.length_map ..
  have hRR : D.map encX ++ [[C.sl (List.take ((k : Int) - (i : Int)).toNat (List.drop ((i : Int)).toNat (l.map Ent.enc)))]] = (D ++ [(l.take k).drop i]).map encX := by
   rw [List.map_append, Int.toNat_natCast, show ((k : Int) - (i : Int)).toNat = k - i by omega]
   show _ = D.map encX ++ [[C.sl (((l.take k).drop i).map Ent.enc)]]
   rw [List.map_drop, List.map_take, List.drop_take]
  have hnx : encX ((l.take k).drop i) = [.sl (((l.map Ent.enc).take k).drop i)] := by unfold encX; rw [List.map_drop, List.map_take]
  by_cases hkn : k = l.length
  ·have hf := hfin (.inl hkn)
   subst hR
   subst hs
   refine spF (by omega) fun h1 => ?_
   refine Need.mk (rfl) ?_
   refine Need.mk (⟨by omega, by omega, by omega, lenE _⟩) ?_
   refine Need.mk (appEq (A' := D.map encX) (B' := [[.sl (List.take ((k : Int) - (i : Int)).toNat (List.drop ((i : Int)).toNat (l.map Ent.enc)))]]) rfl rfl (by rw [hDm]; show D.length + 1 ≤ _; omega) (by decide)) ?_
   exact ⟨_, _, by omega, Weak.nrm [true, true, false, false, false, true, true] [(43, 5)] rfl rfl rfl, k, D ++ [(l.take k).drop i], _, hk, rfl, hf.1, hf.2, hRR, rfl⟩
  ·have hka : k < l.length := by omega
   have hkb : k - 1 < l.length := by omega
   have hsub : IntKind.i64.wrap ((k : Int) - 1) = ((k - 1 : Nat) : Int) := wrapI' (by omega) (by omega)
   have hA := spec_l4Apart snaps l[k].seq l[k - 1].seq hs0
   by_cases hbr : partS snaps l[k].seq l[k - 1].seq = true
   ·rw [hbr] at hA
    have hf := hfin (.inr fun _ => hbr)
    subst hR
    subst hs
    refine spT (by omega) fun h1 => ?_
    refine nd ?_
    refine Row.mk _ (map_get _ l k (by omega)) ?_
    refine Num.mk _ hsub ?_
    refine nd ?_
    refine Row.mk _ (map_get _ l (k - 1) (by omega)) ?_
    refine ACall.mk _ _ hA ?_
    refine sp1 ?_
    refine Need.mk (rfl) ?_
    refine Need.mk (⟨by omega, by omega, by omega, lenE _⟩) ?_
    refine Need.mk (appEq (A' := D.map encX) (B' := [[.sl (List.take ((k : Int) - (i : Int)).toNat (List.drop ((i : Int)).toNat (l.map Ent.enc)))]]) rfl rfl (by rw [hDm]; show D.length + 1 ≤ _; omega) (by decide)) ?_
    exact ⟨_, _, by omega, Weak.nrm [true, true, false, false, false, true, true] [(43, 5)] rfl rfl rfl, k, D ++ [(l.take k).drop i], _, hk, rfl, hf.1, hf.2, hRR, rfl⟩
   ·have hbr : partS snaps l[k].seq l[k - 1].seq = false := by simpa using hbr
    rw [hbr] at hA
    have hno2 : ∀ j, i < j → j < k + 1 → ∀ h : j < l.length, brS snaps (l[j - 1]'(by omega)) l[j] = false := fun j h1 h2 h3 => by
     by_cases hjk : j = k
     ·subst hjk; exact hbr
     ·exact hno j h1 (by omega) h3
    subst hs
    refine spT (by omega) fun h1 => ?_
    refine nd ?_
    refine Row.mk _ (map_get _ l k (by omega)) ?_
    refine Num.mk _ hsub ?_
    refine nd ?_
    refine Row.mk _ (map_get _ l (k - 1) (by omega)) ?_
    refine ACall.mk _ _ hA ?_
    refine sp0 ?_
    refine Need.mk (rfl) ?_
    refine Num.mk _ (wrapS (by omega)) ?_
    exact ⟨_, _, by omega, Weak.nrm [true, true, false, false, false, true, true, true] [(5, 5)] rfl rfl rfl, k + 1, by omega, by omega, rfl, hno2, rfl⟩
theorem spec_Squash_ok (l : List Ent) (snaps : List Int) (hs0 : snaps.length ≤ 1099511627776) (hl : l.length ≤ 16777216) (hx : OkE l) (hok : ordOk l = true) (last : Bool) (o : List Ent) (ho : squash l snaps last = o) : AFn Tryz.prog 131 [sl (l.map Ent.enc), sl (snaps.map encI), av (.bool last)] [] (.one (.us 54 (o.map Ent.enc))) [] := by
 have hn : (l.map Ent.enc).length = l.length := List.length_map ..
 have hR := spec_l4Right l hx (Nat.le_trans hl (by decide))
 rw [hok] at hR
 refine AFn.introX (E := En 0 md0) (en_ok 0 _ _ _ _ _) Tryz.func131 rfl rfl rfl fun _ _ => ?_
 refine ACall.mk _ _ hR ?_
 refine sp1 ?_
 let S : Nat → List (List C) → St := fun i R => ⟨some (sl (List.map Ent.enc l)) :: some (sl (List.map encI snaps)) :: some (av (.bool last)) :: none :: none :: none :: none :: some (.one (.ref 7 0 (.cell 0))) :: some (av (.int .i64 i)) :: List.replicate 43 none, absent :: absent :: absent :: absent :: absent :: absent :: absent :: ⟨0, 1, some [.us 54 R]⟩ :: List.replicate 44 absent⟩
 refine ALoop.mk (fun m s => ∃ (i : Nat) (D : List (List Ent)) (x : List Ent) (R : List (List C)), i ≤ l.length ∧ m = l.length - i ∧ groups brK l = D ++ groups brK (l.drop i) ∧ x = D.flatMap (squashK snaps last) ∧ x.length ≤ i ∧ R = x.map Ent.enc ∧ s = S i R)
  ⟨_, _, Weak.trans (Weak.nrm [true, true, true, false, false, false, false, true, true] [(10, 7)] rfl rfl rfl) Weak.one, 0, [], [], [], Nat.zero_le _, rfl, rfl, rfl, Nat.zero_le _, rfl, rfl⟩ ?_
 rintro m s ⟨i, D, x, R, hi, rfl, hG, hx1, hxl, hR1, hs⟩
 by_cases hin : i = l.length
 ·have hxo : x = o := by rw [hx1, ← ho, squash, hG, hin, List.drop_length]; simp [groups]
  subst hxo
  subst hR1
  subst hs
  refine spF (by omega) fun h1 => ?_
  exact Need.mk ⟨[], _, .same, rfl, rfl⟩ trivial
 ·have hia : i < l.length := by omega
  subst hs
  refine spT (by omega) fun h1 => ?_
  refine Num.mk _ (wrapS (by omega)) ?_
  have h00 : ∀ j, i ≤ j → j < i + 1 → ∀ h : j < l.length, l[j].key = (l[i]'hia).key := fun j h1 h2 h3 => by
   have h4 : j = i := by omega
   subst h4
   rfl
  let S2 : Nat → St := fun k => ⟨some (sl (List.map Ent.enc l)) :: some (sl (List.map encI snaps)) :: some (av (.bool last)) :: none :: none :: none :: none :: some (.one (.ref 7 0 (.cell 0))) :: some (av (.int .i64 ↑i)) :: some (av (.int .i64 (k : Nat))) :: List.replicate 42 none, absent :: absent :: absent :: absent :: absent :: absent :: absent :: ⟨0, 1, some [.us 54 R]⟩ :: List.replicate 44 absent⟩
  refine ALoop.mk (fun m s => ∃ k : Nat, i < k ∧ k ≤ l.length ∧ m = l.length - k ∧ (∀ j, i ≤ j → j < k → ∀ h : j < l.length, l[j].key = (l[i]'hia).key) ∧ s = S2 k)
   ⟨_, _, Weak.nrm [true, true, true, false, false, false, false, true, true, true] [(7, 7)] rfl rfl rfl, i + 1, by omega, by omega, rfl, h00, rfl⟩ ?_
  rintro m s ⟨k, hik, hk, rfl, hno, hs⟩
  have hex := exq ((l.take k).drop i)
  obtain ⟨g, hg⟩ := hex
  have hgl : g.length = k - i := by rw [← hg, List.length_drop, List.length_take]; omega
  have hfin : ∀ _ : Unit, (k = l.length ∨ ∀ h : k < l.length, ¬ l[k].key = (l[i]'hia).key) → groups brK l = (D ++ [g]) ++ groups brK (l.drop k) := fun _ he => by
   have h := groups_split (br := brK) (l := l.drop i) (k := k - i) (by omega) (by rw [List.length_drop]; omega) (fun j h1 h2 h3 => by
    rw [List.length_drop] at h3
    have h5 := hno (i + j) (by omega) (by omega) (by omega)
    have h6 := hno (i + j - 1) (by omega) (by omega) (by omega)
    simp only [List.getElem_drop, brK]
    have e : i + (j - 1) = i + j - 1 := by omega
    simp only [e]
    rw [h5, h6]; simp) (fun h3 => by
    rw [List.length_drop] at h3
    have hkl : k < l.length := by omega
    have hne : ¬ k = l.length := by omega
    have h4 : ¬ l[k].key = (l[i]'hia).key := he.resolve_left hne hkl
    have h6 := hno (k - 1) (by omega) (by omega) (by omega)
    simp only [List.getElem_drop, brK]
    have e : i + (k - i - 1) = k - 1 := by omega
    have e2 : i + (k - i) = k := by omega
    simp only [e, e2]
    rw [h6]; simp [h4])
   have e1 : (l.drop i).take (k - i) = g := by rw [← hg, List.drop_take]
   have e2 : (l.drop i).drop (k - i) = l.drop k := by rw [List.drop_drop]; congr 1; omega
   rw [e1, e2] at h
   rw [hG, h]; simp
  have hgm : ∀ e ∈ g, entOk e = true := fun e he => ordOk_all hok e (by rw [← hg] at he; exact List.mem_of_mem_take (List.mem_of_mem_drop he))
  have hex := exq (classesE snaps g)
  obtain ⟨cs, hcs⟩ := hex
  have hC := spec_l4Classes g snaps hs0 (by omega) cs hcs
  have hform : List.take ((k : Int) - (i : Int)).toNat (List.drop ((i : Int)).toNat (l.map Ent.enc)) = g.map Ent.enc := by
   rw [Int.toNat_natCast, show ((k : Int) - (i : Int)).toNat = k - i by omega, ← hg, List.map_drop, List.map_take, List.drop_take]
  rw [← hform] at hC
  have hcc : ∀ c ∈ cs, 0 < c.length ∧ c.length ≤ 16777216 ∧ ∀ e ∈ c, entOk e = true := fun c hc => by
   rw [← hcs] at hc
   exact ⟨groups_pos c hc, Nat.le_trans (groups_le hc) (by omega), fun e he => hgm e (groups_mem hc he)⟩
  have hcf : cs.flatten.length ≤ 16777216 := by rw [← hcs, classesE, groups_flat]; omega
  have hex := exq (squashK snaps last g)
  obtain ⟨y, hy⟩ := hex
  have hy2 : (leftE last cs).1 = y := by rw [← hy, squashK, hcs]
  have hLf := spec_l4Left cs hcc hcf last y hy2
  have hyl : y.length ≤ k - i := by rw [← hy, ← hgl]; exact squashK_len
  have hx2 : x ++ y = (D ++ [g]).flatMap (squashK snaps last) := by rw [List.flatMap_append, ← hx1]; simp [hy]
  have hxy : (x ++ y).length ≤ k := by rw [List.length_append]; omega
  have hRR : x.map Ent.enc ++ y.map Ent.enc = (x ++ y).map Ent.enc := List.map_append.symm
  by_cases hkn : k = l.length
  ·have hf := hfin () (.inl hkn)
   subst hR1
   subst hs
   refine spF (by omega) fun h1 => ?_
   refine Need.mk (rfl) ?_
   refine Need.mk (⟨by omega, by omega, by omega, lenE _⟩) ?_
   refine ACall.mk _ _ hC ?_
   refine Fz.mk _ (frzXX _) ?_
   refine ACall.mk _ _ hLf ?_
   refine Need.mk (⟨ClL.mem (.us (clE _) .nil), no_objs⟩) ?_
   refine Need.mk ((plainE _)) ?_
   refine apq (A' := _) (B' := _) rfl rfl ?_
   exact ⟨_, _, by omega, Weak.nrm [true, true, true, false, false, false, false, true, true] [(49, 7)] rfl rfl rfl, k, D ++ [g], x ++ y, _, hk, rfl, hf, hx2, hxy, hRR, rfl⟩
  ·have hka : k < l.length := by omega
   by_cases hbr : l[k].key = l[i].key
   ·have hno2 : ∀ j, i ≤ j → j < k + 1 → ∀ h : j < l.length, l[j].key = (l[i]'hia).key := fun j h1 h2 h3 => by
     by_cases hjk : j = k
     ·subst hjk; exact hbr
     ·exact hno j h1 (by omega) h3
    subst hs
    refine spT (by omega) fun h1 => ?_
    refine nd ?_
    refine Row.mk _ (map_get _ l k (by omega)) ?_
    refine nd ?_
    refine Row.mk _ (map_get _ l i (by omega)) ?_
    refine Split.mk fun t h2 => ?_
    cases t
    case false => (exfalso; rw [bytes_beq, decide_eq_false_iff_not] at h2; exact absurd ‹_› h2)
    rw [bytes_beq, decide_eq_true_iff] at h2
    refine Need.mk (rfl) ?_
    refine Num.mk _ (wrapS (by omega)) ?_
    exact ⟨_, _, by omega, Weak.nrm [true, true, true, false, false, false, false, true, true, true] [(7, 7)] rfl rfl rfl, k + 1, by omega, by omega, rfl, hno2, rfl⟩
   ·have hf := hfin () (.inr fun _ => hbr)
    subst hR1
    subst hs
    refine spT (by omega) fun h1 => ?_
    refine nd ?_
    refine Row.mk _ (map_get _ l k (by omega)) ?_
    refine nd ?_
    refine Row.mk _ (map_get _ l i (by omega)) ?_
    refine Split.mk fun t h2 => ?_
    cases t
    case true => (exfalso; rw [bytes_beq, decide_eq_true_iff] at h2; exact absurd h2 ‹_›)
    rw [bytes_beq, decide_eq_false_iff_not] at h2
    refine Need.mk (rfl) ?_
    refine Need.mk (⟨by omega, by omega, by omega, lenE _⟩) ?_
    refine ACall.mk _ _ hC ?_
    refine Fz.mk _ (frzXX _) ?_
    refine ACall.mk _ _ hLf ?_
    refine Need.mk (⟨ClL.mem (.us (clE _) .nil), no_objs⟩) ?_
    refine Need.mk ((plainE _)) ?_
    refine apq (A' := _) (B' := _) rfl rfl ?_
    exact ⟨_, _, by omega, Weak.nrm [true, true, true, false, false, false, false, true, true] [(49, 7)] rfl rfl rfl, k, D ++ [g], x ++ y, _, hk, rfl, hf, hx2, hxy, hRR, rfl⟩
def squashed (l : List Ent) (snaps : List Int) (last : Bool) : List Ent := if ordOk l then squash l snaps last else []
theorem spec_Squash (l : List Ent) (snaps : List Int) (hs0 : snaps.length ≤ 1099511627776) (hl : l.length ≤ 16777216) (hx : OkE l) (last : Bool) : AFn Tryz.prog 131 [sl (l.map Ent.enc), sl (snaps.map encI), av (.bool last)] [] (.one (.us 54 ((squashed l snaps last).map Ent.enc))) [] := by
 by_cases hok : ordOk l = true
 ·rw [show squashed l snaps last = squash l snaps last from if_pos hok]
  exact spec_Squash_ok l snaps hs0 hl hx hok last _ rfl
 ·rw [show squashed l snaps last = [] from if_neg hok]
  have hok : ordOk l = false := by simpa using hok
  have hR := spec_l4Right l hx (Nat.le_trans hl (by decide))
  rw [hok] at hR
  refine AFn.introX (E := En 0 md0) (en_ok 0 _ _ _ _ _) Tryz.func131 rfl rfl rfl fun _ _ => ?_
  refine ACall.mk _ _ hR ?_
  refine sp0 ?_
  exact Need.mk ⟨[], _, .same, rfl, rfl⟩ trivial
open Go.RowKit Go.Shelf
attribute [local go_sem] Oper.semAt_some
set_option maxHeartbeats 2000000 in
theorem impl_classesOf_in (F : Fence) (n : Nat) (hf : F.fn 211) (hro : F.round = none) (a1 a2 : Option Addr) (n1 c1 n2 c2 : Nat) (w : World) :
  CallsIn F n Tryz.prog 211 #[.slice a1 n1 c1, .slice a2 n2 c2] w fun e w' => e = .returned (.func (.func 221) #[] #[.pointer (some ⟨w.heap.size, 0, none⟩), .pointer (some ⟨w.heap.size + 1, 0, none⟩)]) ∧
   w' = (w.alloc (.cells #[.slice a1 n1 c1] 29)).alloc (.cells #[.slice a2 n2 c2] 24) := by
 refine callsIn_of_wp Tryz.func211 rfl hf ?_ hro
 simp only [Tryz.ntmps211, List.size_toArray, List.length_cons, List.length_nil, Nat.reduceAdd, Nat.reduceSub, Array.replicate_succ, Array.replicate_zero, List.push_toArray, List.append_toArray, List.nil_append, List.cons_append]
 gi_wp2
 go_ret
 exact ⟨rfl, by simp⟩
open Go.RowKit Go.Shelf
attribute [local go_sem] Oper.semAt_some
theorem avr_v {P : Program} {w : World} {F : Frs} {L : Nat → Pl} {o : List Ob} {x v : Value} (h : AVR P w F L o (.one (.c (.v x))) v) : v = x := by
 cases h with
 | one h => cases h with
  | c h => cases h with
   | v _ => rfl
theorem avr_t {P : Program} {w : World} {F : Frs} {L : Nat → Pl} {o : List Ob} {v : Value} (h : AVR P w F L o (.tup []) v) : v = undef := by
 cases h with
 | @tup _ vs h _ =>
  have : vs = #[] := Array.eq_empty_of_size_eq_zero (by simpa using h.symm)
  subst this; rfl
theorem avr_ep {P : Program} {w : World} {F : Frs} {L : Nat → Pl} {o : List Ob} {row : List C} {b k off : Nat} {v : Value} (h : AVR P w F L o (.ep row off (some (b, k))) v) : v = .pointer (some ⟨b, k + off, none⟩) := by
 cases h with
 | ep had _ => have := had _ rfl; cases this; rfl
theorem consLen {α : Type} {l : List α} {n : Nat} (h : l.length = n + 1) : ∃ a t, l = a :: t ∧ t.length = n := by
 cases l with
 | nil => cases h
 | cons a t => exact ⟨a, t, rfl, by simpa using h⟩
theorem arr38 {t : Array Value} (h : t.size = 38) : ∃ v0 v1 v2 v3 v4 v5 v6 v7 v8 v9 v10 v11 v12 v13 v14 v15 v16 v17 v18 v19 v20 v21 v22 v23 v24 v25 v26 v27 v28 v29 v30 v31 v32 v33 v34 v35 v36 v37, t = #[v0, v1, v2, v3, v4, v5, v6, v7, v8, v9, v10, v11, v12, v13, v14, v15, v16, v17, v18, v19, v20, v21, v22, v23, v24, v25, v26, v27, v28, v29, v30, v31, v32, v33, v34, v35, v36, v37] := by
 obtain ⟨l⟩ := t
 simp only [List.size_toArray] at h
 obtain ⟨v0, l0, h0, k0⟩ := consLen h
 obtain ⟨v1, l1, h1, k1⟩ := consLen k0
 obtain ⟨v2, l2, h2, k2⟩ := consLen k1
 obtain ⟨v3, l3, h3, k3⟩ := consLen k2
 obtain ⟨v4, l4, h4, k4⟩ := consLen k3
 obtain ⟨v5, l5, h5, k5⟩ := consLen k4
 obtain ⟨v6, l6, h6, k6⟩ := consLen k5
 obtain ⟨v7, l7, h7, k7⟩ := consLen k6
 obtain ⟨v8, l8, h8, k8⟩ := consLen k7
 obtain ⟨v9, l9, h9, k9⟩ := consLen k8
 obtain ⟨v10, l10, h10, k10⟩ := consLen k9
 obtain ⟨v11, l11, h11, k11⟩ := consLen k10
 obtain ⟨v12, l12, h12, k12⟩ := consLen k11
 obtain ⟨v13, l13, h13, k13⟩ := consLen k12
 obtain ⟨v14, l14, h14, k14⟩ := consLen k13
 obtain ⟨v15, l15, h15, k15⟩ := consLen k14
 obtain ⟨v16, l16, h16, k16⟩ := consLen k15
 obtain ⟨v17, l17, h17, k17⟩ := consLen k16
 obtain ⟨v18, l18, h18, k18⟩ := consLen k17
 obtain ⟨v19, l19, h19, k19⟩ := consLen k18
 obtain ⟨v20, l20, h20, k20⟩ := consLen k19
 obtain ⟨v21, l21, h21, k21⟩ := consLen k20
 obtain ⟨v22, l22, h22, k22⟩ := consLen k21
 obtain ⟨v23, l23, h23, k23⟩ := consLen k22
 obtain ⟨v24, l24, h24, k24⟩ := consLen k23
 obtain ⟨v25, l25, h25, k25⟩ := consLen k24
 obtain ⟨v26, l26, h26, k26⟩ := consLen k25
 obtain ⟨v27, l27, h27, k27⟩ := consLen k26
 obtain ⟨v28, l28, h28, k28⟩ := consLen k27
 obtain ⟨v29, l29, h29, k29⟩ := consLen k28
 obtain ⟨v30, l30, h30, k30⟩ := consLen k29
 obtain ⟨v31, l31, h31, k31⟩ := consLen k30
 obtain ⟨v32, l32, h32, k32⟩ := consLen k31
 obtain ⟨v33, l33, h33, k33⟩ := consLen k32
 obtain ⟨v34, l34, h34, k34⟩ := consLen k33
 obtain ⟨v35, l35, h35, k35⟩ := consLen k34
 obtain ⟨v36, l36, h36, k36⟩ := consLen k35
 obtain ⟨v37, l37, h37, k37⟩ := consLen k36
 have e := List.eq_nil_of_length_eq_zero k37
 exact ⟨v0, v1, v2, v3, v4, v5, v6, v7, v8, v9, v10, v11, v12, v13, v14, v15, v16, v17, v18, v19, v20, v21, v22, v23, v24, v25, v26, v27, v28, v29, v30, v31, v32, v33, v34, v35, v36, v37, by rw [h0, h1, h2, h3, h4, h5, h6, h7, h8, h9, h10, h11, h12, h13, h14, h15, h16, h17, h18, h19, h20, h21, h22, h23, h24, h25, h26, h27, h28, h29, h30, h31, h32, h33, h34, h35, h36, h37, e]⟩
noncomputable def c1K (l b1 b2 : Nat) (st k : Nat) (R1 R2 : List (List C)) (t : Bool) : Exit → St → Prop := fun e s => e = .normal ∧ s.s.length = 38 ∧ s.s[0]? = some (some (.one (.c (.v (.func (.yield l) #[] #[]))))) ∧
 s.s[1]? = some (some (.ep [.sl R1] 0 (some (b1, 0)))) ∧ s.s[2]? = some (some (.ep [.sl R2] 0 (some (b2, 0)))) ∧ s.s[3]? = some (some (.tup [])) ∧ s.s[4]? = some (some (av (.int .i64 st))) ∧ s.s[5]? = some (some (av (.int .i64 k))) ∧ s.s[29]? = some (some (av (.bool t)))
noncomputable def c1S (l b1 b2 : Nat) (st k : Nat) (R1 R2 : List (List C)) : List (Option AV) :=
 some (.one (.c (.v (.func (.yield l) #[] #[])))) :: some (.ep [.sl R1] 0 (some (b1, 0))) :: some (.ep [.sl R2] 0 (some (b2, 0))) :: some (.tup []) :: some (av (.int .i64 st)) :: some (av (.int .i64 k)) :: List.replicate 32 none
def brkAt (snaps : List Int) (L : List Ent) (k : Nat) : Bool := if h : 0 < k ∧ k < L.length then partS snaps (L[k]'h.2).seq (L[k - 1]'(by omega)).seq else true
def Keq (S : Nat → Prop) (A B : World) : Prop := A.heap.size ≤ B.heap.size ∧ ∀ k, S k → B.heap[k]? = A.heap[k]?
theorem Keq.refl (S : Nat → Prop) (A : World) : Keq S A A := ⟨Nat.le_refl _, fun _ _ => rfl⟩
theorem Keq.trans {S : Nat → Prop} {A B C : World} (h : Keq S A B) (k : Keq S B C) : Keq S A C := ⟨Nat.le_trans h.1 k.1, fun i hi => (k.2 i hi).trans (h.2 i hi)⟩
theorem groups_step {snaps : List Int} {L : List Ent} {st k : Nat} (h1 : st < k) (h2 : k ≤ L.length) (hno : ∀ j, st < j → j < k → brkAt snaps L j = false) (hb : (decide (k < L.length) && !brkAt snaps L k) = false) :
  groups (brS snaps) (L.drop st) = (L.take k).drop st :: groups (brS snaps) (L.drop k) := by
 have h := groups_split (br := brS snaps) (l := L.drop st) (k := k - st) (by omega) (by rw [List.length_drop]; omega) (fun j g1 g2 g3 => by
  have := hno (st + j) (by omega) (by omega)
  rw [brkAt, dif_pos ⟨by omega, by omega⟩] at this
  simp only [List.getElem_drop, brS]
  have e : st + (j - 1) = st + j - 1 := by omega
  simp only [e]
  exact this) (fun h3 => by
  rw [List.length_drop] at h3
  have hk : k < L.length := by omega
  rw [decide_eq_true hk, Bool.true_and, brkAt, dif_pos ⟨by omega, hk⟩] at hb
  simp only [List.getElem_drop, brS]
  have e : st + (k - st - 1) = k - 1 := by omega
  have e2 : st + (k - st) = k := by omega
  simp only [e, e2]
  simpa using hb)
 rw [h, List.drop_drop, List.drop_take]
 have e2 : st + (k - st) = k := by omega
 rw [e2]
set_option maxHeartbeats 4000000 in
theorem impl_classes1_in (n : Nat) (hn : 1 ≤ n) (l b1 b2 : Nat) (S : Nat → Prop) (L : List Ent) (snaps : List Int) (a1 a2 : Option Addr) (c1 k2 c2 : Nat) (hl : L.length ≤ 16777216) (hs0 : snaps.length ≤ 1099511627776) (J Jx : List (Nat × Nat) → World → Prop) (W : World)
  (hJ : AbidesFrom W.heap.size J) (hb1 : S b1) (hb2 : S b2) (hn₀ : ∀ k, S k → k < W.heap.size)
  (hc1 : W.cell? ⟨b1, 0, none⟩ = some (.slice a1 L.length c1)) (hc2 : W.cell? ⟨b2, 0, none⟩ = some (.slice a2 k2 c2))
  (hf1 : FR W S (.sl (L.map Ent.enc)) (.slice a1 L.length c1)) (hf2 : FR W S (.sl (snaps.map encI)) (.slice a2 k2 c2))
  (hY : ∀ pre x W1, J pre W1 → pre.length < L.length → YieldAt Fence.wide (n - 1) Tryz.prog l #[resliced (.slice a1 L.length c1) x.1 (x.2 - x.1) 5] W1 fun e W' =>
   (e = .returned (.bool true) ∧ J (pre ++ [x]) W' ∧ Keq S W1 W') ∨ (e = .returned (.bool false) ∧ Jx (pre ++ [x]) W')) (h0 : J [] W) :
  CallsIn Fence.wide n Tryz.prog 221 #[.func (.yield l) #[] #[], .pointer (some ⟨b1, 0, none⟩), .pointer (some ⟨b2, 0, none⟩)] W fun e W' => (∃ v, e = .returned v) ∧
   ((∃ xs, ((xs.map fun p => (L.take p.2).drop p.1) = groups (brS snaps) L ∧ ∀ p ∈ xs, p.1 < p.2 ∧ p.2 ≤ L.length) ∧ J xs W') ∨ (∃ pre, True ∧ Jx pre W')) := by
 refine callsIn_of_wp Tryz.func221 rfl trivial ?_ rfl
 simp only [Tryz.ntmps221, List.size_toArray, List.length_cons, List.length_nil, Nat.reduceAdd, Nat.reduceSub, Array.replicate_succ, Array.replicate_zero, List.push_toArray, List.append_toArray, List.nil_append, List.cons_append]
 gi_wp2
 have hcap : L.length ≤ c1 := by cases hf1 with | sl _ _ hc _ _ _ _ => exact hc
 gi_loopw [4, 5] (fun s i wr => ∃ (st k : Nat) (D : List (Nat × Nat)), s = .int .i64 st ∧ i = .int .i64 k ∧ k ≤ L.length + 1 ∧ (k ≤ L.length → st < k ∧ D.length ≤ st ∧ groups (brS snaps) L = (D.map fun p => (L.take p.2).drop p.1) ++ groups (brS snaps) (L.drop st) ∧ ∀ j, st < j → j < k → brkAt snaps L j = false) ∧
   (k = L.length + 1 → (D.map fun p => (L.take p.2).drop p.1) = groups (brS snaps) L) ∧ (∀ p ∈ D, p.1 < p.2 ∧ p.2 ≤ L.length) ∧ J D wr ∧ Keq S W wr)
  (fun s i _ => L.length + 1 - (intOf i).toNat)
 case atStart => exact ⟨0, 1, [], rfl, rfl, by omega, fun _ => ⟨by omega, Nat.le_refl _, rfl, fun j h1 h2 => by omega⟩, fun h => by
  have : L = [] := List.eq_nil_of_length_eq_zero (by omega)
  subst this; rfl, (fun p hp => nomatch hp), h0, Keq.refl _ _⟩
 case round =>
  obtain ⟨st, k, D, rfl, rfl, h2, hgo, hend, hDb, hJs, hnx⟩ := hrel
  have hcx1 : wr.cell? ⟨b1, 0, none⟩ = some (.slice a1 L.length c1) := (cell_of_heap (hnx.2 b1 hb1)).trans hc1
  have hcx2 : wr.cell? ⟨b2, 0, none⟩ = some (.slice a2 k2 c2) := (cell_of_heap (hnx.2 b2 hb2)).trans hc2
  by_cases hkl : k ≤ L.length
  ·obtain ⟨h1, hDl, hG, hno⟩ := hgo hkl
   gi_wp2
   refine wpIn_wide.2 ?_
   refine wp_mono (ev_at (E := En 0 md0) (en_ok 0 _ _ _ _ _) rfl (F0 := S) (K := c1K l b1 b2 st k (L.map Ent.enc) (snaps.map encI) (decide (k < L.length) && !brkAt snaps L k)) (sl := c1S l b1 b2 st k (L.map Ent.enc) (snaps.map encI)) (k := 38) ?_ rfl ?_ ?_) ?_
   ·intro q hq; exact Nat.lt_of_lt_of_le (hn₀ q hq) hnx.1
   ·have hfr : ∀ q, S q → wr.heap[q]? = W.heap[q]? ∧ S q := fun q hq => ⟨hnx.2 q hq, hq⟩
    intro q av hq
    rcases q with _ | _ | _ | _ | _ | _ | q
    ·injection hq with hq; injection hq with hq; subst hq
     exact ⟨_, rfl, .one (.c (.v rfl))⟩
    ·injection hq with hq; injection hq with hq; subst hq
     refine ⟨_, rfl, AVR.ep (off := 0) (k := 0) (fun p hp => by cases hp; rfl) fun j c hj => ?_⟩
     rcases j with _ | j
     ·injection hj with hj; subst hj
      exact ⟨hb1, _, hcx1, hf1.move hfr⟩
     ·cases hj
    ·injection hq with hq; injection hq with hq; subst hq
     refine ⟨_, rfl, AVR.ep (off := 0) (k := 0) (fun p hp => by cases hp; rfl) fun j c hj => ?_⟩
     rcases j with _ | j
     ·injection hj with hj; subst hj
      exact ⟨hb2, _, hcx2, hf2.move hfr⟩
     ·cases hj
    ·injection hq with hq; injection hq with hq; subst hq
     exact ⟨_, rfl, .tup rfl (fun i s v h => nomatch h)⟩
    ·injection hq with hq; injection hq with hq; subst hq
     exact ⟨_, rfl, .one (.c (.v rfl))⟩
    ·injection hq with hq; injection hq with hq; subst hq
     exact ⟨_, rfl, .one (.c (.v rfl))⟩
    ·have hq : (List.replicate 32 (none : Option AV))[q]? = some (some av) := hq
     rw [List.getElem?_replicate] at hq
     split at hq <;> cases hq
   ·rw [← evX_eq]
    by_cases hlt : k < L.length
    ·have hp := impl_parted (L[k - 1]'(by omega)) L[k] snaps hs0
     have hex := exq (partS snaps L[k].seq (L[k - 1]'(by omega)).seq)
     obtain ⟨t0, ht0⟩ := hex
     have hbk : brkAt snaps L k = t0 := by rw [brkAt, dif_pos ⟨by omega, hlt⟩, ht0]
     have hres : (decide (k < L.length) && !brkAt snaps L k) = !t0 := by rw [hbk, decide_eq_true hlt, Bool.true_and]
     rw [hres]
     rw [ht0] at hp
     have hn : (L.map Ent.enc).length = L.length := List.length_map ..
     have hsub : IntKind.i64.wrap ((k : Int) - 1) = ((k - 1 : Nat) : Int) := wrapI' (by omega) (by omega)
     have hrow1 : (L.map Ent.enc)[k - 1]? = some (L[k - 1]'(by omega)).enc := by rw [List.getElem?_map, List.getElem?_eq_getElem (by omega)]; rfl
     have hrow2 : (L.map Ent.enc)[k]? = some (L[k]'(by omega)).enc := by rw [List.getElem?_map, List.getElem?_eq_getElem (by omega)]; rfl
     cases t0
     ·refine Split.mk fun t h1 => ?_
      cases t
      case false => (exfalso; rw [decide_eq_false_iff_not, hn] at h1; omega)
      refine Num.mk _ hsub ?_
      refine nd ?_
      refine Row.mk _ hrow1 ?_
      refine nd ?_
      refine Row.mk _ hrow2 ?_
      refine ACall.mk _ _ hp ?_
      refine sp0 ?_
      exact Need.mk rfl ⟨rfl, rfl, rfl, rfl, rfl, rfl, rfl, rfl, rfl⟩
     ·refine Split.mk fun t h1 => ?_
      cases t
      case false => (exfalso; rw [decide_eq_false_iff_not, hn] at h1; omega)
      refine Num.mk _ hsub ?_
      refine nd ?_
      refine Row.mk _ hrow1 ?_
      refine nd ?_
      refine Row.mk _ hrow2 ?_
      refine ACall.mk _ _ hp ?_
      refine sp1 ?_
      exact Need.mk rfl ⟨rfl, rfl, rfl, rfl, rfl, rfl, rfl, rfl, rfl⟩
    ·have hkk : k = L.length := by omega
     have hn : (L.map Ent.enc).length = L.length := List.length_map ..
     rw [decide_eq_false hlt, Bool.false_and]
     refine Split.mk fun t h1 => ?_
     cases t
     case true => (exfalso; rw [decide_eq_true_iff, hn] at h1; omega)
     exact Need.mk rfl ⟨rfl, rfl, rfl, rfl, rfl, rfl, rfl, rfl, rfl⟩
   ·rintro e a' w' ⟨sx, L', ow', ⟨rfl, hlen, hs0', hs1, hs2, hs3, hs4, hs5, hs29⟩, hR⟩
    have hsz : a'.tmps.size = 38 := by rw [← hR.len]; exact hlen
    have hdf := hR.defers
    have hk := hR.keeps
    obtain ⟨z0, e0, g0⟩ := hR.slots 0 _ hs0'
    obtain ⟨z1, e1, g1⟩ := hR.slots 1 _ hs1
    obtain ⟨z2, e2, g2⟩ := hR.slots 2 _ hs2
    obtain ⟨z3, e3, g3⟩ := hR.slots 3 _ hs3
    obtain ⟨z4, e4, g4⟩ := hR.slots 4 _ hs4
    obtain ⟨z5, e5, g5⟩ := hR.slots 5 _ hs5
    obtain ⟨z29, e29, g29⟩ := hR.slots 29 _ hs29
    clear hR
    obtain ⟨tm, df⟩ := a'
    simp only at hsz hdf e0 e1 e2 e3 e4 e5 e29
    subst hdf
    obtain ⟨v0, v1, v2, v3, v4, v5, v6, v7, v8, v9, v10, v11, v12, v13, v14, v15, v16, v17, v18, v19, v20, v21, v22, v23, v24, v25, v26, v27, v28, v29, v30, v31, v32, v33, v34, v35, v36, v37, rfl⟩ := arr38 hsz
    have q0 := avr_v g0
    have q1 := avr_ep g1
    have q2 := avr_ep g2
    have q3 := avr_t g3
    have q4 := avr_v g4
    have q5 := avr_v g5
    have q29 := avr_v g29
    subst q0 q1 q2 q3 q4 q5 q29
    injection e0 with e0
    injection e1 with e1
    injection e2 with e2
    injection e3 with e3
    injection e4 with e4
    injection e5 with e5
    injection e29 with e29
    subst e0 e1 e2 e3 e4 e5 e29
    clear g0 g1 g2 g3 g4 g5 g29
    have hB' : Keq S wr w' := ⟨hk.size, fun k hk' => hk.block k (Nat.lt_of_lt_of_le (hn₀ k hk') hnx.1) rfl⟩
    have hJ' : J D w' := hJ D wr w' none hJs hk.grown (fun _ e => by cases e)
    have hcx1 : w'.cell? ⟨b1, 0, none⟩ = some (.slice a1 L.length c1) := (cell_of_heap (hB'.2 b1 hb1)).trans hcx1
    have hcx2 : w'.cell? ⟨b2, 0, none⟩ = some (.slice a2 k2 c2) := (cell_of_heap (hB'.2 b2 hb2)).trans hcx2
    have hnx' := hnx.trans hB'
    obtain ⟨t, ht⟩ : ∃ t, (decide (k < L.length) && !brkAt snaps L k) = t := ⟨_, rfl⟩
    rw [ht]
    have hcs : ¬ c1 = st := by omega
    have HG : Hid _ := hG
    have HN : Hid _ := hno
    have HT : Hid _ := ht
    have HD : Hid _ := hDb
    clear hDb
    clear hgo hend hG hno ht hnx hJs hB'
    cases t
    ·obtain ⟨fn, tmps, assign, body, hy, hR⟩ := hY D (st, k) w' hJ' (by omega)
     dsimp only [resliced] at hy
     rw [if_neg hcs] at hy
     gi_wp2
     refine hR.mono ?_
     rintro e W3 (⟨rfl, hJ3, hk3⟩ | ⟨rfl, hJx3⟩)
     ·have hst := groups_step h1 hkl HN.out HT.out
      have HS : Hid _ := hst
      have hnx3 := hnx'.trans hk3
      clear hst
      gi_wp2
      go_roundw
      case rel =>
       refine ⟨k, k + 1, D ++ [(st, k)], rfl, rfl, by omega, fun h => ⟨by omega, by simp; omega, ?_, fun j h1 h2 => by omega⟩, fun h => ?_, ?_, hJ3, hnx3⟩
       ·rw [HG.out, HS.out]; simp
       ·have hkL : k = L.length := by omega
        have hS := HS.out
        rw [HG.out, hS, hkL, List.drop_length]; simp [groups]
       ·intro p hp
        rcases List.mem_append.1 hp with hp | hp
        ·exact HD.out p hp
        ·obtain rfl := List.mem_singleton.1 hp
         exact ⟨h1, hkl⟩
      case measure => simp [intOf]; omega
     ·gi_wp2
      refine bodyPost_ret (results_none rfl _ _ _) rfl ?_
      exact ⟨⟨_, rfl⟩, .inr ⟨_, trivial, hJx3⟩⟩
    ·gi_wp2
     have hT := HT.out
     rw [Bool.and_eq_true] at hT
     have hk2 := of_decide_eq_true hT.1
     have hbr : brkAt snaps L k = false := by simpa using hT.2
     refine ⟨⟨st, rfl, k + 1, rfl, by omega, D, fun h => ⟨by omega, hDl, HG.out, fun j g1 g2 => ?_⟩, fun h => by omega, fun a b hp => HD.out (a, b) hp, hJ'⟩, ?_⟩
     ·by_cases hjk : j = k
      ·subst hjk; exact hbr
      ·exact HN.out j g1 (by omega)
     ·simp [intOf]; omega
  ·have hk' : k = L.length + 1 := by omega
   have hE := hend hk'
   have HE : Hid _ := hE
   have HD : Hid _ := hDb
   clear hend hgo hE hDb
   gi_wp2
   go_end0
   exact ⟨⟨_, rfl⟩, .inl ⟨D, ⟨HE.out, HD.out⟩, hJs⟩⟩
def growE_ren : Go.Shelf.Ren := ⟨fun | 4 => 224 | n => n, fun | 22 => 29 | 25 => 54 | n => n, fun | n => n⟩
theorem growE_lays : Go.Proofs.Lays8.n4 Tryz.prog growE_ren := {
 mixed := by kernel_rfl
 f4 := ⟨Tryz.f224.name, by decide, Tryz.func224.trans (congrArg some (by kernel_rfl))⟩
 t0 := Tryz.underlying0
 a0 := Tryz.isAgg0
 z0 := Tryz.sizeOf0
 v0 := Tryz.zeroValue0
 t3 := Tryz.underlying3
 a3 := Tryz.isAgg3
 z3 := Tryz.sizeOf3
 v3 := Tryz.zeroValue3
 t4 := Tryz.underlying4
 a4 := Tryz.isAgg4
 z4 := Tryz.sizeOf4
 v4 := Tryz.zeroValue4
 t9 := Tryz.underlying9
 a9 := Tryz.isAgg9
 z9 := Tryz.sizeOf9
 v9 := Tryz.zeroValue9
 t20 := Tryz.underlying20
 a20 := Tryz.isAgg20
 z20 := Tryz.sizeOf20
 v20 := Tryz.zeroValue20
 t22 := Tryz.underlying29
 a22 := Tryz.isAgg29
 z22 := Tryz.sizeOf29
 v22 := Tryz.zeroValue29 }
theorem growE_info : (Tryz.prog.info? 54).map (fun i => (i.zero, i.size, i.bytes)) = some (some (.agg #[.string ⟨#[]⟩, .int .i64 0, .int .i64 0, .string ⟨#[]⟩, .int .i64 0]), 5, 56) := by kernel_rfl
theorem slices_GrowE (n : Nat) (hn : n ≤ 1099511627776) : AFn Tryz.prog 224 [.one (.c (.v nilV)), av (.int .i64 n)] [] (.one (.us 54 [])) [] := by
 cases hi : Tryz.prog.info? 54 with
 | none => have h := growE_info; rw [hi] at h; cases h
 | some i0 =>
  have h := growE_info
  rw [hi] at h
  simp only [Option.map_some, Option.some.injEq, Prod.mk.injEq] at h
  obtain ⟨h1, h2, h3⟩ := h
  exact grow_ok growE_lays rfl rfl hi h1 (by omega) (by kernel_rfl) (pos_of tab_ok (t := 54) rfl) n (by rw [h3]; omega) (by omega)
theorem slices_ConcatE (L : List (List Ent)) (hL : L.length ≤ 1000000) (hl : ∀ l ∈ L, l.length ≤ 1000000) (hf : L.flatten.length ≤ 1000000) : AFn Tryz.prog 213 [sl (L.map encX)] [] (.one (.us 54 (L.flatten.map Ent.enc))) [] := by
 have hn : (L.map encX).length = L.length := List.length_map ..
 have hsum : ∀ i, (L.take i).flatten.length ≤ 1000000 := fun i => Nat.le_trans (flat_take_le L i) hf
 refine AFn.introX (E := En 0 (fun f => if f = 224 then 3 else 0)) (en_ok 0 _) Tryz.func213 rfl rfl rfl fun _ _ => ?_
 let S : Nat → Nat → St := fun n i => ⟨some (sl (L.map encX)) :: none :: none :: some (av (.int .i64 n)) :: none :: none :: none :: none :: none :: some (sl (L.map encX)) :: some (av (.int .i64 (L.map encX).length)) :: some (av (.int .i64 i)) :: List.replicate 24 none, List.replicate 36 absent⟩
 refine ALoop.mk (fun m s => ∃ i : Nat, i ≤ L.length ∧ m = L.length - i ∧ s = S (L.take i).flatten.length i)
  ⟨_, _, Weak.nrm [true, false, false, true, false, false, false, false, false, true, true, true] [] rfl rfl rfl, 0, Nat.zero_le _, rfl, rfl⟩ ?_
 rintro m s ⟨i, hi, rfl, hs⟩
 by_cases hin : i = L.length
 ·rw [hin, List.take_length] at hs
  have hG := slices_GrowE L.flatten.length (by omega)
  have hex := exq (L.flatten.length)
  obtain ⟨n, hN⟩ := hex
  rw [hN] at hs hG
  subst hs
  refine spF (by omega) fun h1 => ?_
  refine ACall.mk _ _ hG ?_
  let S2 : List (List C) → Nat → St := fun R i => ⟨none :: none :: none :: none :: none :: none :: some (.one (.ref 6 0 (.cell 0))) :: none :: none :: none :: none :: none :: none :: none :: none :: none :: none :: none :: none :: none :: none :: none :: none :: none :: none :: some (sl (L.map encX)) :: some (av (.int .i64 (L.map encX).length)) :: some (av (.int .i64 i)) :: List.replicate 8 none, absent :: absent :: absent :: absent :: absent :: absent :: ⟨0, 1, some [.us 54 R]⟩ :: List.replicate 29 absent⟩
  refine ALoop.mk (fun m s => ∃ i : Nat, i ≤ L.length ∧ m = L.length - i ∧ s = S2 ((L.take i).flatten.map Ent.enc) i)
   ⟨_, _, Weak.nrm [false, false, false, false, false, false, true, false, false, false, false, false, false, false, false, false, false, false, false, false, false, false, false, false, false, true, true, true] [(24, 6)] rfl rfl rfl, 0, Nat.zero_le _, rfl, rfl⟩ ?_
  rintro m s ⟨i, hi, hm2, hs⟩
  by_cases hin : i = L.length
  ·rw [hin, List.take_length] at hs
   subst hs
   refine spF (by omega) fun h1 => ?_
   exact Need.mk ⟨[], _, .same, rfl, rfl⟩ trivial
  ·have hia : i < L.length := by omega
   have hft := flat_take L hia
   have hs1 := hsum i
   have hx := hl _ (List.getElem_mem hia)
   have hex := exq (L[i])
   obtain ⟨xs, hxs⟩ := hex
   have hrow : (L.map encX)[i]? = some (encX xs) := by rw [map_get _ L i hia, hxs]
   rw [hxs] at hft hx
   have hex := exq ((L.take i).flatten)
   obtain ⟨G, hG2⟩ := hex
   rw [hG2] at hs hs1 hft
   subst hs
   refine spT (by omega) fun h1 => ?_
   refine nd ?_
   refine Row.mk _ hrow ?_
   refine Need.mk (⟨(plainE _), (lenE _)⟩) ?_
   refine apq (A' := _) (B' := _) rfl rfl ?_
   refine Num.mk _ (wrapS (by omega)) ?_
   exact ⟨_, _, by omega, Weak.nrm [false, false, false, false, false, false, true, false, false, false, false, false, false, false, false, false, false, false, false, false, false, false, false, false, false, true, true, true] [(33, 6)] rfl rfl rfl, i + 1, by omega, rfl, Eq.trans (b := S2 (G.map Ent.enc ++ xs.map Ent.enc) (i + 1)) rfl (by rw [hft, List.map_append])⟩
 ·have hia : i < L.length := by omega
  have hft := flat_take L hia
  have hs1 := hsum i
  have hx := hl _ (List.getElem_mem hia)
  have hex := exq (L[i])
  obtain ⟨xs, hxs⟩ := hex
  have hrow : (L.map encX)[i]? = some (encX xs) := by rw [map_get _ L i hia, hxs]
  rw [hxs] at hft hx
  have hfl : (L.take (i + 1)).flatten.length = (L.take i).flatten.length + xs.length := by rw [hft, List.length_append]
  have hxn : (xs.map Ent.enc).length = xs.length := List.length_map ..
  have hex := exq ((L.take i).flatten.length)
  obtain ⟨n, hN⟩ := hex
  rw [hN] at hs hs1 hfl
  have hwr : IntKind.i64.wrap ((n : Int) + ((xs.map Ent.enc).length : Nat)) = ((n + xs.length : Nat) : Int) := wrapI' (by omega) (by omega)
  subst hs
  refine spT (by omega) fun h1 => ?_
  refine nd ?_
  refine Row.mk _ hrow ?_
  refine Num.mk _ hwr ?_
  refine sp0 ?_
  refine Num.mk _ (wrapS (by omega)) ?_
  exact ⟨_, _, by omega, Weak.nrm [true, false, false, true, false, false, false, false, false, true, true, true] [] rfl rfl rfl, i + 1, by omega, rfl, Eq.trans (b := S (n + xs.length) (i + 1)) rfl (by rw [hfl])⟩
end Go.Proofs.YtcnongahanmclaaGreat
