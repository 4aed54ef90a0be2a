/-
  Contracts of functions, part 3.
-/
import Derived.Test.YtlmdheeammfihaaTFnSquashPartsB
namespace Go.Proofs.Ytlmdheeammfihaa
open Go Go.Proofs Ev
set_option maxRecDepth 100000
set_option linter.unusedSimpArgs false
set_option linter.unusedVariables false
set_option maxHeartbeats 8000000
theorem symMerge_hi (f : FuncId) (lt : Ent → Ent → Bool) (hw : Wk lt) (hf : CmpOk f lt) (n : Nat) (ih : ∀ k, k < n → SymM f lt k) (x c d y l r : List Ent) (a m b mid : Nat) (hl : l = x ++ c ++ d ++ y) (hr : r = x ++ mrg lt c d ++ y) (ha : a = x.length) (hm : m = x.length + c.length) (hb : b = x.length + c.length + d.length) (hc : 1 < c.length) (hd : 1 < d.length) (sc : Srt lt c) (sd : Srt lt d) (hcd : c.length + d.length ≤ n) (hx : l.length ≤ 1099511627776) (hmid : (a + b) / 2 = mid) (hwh : mid < m) :
    AFn Try.prog 156 [.one (.ref 0 0 (.cell 0)), av (.int .i64 a), av (.int .i64 m), av (.int .i64 b), av (.func (.func f) #[] #[])] [[.us 32 (l.map Ent.enc)]] (.tup []) [[.us 32 (r.map Ent.enc)]] := by
  obtain ⟨ord, hord, hfn⟩ := hf
  have hll : l.length = x.length + c.length + d.length + y.length := by rw [hl]; simp; omega
  refine AFn.introX (E := En 1 (md1 [156, 172])) (en_ok 1 _) Try.func156 rfl rfl rfl fun _ hs => ?_
  have hlm : (l.map Ent.enc).length = l.length := List.length_map ..
  have gd : ∀ k (hk : k < d.length), (l.map Ent.enc)[m + k]? = some d[k].enc := fun k hk => by rw [List.getElem?_map, hl, get_r (i := k) (by omega) hk]; rfl
  have gc : ∀ k (hk : k < c.length), (l.map Ent.enc)[a + k]? = some c[k].enc := fun k hk => by rw [List.getElem?_map, hl, get_l (i := k) (by omega) hk]; rfl
  refine Num.mk ((c.length : Nat) : Int) (wrapI' (by omega) (by omega)) ?_
  refine Split.mk fun t ht => ?_
  cases t
  case true => simp at ht; omega
  refine Num.mk ((d.length : Nat) : Int) (wrapI' (by omega) (by omega)) ?_
  refine Split.mk fun t ht => ?_
  cases t
  case true => simp at ht; omega
  refine Num.mk ((a + b : Nat) : Int) (wrapI' (by omega) (by omega)) ?_
  refine Num.mk _ (wrapU (by omega)) ?_
  refine Need.mk (by decide) ?_
  refine Num.mk ((mid : Nat) : Int) (by rw [← hmid]; exact half (by omega)) ?_
  refine Num.mk ((mid + m : Nat) : Int) (wrapI' (by omega) (by omega)) ?_
  refine Split.mk fun t ht => ?_
  cases t
  · first | (simp at ht; done) | (simp at ht; omega) | omega
  refine Num.mk ((mid + m - b : Nat) : Int) (wrapI' (by omega) (by omega)) ?_
  refine Num.mk ((mid + m - 1 : Nat) : Int) (wrapI' (by omega) (by omega)) ?_
  let S : Nat → Nat → St := fun s t => ⟨some (.one (.ref 0 0 (.cell 0))) :: some (av (.int .i64 a)) :: some (av (.int .i64 m)) :: some (av (.int .i64 b)) :: some (av (.func (.func f) #[] #[])) :: none :: none :: none :: none :: none :: none :: none :: none :: none :: none :: none :: none :: none :: some (av (.int .i64 mid)) :: some (av (.int .i64 ((mid + m : Nat) : Int))) :: some (av (.int .i64 s)) :: some (av (.int .i64 t)) :: some (av (.int .i64 ((mid + m - 1 : Nat) : Int))) :: List.replicate 197 none, ⟨0, 1, some [.us 32 (l.map Ent.enc)]⟩ :: List.replicate 220 absent⟩
  refine ALoop.mk (fun n s' => ∃ s t : Nat, mid + m - b ≤ s ∧ s ≤ t ∧ t ≤ mid ∧ n = t - s ∧ (∀ k, mid + m - b ≤ k → k < s → ∀ (i j : Nat) (hi : i < d.length) (hj : j < c.length), i + k + 1 = mid → j + a = k → lt d[i] c[j] = false) ∧ (∀ k, t ≤ k → k < mid → ∀ (i j : Nat) (hi : i < d.length) (hj : j < c.length), i + k + 1 = mid → j + a = k → lt d[i] c[j] = true) ∧ s' = S s t)
    ⟨mid - (mid + m - b), _, Weak.nrm [true, true, true, true, true, false, false, false, false, false, false, false, false, false, false, false, false, false, true, true, true, true, true] [(0, 0)] rfl rfl rfl, mid + m - b, mid, Nat.le_refl _, by omega, Nat.le_refl _, rfl, by intro k hk1 hk2; omega, by intro k hk1 hk2; omega, rfl⟩ ?_
  rintro n' s' ⟨s, t, hs0, hst, htr, rfl, h1, h2, hs⟩
  by_cases hlt : s < t
  · have hk : (s + t) / 2 < mid := by omega
    have hk0 : s ≤ (s + t) / 2 := by omega
    have hi0 : mid - (s + t) / 2 - 1 < d.length := by omega
    have hj0 : (s + t) / 2 - a < c.length := by omega
    have hp : IntKind.i64.wrap (((mid + m - 1 : Nat) : Int) - (((s + t) / 2 : Nat) : Int)) = ((m + (mid - (s + t) / 2 - 1) : Nat) : Int) := wrapI' (by omega) (by omega)
    have gcc : (l.map Ent.enc)[(s + t) / 2]? = some c[(s + t) / 2 - a].enc := by
      have := gc ((s + t) / 2 - a) hj0
      rwa [show a + ((s + t) / 2 - a) = (s + t) / 2 by omega] at this
    by_cases hcmp : lt d[mid - (s + t) / 2 - 1] c[(s + t) / 2 - a] = false
    · have h1' : ∀ k, mid + m - b ≤ k → k < (s + t) / 2 + 1 → ∀ (i j : Nat) (hi : i < d.length) (hj : j < c.length), i + k + 1 = mid → j + a = k → lt d[i] c[j] = false := fun k hk1 hk2 i j hi hj e1 e2 => find_lo hw sc sd hi hj0 (by omega) (by omega) hcmp
      subst hs
      refine Split.mk fun t ht => ?_
      cases t
      · first | (simp at ht; done) | (simp at ht; omega) | omega
      refine Num.mk ((s + t : Nat) : Int) (wrapI' (by omega) (by omega)) ?_
      refine Num.mk _ (wrapU (by omega)) ?_
      refine Need.mk (by decide) ?_
      refine Num.mk _ (half (by omega)) ?_
      refine Num.mk _ hp ?_
      refine Need.mk ⟨by omega, by rw [hlm]; omega⟩ ?_
      refine Row.mk _ (gd _ hi0) ?_
      refine Need.mk ⟨by omega, by rw [hlm]; omega⟩ ?_
      refine Row.mk _ gcc ?_
      refine ACall.mk _ _ (hfn _ _) ?_
      refine Split.mk fun t3 ht3 => ?_
      rw [hord, hcmp] at ht3
      subst ht3
      refine Need.mk rfl ?_
      refine Num.mk _ (wrapS (by omega)) ?_
      exact ⟨t - ((s + t) / 2 + 1), _, by omega, Weak.nrm [true, true, true, true, true, false, false, false, false, false, false, false, false, false, false, false, false, false, true, true, true, true, true] [(0, 0)] rfl rfl rfl, (s + t) / 2 + 1, t, by omega, by omega, htr, rfl, h1', h2, rfl⟩
    · have hcmp : lt d[mid - (s + t) / 2 - 1] c[(s + t) / 2 - a] = true := by simpa using hcmp
      have h2' : ∀ k, (s + t) / 2 ≤ k → k < mid → ∀ (i j : Nat) (hi : i < d.length) (hj : j < c.length), i + k + 1 = mid → j + a = k → lt d[i] c[j] = true := fun k hk1 hk2 i j hi hj e1 e2 => find_hi hw sc sd hi0 hj (by omega) (by omega) hcmp
      subst hs
      refine Split.mk fun t ht => ?_
      cases t
      · first | (simp at ht; done) | (simp at ht; omega) | omega
      refine Num.mk ((s + t : Nat) : Int) (wrapI' (by omega) (by omega)) ?_
      refine Num.mk _ (wrapU (by omega)) ?_
      refine Need.mk (by decide) ?_
      refine Num.mk _ (half (by omega)) ?_
      refine Num.mk _ hp ?_
      refine Need.mk ⟨by omega, by rw [hlm]; omega⟩ ?_
      refine Row.mk _ (gd _ hi0) ?_
      refine Need.mk ⟨by omega, by rw [hlm]; omega⟩ ?_
      refine Row.mk _ gcc ?_
      refine ACall.mk _ _ (hfn _ _) ?_
      refine Split.mk fun t3 ht3 => ?_
      rw [hord, hcmp] at ht3
      subst ht3
      refine Need.mk rfl ?_
      exact ⟨(s + t) / 2 - s, _, by omega, Weak.nrm [true, true, true, true, true, false, false, false, false, false, false, false, false, false, false, false, false, false, true, true, true, true, true] [(0, 0)] rfl rfl rfl, s, (s + t) / 2, hs0, by omega, by omega, rfl, h1, h2', rfl⟩
  · have hst2 : t = s := by omega
    subst hst2
    have hmrg := mrg_find hw sc sd (s := t - a) (t := mid - t) (by omega) (by omega) (fun e1 e2 => h2 t (Nat.le_refl _) (by omega) _ _ _ _ (by omega) (by omega)) (fun e1 e2 => h1 (t - 1) (by omega) (by omega) _ _ _ _ (by omega) (by omega))
    have hend : IntKind.i64.wrap (((mid + m : Nat) : Int) - ((t : Nat) : Int)) = ((mid + m - t : Nat) : Int) := wrapI' (by omega) (by omega)
    by_cases hA : m ≤ t
    · have hsm : t = m := by omega
      have eA : c.drop (t - a) = [] := List.drop_eq_nil_of_le (by omega)
      have eA1 : c.take (t - a) = c := List.take_of_length_le (by omega)
      rw [eA, eA1, mrg_nil] at hmrg
      by_cases hB : t < mid
      · have e0 : l = x ++ c ++ d.take (mid - t) ++ (d.drop (mid - t) ++ y) := by
          rw [hl]
          conv => lhs; rw [← List.take_append_drop (mid - t) d]
          simp only [List.append_assoc]
        have H := ih (mid - a) (by omega) x c (d.take (mid - t)) (d.drop (mid - t) ++ y) l r a t mid e0 (by rw [hr, hmrg]; simp only [List.append_assoc]) ha (by omega) (by rw [List.length_take]; omega) (by omega) (by rw [List.length_take]; omega) sc (srt_take sd _) (by rw [List.length_take]; omega) hx
        subst hs
        refine Split.mk fun t ht => ?_
        cases t
        case true => first | (simp at ht; done) | (simp at ht; omega) | omega
        refine Num.mk _ hend ?_
        refine Split.mk fun t ht => ?_
        cases t
        case true => first | (simp at ht; done) | (simp at ht; omega) | omega
        refine Split.mk fun t ht => ?_
        cases t
        · first | (simp at ht; done) | (simp at ht; omega) | omega
        refine Split.mk fun t ht => ?_
        cases t
        · first | (simp at ht; done) | (simp at ht; omega) | omega
        refine ACall.mk _ _ H ?_
        refine Split.mk fun t ht => ?_
        cases t
        case true => first | (simp at ht; done) | (simp at ht; omega) | omega
        exact Need.mk ⟨[], _, .same, rfl, rfl⟩ trivial
      · have eB : d.take (mid - t) = [] := by rw [show mid - t = 0 by omega]; rfl
        have eB1 : d.drop (mid - t) = d := by rw [show mid - t = 0 by omega]; rfl
        rw [eB, eB1, mrg_nil_r] at hmrg
        have hrl : l = r := by rw [hl, hr, hmrg]; simp only [List.append_assoc]
        subst hs
        refine Split.mk fun t ht => ?_
        cases t
        case true => first | (simp at ht; done) | (simp at ht; omega) | omega
        refine Num.mk _ hend ?_
        refine Split.mk fun t ht => ?_
        cases t
        case true => first | (simp at ht; done) | (simp at ht; omega) | omega
        refine Split.mk fun t ht => ?_
        cases t
        · first | (simp at ht; done) | (simp at ht; omega) | omega
        refine Split.mk fun t ht => ?_
        cases t
        case true => first | (simp at ht; done) | (simp at ht; omega) | omega
        refine Split.mk fun t ht => ?_
        cases t
        case true => first | (simp at ht; done) | (simp at ht; omega) | omega
        exact Need.mk ⟨[], _, .same, rfl, by rw [← hrl]; rfl⟩ trivial
    · by_cases hB : mid ≤ t
      · have hsm : t = mid := by omega
        have eB : d.take (mid - t) = [] := by rw [show mid - t = 0 by omega]; rfl
        have eB1 : d.drop (mid - t) = d := by rw [show mid - t = 0 by omega]; rfl
        rw [eB, eB1, mrg_nil_r] at hmrg
        have H := ih (b - mid) (by omega) (x ++ c.take (t - a)) (c.drop (t - a)) d y l r mid (mid + m - t) b (by rw [hl, List.append_assoc x (c.take (t - a)), List.take_append_drop]) (by rw [hr, hmrg]; simp only [List.append_assoc]) (by rw [List.length_append, List.length_take]; omega) (by rw [List.length_append, List.length_take, List.length_drop]; omega) (by rw [List.length_append, List.length_take, List.length_drop]; omega) (by rw [List.length_drop]; omega) (by omega) (srt_drop sc _) sd (by rw [List.length_drop]; omega) hx
        subst hs
        refine Split.mk fun t ht => ?_
        cases t
        case true => first | (simp at ht; done) | (simp at ht; omega) | omega
        refine Num.mk _ hend ?_
        refine Split.mk fun t ht => ?_
        cases t
        · first | (simp at ht; done) | (simp at ht; omega) | omega
        refine Split.mk fun t ht => ?_
        cases t
        case true => first | (simp at ht; done) | (simp at ht; omega) | omega
        refine Split.mk fun t ht => ?_
        cases t
        · first | (simp at ht; done) | (simp at ht; omega) | omega
        refine Split.mk fun t ht => ?_
        cases t
        case true => first | (simp at ht; done) | (simp at ht; omega) | omega
        refine Split.mk fun t ht => ?_
        cases t
        · first | (simp at ht; done) | (simp at ht; omega) | omega
        refine Split.mk fun t ht => ?_
        cases t
        · first | (simp at ht; done) | (simp at ht; omega) | omega
        refine ACall.mk _ _ H ?_
        exact Need.mk ⟨[], _, .same, rfl, rfl⟩ trivial
      · have e1 : l = x ++ c.take (t - a) ++ c.drop (t - a) ++ d.take (mid - t) ++ (d.drop (mid - t) ++ y) := by
          rw [hl]
          conv => lhs; rw [← List.take_append_drop (t - a) c, ← List.take_append_drop (mid - t) d]
          simp only [List.append_assoc]
        have H1 := slices_rotate f (x ++ c.take (t - a)) (c.drop (t - a)) (d.take (mid - t)) (d.drop (mid - t) ++ y) l (x ++ c.take (t - a) ++ d.take (mid - t) ++ c.drop (t - a) ++ (d.drop (mid - t) ++ y)  ) t m (mid + m - t) e1 rfl (by rw [List.length_append, List.length_take]; omega) (by rw [List.length_append, List.length_take, List.length_drop]; omega) (by rw [List.length_append, List.length_take, List.length_drop, List.length_take]; omega) (by rw [List.length_drop]; omega) (by rw [List.length_take]; omega) hx
        have hlen1 : (x ++ c.take (t - a) ++ d.take (mid - t) ++ c.drop (t - a) ++ (d.drop (mid - t) ++ y)).length ≤ 1099511627776 := by
          simp only [List.length_append, List.length_take, List.length_drop]; omega
        by_cases hC : a < t
        · have H2 := ih (mid - a) (by omega) x (c.take (t - a)) (d.take (mid - t)) (c.drop (t - a) ++ (d.drop (mid - t) ++ y)) (x ++ c.take (t - a) ++ d.take (mid - t) ++ c.drop (t - a) ++ (d.drop (mid - t) ++ y)) (x ++ mrg lt (c.take (t - a)) (d.take (mid - t)) ++ (c.drop (t - a) ++ (d.drop (mid - t) ++ y))) a t mid (by simp only [List.append_assoc]) rfl ha (by rw [List.length_take]; omega) (by rw [List.length_take, List.length_take]; omega) (by rw [List.length_take]; omega) (by rw [List.length_take]; omega) (srt_take sc _) (srt_take sd _) (by rw [List.length_take, List.length_take]; omega) hlen1
          have hlen2 : (x ++ mrg lt (c.take (t - a)) (d.take (mid - t)) ++ (c.drop (t - a) ++ (d.drop (mid - t) ++ y))).length ≤ 1099511627776 := by
            simp only [List.length_append, List.length_take, List.length_drop, mrg_len]; omega
          by_cases hD : mid + m - t < b
          · have H3 := ih (b - mid) (by omega) (x ++ mrg lt (c.take (t - a)) (d.take (mid - t))) (c.drop (t - a)) (d.drop (mid - t)) y (x ++ mrg lt (c.take (t - a)) (d.take (mid - t)) ++ (c.drop (t - a) ++ (d.drop (mid - t) ++ y))) r mid (mid + m - t) b (by simp only [List.append_assoc]) (by rw [hr, hmrg]; simp only [List.append_assoc]) (by simp only [List.length_append, mrg_len, List.length_take]; omega) (by simp only [List.length_append, mrg_len, List.length_take, List.length_drop]; omega) (by simp only [List.length_append, mrg_len, List.length_take, List.length_drop]; omega) (by rw [List.length_drop]; omega) (by rw [List.length_drop]; omega) (srt_drop sc _) (srt_drop sd _) (by rw [List.length_drop, List.length_drop]; omega) hlen2
            subst hs
            refine Split.mk fun t ht => ?_
            cases t
            case true => first | (simp at ht; done) | (simp at ht; omega) | omega
            refine Num.mk _ hend ?_
            refine Split.mk fun t ht => ?_
            cases t
            · first | (simp at ht; done) | (simp at ht; omega) | omega
            refine Split.mk fun t ht => ?_
            cases t
            · first | (simp at ht; done) | (simp at ht; omega) | omega
            refine ACall.mk _ _ H1 ?_
            refine Split.mk fun t ht => ?_
            cases t
            · first | (simp at ht; done) | (simp at ht; omega) | omega
            refine Split.mk fun t ht => ?_
            cases t
            · first | (simp at ht; done) | (simp at ht; omega) | omega
            refine ACall.mk _ _ H2 ?_
            refine Split.mk fun t ht => ?_
            cases t
            · first | (simp at ht; done) | (simp at ht; omega) | omega
            refine Split.mk fun t ht => ?_
            cases t
            · first | (simp at ht; done) | (simp at ht; omega) | omega
            refine ACall.mk _ _ H3 ?_
            exact Need.mk ⟨[], _, .same, rfl, rfl⟩ trivial
          · have eD : d.drop (mid - t) = [] := List.drop_eq_nil_of_le (by omega)
            have hfin : x ++ mrg lt (c.take (t - a)) (d.take (mid - t)) ++ (c.drop (t - a) ++ (d.drop (mid - t) ++ y)) = r := by rw [hr, hmrg, eD, mrg_nil_r]; simp only [List.append_assoc, List.nil_append]
            rw [hfin] at H2
            subst hs
            refine Split.mk fun t ht => ?_
            cases t
            case true => first | (simp at ht; done) | (simp at ht; omega) | omega
            refine Num.mk _ hend ?_
            refine Split.mk fun t ht => ?_
            cases t
            · first | (simp at ht; done) | (simp at ht; omega) | omega
            refine Split.mk fun t ht => ?_
            cases t
            · first | (simp at ht; done) | (simp at ht; omega) | omega
            refine ACall.mk _ _ H1 ?_
            refine Split.mk fun t ht => ?_
            cases t
            · first | (simp at ht; done) | (simp at ht; omega) | omega
            refine Split.mk fun t ht => ?_
            cases t
            · first | (simp at ht; done) | (simp at ht; omega) | omega
            refine ACall.mk _ _ H2 ?_
            refine Split.mk fun t ht => ?_
            cases t
            · first | (simp at ht; done) | (simp at ht; omega) | omega
            refine Split.mk fun t ht => ?_
            cases t
            case true => first | (simp at ht; done) | (simp at ht; omega) | omega
            exact Need.mk ⟨[], _, .same, rfl, rfl⟩ trivial
        · have eC : c.take (t - a) = [] := by rw [show t - a = 0 by omega]; rfl
          have eC1 : c.drop (t - a) = c := by rw [show t - a = 0 by omega]; rfl
          rw [eC, eC1] at hmrg H1 hlen1
          rw [mrg_nil] at hmrg
          by_cases hD : mid + m - t < b
          · have H3 := ih (b - mid) (by omega) (x ++ d.take (mid - t)) c (d.drop (mid - t)) y (x ++ [] ++ d.take (mid - t) ++ c ++ (d.drop (mid - t) ++ y)) r mid (mid + m - t) b (by simp only [List.append_assoc, List.nil_append]) (by rw [hr, hmrg]; simp only [List.append_assoc]) (by simp only [List.length_append, List.length_take]; omega) (by simp only [List.length_append, List.length_take]; omega) (by simp only [List.length_append, List.length_take, List.length_drop]; omega) (by omega) (by rw [List.length_drop]; omega) sc (srt_drop sd _) (by rw [List.length_drop]; omega) hlen1
            subst hs
            refine Split.mk fun t ht => ?_
            cases t
            case true => first | (simp at ht; done) | (simp at ht; omega) | omega
            refine Num.mk _ hend ?_
            refine Split.mk fun t ht => ?_
            cases t
            · first | (simp at ht; done) | (simp at ht; omega) | omega
            refine Split.mk fun t ht => ?_
            cases t
            · first | (simp at ht; done) | (simp at ht; omega) | omega
            refine ACall.mk _ _ H1 ?_
            refine Split.mk fun t ht => ?_
            cases t
            case true => first | (simp at ht; done) | (simp at ht; omega) | omega
            refine Split.mk fun t ht => ?_
            cases t
            · first | (simp at ht; done) | (simp at ht; omega) | omega
            refine Split.mk fun t ht => ?_
            cases t
            · first | (simp at ht; done) | (simp at ht; omega) | omega
            refine ACall.mk _ _ H3 ?_
            exact Need.mk ⟨[], _, .same, rfl, rfl⟩ trivial
          · have eD : d.drop (mid - t) = [] := List.drop_eq_nil_of_le (by omega)
            have hfin : x ++ [] ++ d.take (mid - t) ++ c ++ (d.drop (mid - t) ++ y) = r := by rw [hr, hmrg, eD, mrg_nil_r]; simp only [List.append_assoc, List.nil_append]
            rw [hfin] at H1
            subst hs
            refine Split.mk fun t ht => ?_
            cases t
            case true => first | (simp at ht; done) | (simp at ht; omega) | omega
            refine Num.mk _ hend ?_
            refine Split.mk fun t ht => ?_
            cases t
            · first | (simp at ht; done) | (simp at ht; omega) | omega
            refine Split.mk fun t ht => ?_
            cases t
            · first | (simp at ht; done) | (simp at ht; omega) | omega
            refine ACall.mk _ _ H1 ?_
            refine Split.mk fun t ht => ?_
            cases t
            case true => first | (simp at ht; done) | (simp at ht; omega) | omega
            refine Split.mk fun t ht => ?_
            cases t
            · first | (simp at ht; done) | (simp at ht; omega) | omega
            refine Split.mk fun t ht => ?_
            cases t
            case true => first | (simp at ht; done) | (simp at ht; omega) | omega
            exact Need.mk ⟨[], _, .same, rfl, rfl⟩ trivial
end Go.Proofs.Ytlmdheeammfihaa

namespace Go.Proofs.Ytlmdheeammfihaa
open Go Go.Proofs Ev
set_option maxRecDepth 100000
set_option linter.unusedSimpArgs false
set_option linter.unusedVariables false
set_option maxHeartbeats 8000000
theorem symMerge_lo (f : FuncId) (lt : Ent → Ent → Bool) (hw : Wk lt) (hf : CmpOk f lt) (n : Nat) (ih : ∀ k, k < n → SymM f lt k) (x c d y l r : List Ent) (a m b mid : Nat) (hl : l = x ++ c ++ d ++ y) (hr : r = x ++ mrg lt c d ++ y) (ha : a = x.length) (hm : m = x.length + c.length) (hb : b = x.length + c.length + d.length) (hc : 1 < c.length) (hd : 1 < d.length) (sc : Srt lt c) (sd : Srt lt d) (hcd : c.length + d.length ≤ n) (hx : l.length ≤ 1099511627776) (hmid : (a + b) / 2 = mid) (hwh : m ≤ mid) :
    AFn Try.prog 156 [.one (.ref 0 0 (.cell 0)), av (.int .i64 a), av (.int .i64 m), av (.int .i64 b), av (.func (.func f) #[] #[])] [[.us 32 (l.map Ent.enc)]] (.tup []) [[.us 32 (r.map Ent.enc)]] := by
  obtain ⟨ord, hord, hfn⟩ := hf
  have hll : l.length = x.length + c.length + d.length + y.length := by rw [hl]; simp; omega
  refine AFn.introX (E := En 1 (md1 [156, 172])) (en_ok 1 _) Try.func156 rfl rfl rfl fun _ hs => ?_
  have hlm : (l.map Ent.enc).length = l.length := List.length_map ..
  have gd : ∀ k (hk : k < d.length), (l.map Ent.enc)[m + k]? = some d[k].enc := fun k hk => by rw [List.getElem?_map, hl, get_r (i := k) (by omega) hk]; rfl
  have gc : ∀ k (hk : k < c.length), (l.map Ent.enc)[a + k]? = some c[k].enc := fun k hk => by rw [List.getElem?_map, hl, get_l (i := k) (by omega) hk]; rfl
  refine Num.mk ((c.length : Nat) : Int) (wrapI' (by omega) (by omega)) ?_
  refine Split.mk fun t ht => ?_
  cases t
  case true => simp at ht; omega
  refine Num.mk ((d.length : Nat) : Int) (wrapI' (by omega) (by omega)) ?_
  refine Split.mk fun t ht => ?_
  cases t
  case true => simp at ht; omega
  refine Num.mk ((a + b : Nat) : Int) (wrapI' (by omega) (by omega)) ?_
  refine Num.mk _ (wrapU (by omega)) ?_
  refine Need.mk (by decide) ?_
  refine Num.mk ((mid : Nat) : Int) (by rw [← hmid]; exact half (by omega)) ?_
  refine Num.mk ((mid + m : Nat) : Int) (wrapI' (by omega) (by omega)) ?_
  refine Split.mk fun t ht => ?_
  cases t
  case true => first | (simp at ht; done) | (simp at ht; omega) | omega
  refine Num.mk ((mid + m - 1 : Nat) : Int) (wrapI' (by omega) (by omega)) ?_
  let S : Nat → Nat → St := fun s t => ⟨some (.one (.ref 0 0 (.cell 0))) :: some (av (.int .i64 a)) :: some (av (.int .i64 m)) :: some (av (.int .i64 b)) :: some (av (.func (.func f) #[] #[])) :: none :: none :: none :: none :: none :: none :: none :: none :: none :: none :: none :: none :: none :: some (av (.int .i64 mid)) :: some (av (.int .i64 ((mid + m : Nat) : Int))) :: some (av (.int .i64 s)) :: some (av (.int .i64 t)) :: some (av (.int .i64 ((mid + m - 1 : Nat) : Int))) :: List.replicate 197 none, ⟨0, 1, some [.us 32 (l.map Ent.enc)]⟩ :: List.replicate 220 absent⟩
  refine ALoop.mk (fun n s' => ∃ s t : Nat, a ≤ s ∧ s ≤ t ∧ t ≤ m ∧ n = t - s ∧ (∀ k, a ≤ k → k < s → ∀ (i j : Nat) (hi : i < d.length) (hj : j < c.length), i + k + 1 = mid → j + a = k → lt d[i] c[j] = false) ∧ (∀ k, t ≤ k → k < m → ∀ (i j : Nat) (hi : i < d.length) (hj : j < c.length), i + k + 1 = mid → j + a = k → lt d[i] c[j] = true) ∧ s' = S s t)
    ⟨m - (a), _, Weak.nrm [true, true, true, true, true, false, false, false, false, false, false, false, false, false, false, false, false, false, true, true, true, true, true] [(0, 0)] rfl rfl rfl, a, m, Nat.le_refl _, by omega, Nat.le_refl _, rfl, by intro k hk1 hk2; omega, by intro k hk1 hk2; omega, rfl⟩ ?_
  rintro n' s' ⟨s, t, hs0, hst, htr, rfl, h1, h2, hs⟩
  by_cases hlt : s < t
  · have hk : (s + t) / 2 < m := by omega
    have hk0 : s ≤ (s + t) / 2 := by omega
    have hi0 : mid - (s + t) / 2 - 1 < d.length := by omega
    have hj0 : (s + t) / 2 - a < c.length := by omega
    have hp : IntKind.i64.wrap (((mid + m - 1 : Nat) : Int) - (((s + t) / 2 : Nat) : Int)) = ((m + (mid - (s + t) / 2 - 1) : Nat) : Int) := wrapI' (by omega) (by omega)
    have gcc : (l.map Ent.enc)[(s + t) / 2]? = some c[(s + t) / 2 - a].enc := by
      have := gc ((s + t) / 2 - a) hj0
      rwa [show a + ((s + t) / 2 - a) = (s + t) / 2 by omega] at this
    by_cases hcmp : lt d[mid - (s + t) / 2 - 1] c[(s + t) / 2 - a] = false
    · have h1' : ∀ k, a ≤ k → k < (s + t) / 2 + 1 → ∀ (i j : Nat) (hi : i < d.length) (hj : j < c.length), i + k + 1 = mid → j + a = k → lt d[i] c[j] = false := fun k hk1 hk2 i j hi hj e1 e2 => find_lo hw sc sd hi hj0 (by omega) (by omega) hcmp
      subst hs
      refine Split.mk fun t ht => ?_
      cases t
      · first | (simp at ht; done) | (simp at ht; omega) | omega
      refine Num.mk ((s + t : Nat) : Int) (wrapI' (by omega) (by omega)) ?_
      refine Num.mk _ (wrapU (by omega)) ?_
      refine Need.mk (by decide) ?_
      refine Num.mk _ (half (by omega)) ?_
      refine Num.mk _ hp ?_
      refine Need.mk ⟨by omega, by rw [hlm]; omega⟩ ?_
      refine Row.mk _ (gd _ hi0) ?_
      refine Need.mk ⟨by omega, by rw [hlm]; omega⟩ ?_
      refine Row.mk _ gcc ?_
      refine ACall.mk _ _ (hfn _ _) ?_
      refine Split.mk fun t3 ht3 => ?_
      rw [hord, hcmp] at ht3
      subst ht3
      refine Need.mk rfl ?_
      refine Num.mk _ (wrapS (by omega)) ?_
      exact ⟨t - ((s + t) / 2 + 1), _, by omega, Weak.nrm [true, true, true, true, true, false, false, false, false, false, false, false, false, false, false, false, false, false, true, true, true, true, true] [(0, 0)] rfl rfl rfl, (s + t) / 2 + 1, t, by omega, by omega, htr, rfl, h1', h2, rfl⟩
    · have hcmp : lt d[mid - (s + t) / 2 - 1] c[(s + t) / 2 - a] = true := by simpa using hcmp
      have h2' : ∀ k, (s + t) / 2 ≤ k → k < m → ∀ (i j : Nat) (hi : i < d.length) (hj : j < c.length), i + k + 1 = mid → j + a = k → lt d[i] c[j] = true := fun k hk1 hk2 i j hi hj e1 e2 => find_hi hw sc sd hi0 hj (by omega) (by omega) hcmp
      subst hs
      refine Split.mk fun t ht => ?_
      cases t
      · first | (simp at ht; done) | (simp at ht; omega) | omega
      refine Num.mk ((s + t : Nat) : Int) (wrapI' (by omega) (by omega)) ?_
      refine Num.mk _ (wrapU (by omega)) ?_
      refine Need.mk (by decide) ?_
      refine Num.mk _ (half (by omega)) ?_
      refine Num.mk _ hp ?_
      refine Need.mk ⟨by omega, by rw [hlm]; omega⟩ ?_
      refine Row.mk _ (gd _ hi0) ?_
      refine Need.mk ⟨by omega, by rw [hlm]; omega⟩ ?_
      refine Row.mk _ gcc ?_
      refine ACall.mk _ _ (hfn _ _) ?_
      refine Split.mk fun t3 ht3 => ?_
      rw [hord, hcmp] at ht3
      subst ht3
      refine Need.mk rfl ?_
      exact ⟨(s + t) / 2 - s, _, by omega, Weak.nrm [true, true, true, true, true, false, false, false, false, false, false, false, false, false, false, false, false, false, true, true, true, true, true] [(0, 0)] rfl rfl rfl, s, (s + t) / 2, hs0, by omega, by omega, rfl, h1, h2', rfl⟩
  · have hst2 : t = s := by omega
    subst hst2
    have hmrg := mrg_find hw sc sd (s := t - a) (t := mid - t) (by omega) (by omega) (fun e1 e2 => h2 t (Nat.le_refl _) (by omega) _ _ _ _ (by omega) (by omega)) (fun e1 e2 => h1 (t - 1) (by omega) (by omega) _ _ _ _ (by omega) (by omega))
    have hend : IntKind.i64.wrap (((mid + m : Nat) : Int) - ((t : Nat) : Int)) = ((mid + m - t : Nat) : Int) := wrapI' (by omega) (by omega)
    by_cases hA : m ≤ t
    · have hsm : t = m := by omega
      have eA : c.drop (t - a) = [] := List.drop_eq_nil_of_le (by omega)
      have eA1 : c.take (t - a) = c := List.take_of_length_le (by omega)
      rw [eA, eA1, mrg_nil] at hmrg
      by_cases hB : t < mid
      · have e0 : l = x ++ c ++ d.take (mid - t) ++ (d.drop (mid - t) ++ y) := by
          rw [hl]
          conv => lhs; rw [← List.take_append_drop (mid - t) d]
          simp only [List.append_assoc]
        have H := ih (mid - a) (by omega) x c (d.take (mid - t)) (d.drop (mid - t) ++ y) l r a t mid e0 (by rw [hr, hmrg]; simp only [List.append_assoc]) ha (by omega) (by rw [List.length_take]; omega) (by omega) (by rw [List.length_take]; omega) sc (srt_take sd _) (by rw [List.length_take]; omega) hx
        subst hs
        refine Split.mk fun t ht => ?_
        cases t
        case true => first | (simp at ht; done) | (simp at ht; omega) | omega
        refine Num.mk _ hend ?_
        refine Split.mk fun t ht => ?_
        cases t
        case true => first | (simp at ht; done) | (simp at ht; omega) | omega
        refine Split.mk fun t ht => ?_
        cases t
        · first | (simp at ht; done) | (simp at ht; omega) | omega
        refine Split.mk fun t ht => ?_
        cases t
        · first | (simp at ht; done) | (simp at ht; omega) | omega
        refine ACall.mk _ _ H ?_
        refine Split.mk fun t ht => ?_
        cases t
        case true => first | (simp at ht; done) | (simp at ht; omega) | omega
        exact Need.mk ⟨[], _, .same, rfl, rfl⟩ trivial
      · have eB : d.take (mid - t) = [] := by rw [show mid - t = 0 by omega]; rfl
        have eB1 : d.drop (mid - t) = d := by rw [show mid - t = 0 by omega]; rfl
        rw [eB, eB1, mrg_nil_r] at hmrg
        have hrl : l = r := by rw [hl, hr, hmrg]; simp only [List.append_assoc]
        subst hs
        refine Split.mk fun t ht => ?_
        cases t
        case true => first | (simp at ht; done) | (simp at ht; omega) | omega
        refine Num.mk _ hend ?_
        refine Split.mk fun t ht => ?_
        cases t
        case true => first | (simp at ht; done) | (simp at ht; omega) | omega
        refine Split.mk fun t ht => ?_
        cases t
        · first | (simp at ht; done) | (simp at ht; omega) | omega
        refine Split.mk fun t ht => ?_
        cases t
        case true => first | (simp at ht; done) | (simp at ht; omega) | omega
        refine Split.mk fun t ht => ?_
        cases t
        case true => first | (simp at ht; done) | (simp at ht; omega) | omega
        exact Need.mk ⟨[], _, .same, rfl, by rw [← hrl]; rfl⟩ trivial
    · by_cases hB : mid ≤ t
      · have hsm : t = mid := by omega
        have eB : d.take (mid - t) = [] := by rw [show mid - t = 0 by omega]; rfl
        have eB1 : d.drop (mid - t) = d := by rw [show mid - t = 0 by omega]; rfl
        rw [eB, eB1, mrg_nil_r] at hmrg
        have H := ih (b - mid) (by omega) (x ++ c.take (t - a)) (c.drop (t - a)) d y l r mid (mid + m - t) b (by rw [hl, List.append_assoc x (c.take (t - a)), List.take_append_drop]) (by rw [hr, hmrg]; simp only [List.append_assoc]) (by rw [List.length_append, List.length_take]; omega) (by rw [List.length_append, List.length_take, List.length_drop]; omega) (by rw [List.length_append, List.length_take, List.length_drop]; omega) (by rw [List.length_drop]; omega) (by omega) (srt_drop sc _) sd (by rw [List.length_drop]; omega) hx
        subst hs
        refine Split.mk fun t ht => ?_
        cases t
        case true => first | (simp at ht; done) | (simp at ht; omega) | omega
        refine Num.mk _ hend ?_
        refine Split.mk fun t ht => ?_
        cases t
        · first | (simp at ht; done) | (simp at ht; omega) | omega
        refine Split.mk fun t ht => ?_
        cases t
        case true => first | (simp at ht; done) | (simp at ht; omega) | omega
        refine Split.mk fun t ht => ?_
        cases t
        · first | (simp at ht; done) | (simp at ht; omega) | omega
        refine Split.mk fun t ht => ?_
        cases t
        case true => first | (simp at ht; done) | (simp at ht; omega) | omega
        refine Split.mk fun t ht => ?_
        cases t
        · first | (simp at ht; done) | (simp at ht; omega) | omega
        refine Split.mk fun t ht => ?_
        cases t
        · first | (simp at ht; done) | (simp at ht; omega) | omega
        refine ACall.mk _ _ H ?_
        exact Need.mk ⟨[], _, .same, rfl, rfl⟩ trivial
      · have e1 : l = x ++ c.take (t - a) ++ c.drop (t - a) ++ d.take (mid - t) ++ (d.drop (mid - t) ++ y) := by
          rw [hl]
          conv => lhs; rw [← List.take_append_drop (t - a) c, ← List.take_append_drop (mid - t) d]
          simp only [List.append_assoc]
        have H1 := slices_rotate f (x ++ c.take (t - a)) (c.drop (t - a)) (d.take (mid - t)) (d.drop (mid - t) ++ y) l (x ++ c.take (t - a) ++ d.take (mid - t) ++ c.drop (t - a) ++ (d.drop (mid - t) ++ y)  ) t m (mid + m - t) e1 rfl (by rw [List.length_append, List.length_take]; omega) (by rw [List.length_append, List.length_take, List.length_drop]; omega) (by rw [List.length_append, List.length_take, List.length_drop, List.length_take]; omega) (by rw [List.length_drop]; omega) (by rw [List.length_take]; omega) hx
        have hlen1 : (x ++ c.take (t - a) ++ d.take (mid - t) ++ c.drop (t - a) ++ (d.drop (mid - t) ++ y)).length ≤ 1099511627776 := by
          simp only [List.length_append, List.length_take, List.length_drop]; omega
        by_cases hC : a < t
        · have H2 := ih (mid - a) (by omega) x (c.take (t - a)) (d.take (mid - t)) (c.drop (t - a) ++ (d.drop (mid - t) ++ y)) (x ++ c.take (t - a) ++ d.take (mid - t) ++ c.drop (t - a) ++ (d.drop (mid - t) ++ y)) (x ++ mrg lt (c.take (t - a)) (d.take (mid - t)) ++ (c.drop (t - a) ++ (d.drop (mid - t) ++ y))) a t mid (by simp only [List.append_assoc]) rfl ha (by rw [List.length_take]; omega) (by rw [List.length_take, List.length_take]; omega) (by rw [List.length_take]; omega) (by rw [List.length_take]; omega) (srt_take sc _) (srt_take sd _) (by rw [List.length_take, List.length_take]; omega) hlen1
          have hlen2 : (x ++ mrg lt (c.take (t - a)) (d.take (mid - t)) ++ (c.drop (t - a) ++ (d.drop (mid - t) ++ y))).length ≤ 1099511627776 := by
            simp only [List.length_append, List.length_take, List.length_drop, mrg_len]; omega
          by_cases hD : mid + m - t < b
          · have H3 := ih (b - mid) (by omega) (x ++ mrg lt (c.take (t - a)) (d.take (mid - t))) (c.drop (t - a)) (d.drop (mid - t)) y (x ++ mrg lt (c.take (t - a)) (d.take (mid - t)) ++ (c.drop (t - a) ++ (d.drop (mid - t) ++ y))) r mid (mid + m - t) b (by simp only [List.append_assoc]) (by rw [hr, hmrg]; simp only [List.append_assoc]) (by simp only [List.length_append, mrg_len, List.length_take]; omega) (by simp only [List.length_append, mrg_len, List.length_take, List.length_drop]; omega) (by simp only [List.length_append, mrg_len, List.length_take, List.length_drop]; omega) (by rw [List.length_drop]; omega) (by rw [List.length_drop]; omega) (srt_drop sc _) (srt_drop sd _) (by rw [List.length_drop, List.length_drop]; omega) hlen2
            subst hs
            refine Split.mk fun t ht => ?_
            cases t
            case true => first | (simp at ht; done) | (simp at ht; omega) | omega
            refine Num.mk _ hend ?_
            refine Split.mk fun t ht => ?_
            cases t
            · first | (simp at ht; done) | (simp at ht; omega) | omega
            refine Split.mk fun t ht => ?_
            cases t
            · first | (simp at ht; done) | (simp at ht; omega) | omega
            refine ACall.mk _ _ H1 ?_
            refine Split.mk fun t ht => ?_
            cases t
            · first | (simp at ht; done) | (simp at ht; omega) | omega
            refine Split.mk fun t ht => ?_
            cases t
            · first | (simp at ht; done) | (simp at ht; omega) | omega
            refine ACall.mk _ _ H2 ?_
            refine Split.mk fun t ht => ?_
            cases t
            · first | (simp at ht; done) | (simp at ht; omega) | omega
            refine Split.mk fun t ht => ?_
            cases t
            · first | (simp at ht; done) | (simp at ht; omega) | omega
            refine ACall.mk _ _ H3 ?_
            exact Need.mk ⟨[], _, .same, rfl, rfl⟩ trivial
          · have eD : d.drop (mid - t) = [] := List.drop_eq_nil_of_le (by omega)
            have hfin : x ++ mrg lt (c.take (t - a)) (d.take (mid - t)) ++ (c.drop (t - a) ++ (d.drop (mid - t) ++ y)) = r := by rw [hr, hmrg, eD, mrg_nil_r]; simp only [List.append_assoc, List.nil_append]
            rw [hfin] at H2
            subst hs
            refine Split.mk fun t ht => ?_
            cases t
            case true => first | (simp at ht; done) | (simp at ht; omega) | omega
            refine Num.mk _ hend ?_
            refine Split.mk fun t ht => ?_
            cases t
            · first | (simp at ht; done) | (simp at ht; omega) | omega
            refine Split.mk fun t ht => ?_
            cases t
            · first | (simp at ht; done) | (simp at ht; omega) | omega
            refine ACall.mk _ _ H1 ?_
            refine Split.mk fun t ht => ?_
            cases t
            · first | (simp at ht; done) | (simp at ht; omega) | omega
            refine Split.mk fun t ht => ?_
            cases t
            · first | (simp at ht; done) | (simp at ht; omega) | omega
            refine ACall.mk _ _ H2 ?_
            refine Split.mk fun t ht => ?_
            cases t
            · first | (simp at ht; done) | (simp at ht; omega) | omega
            refine Split.mk fun t ht => ?_
            cases t
            case true => first | (simp at ht; done) | (simp at ht; omega) | omega
            exact Need.mk ⟨[], _, .same, rfl, rfl⟩ trivial
        · have eC : c.take (t - a) = [] := by rw [show t - a = 0 by omega]; rfl
          have eC1 : c.drop (t - a) = c := by rw [show t - a = 0 by omega]; rfl
          rw [eC, eC1] at hmrg H1 hlen1
          rw [mrg_nil] at hmrg
          by_cases hD : mid + m - t < b
          · have H3 := ih (b - mid) (by omega) (x ++ d.take (mid - t)) c (d.drop (mid - t)) y (x ++ [] ++ d.take (mid - t) ++ c ++ (d.drop (mid - t) ++ y)) r mid (mid + m - t) b (by simp only [List.append_assoc, List.nil_append]) (by rw [hr, hmrg]; simp only [List.append_assoc]) (by simp only [List.length_append, List.length_take]; omega) (by simp only [List.length_append, List.length_take]; omega) (by simp only [List.length_append, List.length_take, List.length_drop]; omega) (by omega) (by rw [List.length_drop]; omega) sc (srt_drop sd _) (by rw [List.length_drop]; omega) hlen1
            subst hs
            refine Split.mk fun t ht => ?_
            cases t
            case true => first | (simp at ht; done) | (simp at ht; omega) | omega
            refine Num.mk _ hend ?_
            refine Split.mk fun t ht => ?_
            cases t
            · first | (simp at ht; done) | (simp at ht; omega) | omega
            refine Split.mk fun t ht => ?_
            cases t
            · first | (simp at ht; done) | (simp at ht; omega) | omega
            refine ACall.mk _ _ H1 ?_
            refine Split.mk fun t ht => ?_
            cases t
            case true => first | (simp at ht; done) | (simp at ht; omega) | omega
            refine Split.mk fun t ht => ?_
            cases t
            · first | (simp at ht; done) | (simp at ht; omega) | omega
            refine Split.mk fun t ht => ?_
            cases t
            · first | (simp at ht; done) | (simp at ht; omega) | omega
            refine ACall.mk _ _ H3 ?_
            exact Need.mk ⟨[], _, .same, rfl, rfl⟩ trivial
          · have eD : d.drop (mid - t) = [] := List.drop_eq_nil_of_le (by omega)
            have hfin : x ++ [] ++ d.take (mid - t) ++ c ++ (d.drop (mid - t) ++ y) = r := by rw [hr, hmrg, eD, mrg_nil_r]; simp only [List.append_assoc, List.nil_append]
            rw [hfin] at H1
            subst hs
            refine Split.mk fun t ht => ?_
            cases t
            case true => first | (simp at ht; done) | (simp at ht; omega) | omega
            refine Num.mk _ hend ?_
            refine Split.mk fun t ht => ?_
            cases t
            · first | (simp at ht; done) | (simp at ht; omega) | omega
            refine Split.mk fun t ht => ?_
            cases t
            · first | (simp at ht; done) | (simp at ht; omega) | omega
            refine ACall.mk _ _ H1 ?_
            refine Split.mk fun t ht => ?_
            cases t
            case true => first | (simp at ht; done) | (simp at ht; omega) | omega
            refine Split.mk fun t ht => ?_
            cases t
            · first | (simp at ht; done) | (simp at ht; omega) | omega
            refine Split.mk fun t ht => ?_
            cases t
            case true => first | (simp at ht; done) | (simp at ht; omega) | omega
            exact Need.mk ⟨[], _, .same, rfl, rfl⟩ trivial
end Go.Proofs.Ytlmdheeammfihaa

namespace Go.Proofs.Ytlmdheeammfihaa
open Go Go.Proofs Ev
set_option maxRecDepth 100000
set_option linter.unusedSimpArgs false
set_option linter.unusedVariables false
theorem slices_symMerge (f : FuncId) (lt : Ent → Ent → Bool) (hw : Wk lt) (hf : CmpOk f lt) : ∀ n, SymM f lt n := by
  intro n
  induction n using Nat.strongRecOn with
  | _ n ih =>
    intro x c d y l r a m b hl hr ha hm hb hc hd sc sd hcd hx
    by_cases h1 : c.length = 1
    · exact symMerge_left f lt hw hf x c d y l r a m b hl hr ha hm hb h1 hd sd hx
    · by_cases h2 : d.length = 1
      · exact symMerge_right f lt hw hf x c d y l r a m b hl hr ha hm hb (by omega) h2 sc hx
      · by_cases h3 : (a + b) / 2 < m
        · exact symMerge_hi f lt hw hf n ih x c d y l r a m b _ hl hr ha hm hb (by omega) (by omega) sc sd hcd hx rfl h3
        · exact symMerge_lo f lt hw hf n ih x c d y l r a m b _ hl hr ha hm hb (by omega) (by omega) sc sd hcd hx rfl (by omega)
end Go.Proofs.Ytlmdheeammfihaa

namespace Go.Proofs.Ytlmdheeammfihaa
open Go Go.Proofs Ev
set_option maxRecDepth 100000
set_option linter.unusedSimpArgs false
set_option linter.unusedVariables false
theorem ins_call (f : FuncId) (lt : Ent → Ent → Bool) (hf : CmpOk f lt) (l r : List Ent) (a b : Nat) (hr : r = sortRange lt l a b) (hab : a ≤ b) (hb : b ≤ l.length) (hx : l.length ≤ 1099511627776) :
    AFn Try.prog 155 [.one (.ref 0 0 (.cell 0)), av (.int .i64 a), av (.int .i64 b), av (.func (.func f) #[] #[])] [[.us 32 (l.map Ent.enc)]] (.tup []) [[.us 32 (r.map Ent.enc)]] := by
  subst hr; exact slices_insertionSort f lt hf l a b hab hb hx
set_option maxHeartbeats 2000000
theorem slices_stable (f : FuncId) (lt : Ent → Ent → Bool) (hw : Wk lt) (hf : CmpOk f lt) (xs : List Ent) (n : Nat) (hn : n = xs.length) (hx : xs.length ≤ 1099511627776) :
    AFn Try.prog 120 [.one (.ref 0 0 (.cell 0)), av (.int .i64 n), av (.func (.func f) #[] #[])] [[.us 32 (xs.map Ent.enc)]] (.tup []) [[.us 32 ((isort lt xs).map Ent.enc)]] := by
  refine AFn.introX (E := En 1 (md1 [156, 155])) (en_ok 1 _) Try.func120 rfl rfl rfl fun _ hs => ?_
  let S : List Ent → Nat → Option AV → Option AV → St := fun ys w a b => ⟨some (.one (.ref 0 0 (.cell 0))) :: some (av (.int .i64 n)) :: some (av (.func (.func f) #[] #[])) :: none :: none :: none :: some (av (.int .i64 w)) :: a :: b :: List.replicate 54 none, ⟨0, 1, some [.us 32 (ys.map Ent.enc)]⟩ :: List.replicate 63 absent⟩
  refine ALoop.mk (fun k s => ∃ j : Nat, 20 * j ≤ n ∧ k = n - 20 * j ∧ s = S (sb lt 20 j xs ++ xs.drop (20 * j)) 20 (some (av (.int .i64 ((20 * j : Nat) : Int)))) (some (av (.int .i64 ((20 * j + 20 : Nat) : Int)))))
    ⟨n, _, Weak.nrm [true, true, true, false, false, false, true, true, true] [(0, 0)] rfl rfl rfl, 0, Nat.zero_le _, rfl, rfl⟩ ?_
  rintro k s ⟨j, hj, rfl, hs⟩
  have hsl : (sb lt 20 j xs).length = 20 * j := sb_len lt 20 j xs (by omega)
  have hyl : (sb lt 20 j xs ++ xs.drop (20 * j)).length = xs.length := by rw [List.length_append, hsl, List.length_drop]; omega
  by_cases hb : 20 * j + 20 ≤ n
  · have H := ins_call f lt hf (sb lt 20 j xs ++ xs.drop (20 * j)) (sb lt 20 (j + 1) xs ++ xs.drop (20 * (j + 1))) (20 * j) (20 * j + 20) (by rw [sortRange_app lt hsl.symm (by omega), sb_snoc, List.drop_drop, show 20 * j + 20 - 20 * j = 20 by omega, show 20 * j + 20 = 20 * (j + 1) by omega]) (by omega) (by rw [hyl]; omega) (by rw [hyl]; exact hx)
    subst hs
    refine Split.mk fun t ht => ?_
    cases t
    · simp at ht; omega
    refine ACall.mk _ _ H ?_
    refine Num.mk ((20 * j + 20 + 20 : Nat) : Int) (wrapI' (by omega) (by omega)) ?_
    exact ⟨n - 20 * (j + 1), _, by omega, Weak.nrm [true, true, true, false, false, false, true, true, true] [(0, 0)] rfl rfl rfl, j + 1, by omega, rfl, rfl⟩
  · have H := ins_call f lt hf (sb lt 20 j xs ++ xs.drop (20 * j)) (tl lt 20 xs) (20 * j) n (by
      have e1 : (xs.drop (20 * j)).take (n - 20 * j) = xs.drop (20 * j) := List.take_of_length_le (by rw [List.length_drop]; omega)
      have e2 : (xs.drop (20 * j)).drop (n - 20 * j) = [] := List.drop_eq_nil_of_le (by rw [List.length_drop]; omega)
      rw [sortRange_app lt hsl.symm (by omega), e1, e2, List.append_nil, ← sb_tl lt (w := 20) (by omega) j xs, tl_short lt (w := 20) (by omega) (by rw [List.length_drop]; omega)]) (by omega) (by rw [hyl]; omega) (by rw [hyl]; exact hx)
    subst hs
    refine Split.mk fun t ht => ?_
    cases t
    case true => simp at ht; omega
    refine ACall.mk _ _ H ?_
    refine ALoop.mk (fun k s => ∃ w : Nat, 20 ≤ w ∧ (w < 2 * n ∨ w = 20) ∧ k = n - w ∧ s = S (tl lt w xs) w none none)
      ⟨n - 20, _, Weak.nrm [true, true, true, false, false, false, true] [(0, 0)] rfl rfl rfl, 20, Nat.le_refl _, .inr rfl, rfl, rfl⟩ ?_
    rintro k s ⟨w, hw20, hw2, rfl, hs⟩
    by_cases hwn : n ≤ w
    · rw [tl_short lt (by omega) (by omega)] at hs
      subst hs
      refine Split.mk fun t ht => ?_
      cases t
      · exact Need.mk ⟨[], _, .same, rfl, rfl⟩ trivial
      · simp at ht; omega
    · subst hs
      refine Split.mk fun t ht => ?_
      cases t
      · simp at ht; omega
      refine Num.mk ((2 * w : Nat) : Int) (wrapI' (by omega) (by omega)) ?_
      refine ALoop.mk (fun k s => ∃ j p : Nat, p = 2 * w * j ∧ p ≤ n ∧ k = n - p ∧ s = S (sb lt (2 * w) j xs ++ tl lt w (xs.drop (p))) w (some (av (.int .i64 ((p : Nat) : Int)))) (some (av (.int .i64 ((p + 2 * w : Nat) : Int)))))
        ⟨n, _, Weak.nrm [true, true, true, false, false, false, true, true, true] [(0, 0)] rfl rfl rfl, 0, 0, rfl, Nat.zero_le _, rfl, by rw [Nat.zero_add]; rfl⟩ ?_
      rintro k s ⟨j, p, hp, hj, rfl, hs⟩
      have hsl : (sb lt (2 * w) j xs).length = p := hp ▸ sb_len lt (2 * w) j xs (by rw [← hp]; omega)
      have htl : (tl lt w (xs.drop (p))).length = xs.length - p := by rw [tl_len lt (by omega) _ _ (Nat.le_refl _), List.length_drop]
      have hyl : (sb lt (2 * w) j xs ++ tl lt w (xs.drop (p))).length = xs.length := by rw [List.length_append, hsl, htl]; omega
      have hmul : p + 2 * w = 2 * w * (j + 1) := by rw [hp]; exact (Nat.mul_succ _ _).symm
      have c1 := tl_cons lt (w := w) (by omega) (xs.drop (p))
      by_cases hb : p + 2 * w ≤ n
      · have c2 := tl_cons lt (w := w) (by omega) ((xs.drop (p)).drop w)
        have hlen1 : ((xs.drop (p)).take w).length = w := by rw [List.length_take, List.length_drop]; omega
        have hlen2 : (((xs.drop (p)).drop w).take w).length = w := by rw [List.length_take, List.length_drop, List.length_drop]; omega
        have htk : (xs.drop (p)).take (2 * w) = (xs.drop (p)).take w ++ ((xs.drop (p)).drop w).take w := by rw [← List.take_add, show w + w = 2 * w by omega]
        have e3 : ((xs.drop (p)).drop w).drop w = xs.drop (p + 2 * w) := by rw [List.drop_drop, List.drop_drop]; congr 1; omega
        have H := slices_symMerge f lt hw hf (2 * w) (sb lt (2 * w) j xs) (isort lt ((xs.drop (p)).take w)) (isort lt (((xs.drop (p)).drop w).take w)) (tl lt w (((xs.drop (p)).drop w).drop w)) (sb lt (2 * w) j xs ++ tl lt w (xs.drop (p))) (sb lt (2 * w) (j + 1) xs ++ tl lt w (xs.drop (p + 2 * w))) (p) (p + w) (p + 2 * w)
          (by rw [c1, c2]; simp only [List.append_assoc]) (by rw [sb_snoc, ← hp, htk, isort_app hw, e3]) hsl.symm (by rw [isort_len]; omega) (by rw [isort_len, isort_len]; omega) (by rw [isort_len]; omega) (by rw [isort_len]; omega) (srt_isort hw _) (srt_isort hw _) (by rw [isort_len, isort_len]; omega) (by rw [hyl]; exact hx)
        subst hs
        refine Split.mk fun t ht => ?_
        cases t
        · simp at ht; omega
        refine Num.mk ((p + w : Nat) : Int) (wrapI' (by omega) (by omega)) ?_
        refine ACall.mk _ _ H ?_
        refine Num.mk ((2 * w : Nat) : Int) (wrapI' (by omega) (by omega)) ?_
        refine Num.mk ((p + 2 * w + 2 * w : Nat) : Int) (wrapI' (by omega) (by omega)) ?_
        refine ⟨n - (p + 2 * w), _, by omega, Weak.nrm [true, true, true, false, false, false, true, true, true] [(0, 0)] rfl rfl rfl, j + 1, p + 2 * w, hmul, by omega, rfl, rfl⟩
      · have fin : sb lt (2 * w) j xs ++ tl lt (2 * w) (xs.drop (p)) = tl lt (2 * w) xs := hp ▸ sb_tl lt (by omega) j xs
        rw [tl_short lt (w := 2 * w) (by omega) (by rw [List.length_drop]; omega)] at fin
        by_cases hm : p + w < n
        · have c2 := tl_short lt (w := w) (by omega) (l := (xs.drop (p)).drop w) (by rw [List.length_drop, List.length_drop]; omega)
          have hlen1 : ((xs.drop (p)).take w).length = w := by rw [List.length_take, List.length_drop]; omega
          have hlen2 : ((xs.drop (p)).drop w).length = n - (p + w) := by rw [List.length_drop, List.length_drop]; omega
          have H := slices_symMerge f lt hw hf (2 * w) (sb lt (2 * w) j xs) (isort lt ((xs.drop (p)).take w)) (isort lt ((xs.drop (p)).drop w)) [] (sb lt (2 * w) j xs ++ tl lt w (xs.drop (p))) (tl lt (2 * w) xs) (p) (p + w) n
            (by rw [c1, c2]; simp only [List.append_assoc, List.append_nil]) (by rw [← isort_app hw, List.take_append_drop, List.append_nil, fin]) hsl.symm (by rw [isort_len]; omega) (by rw [isort_len, isort_len]; omega) (by rw [isort_len]; omega) (by rw [isort_len]; omega) (srt_isort hw _) (srt_isort hw _) (by rw [isort_len, isort_len]; omega) (by rw [hyl]; exact hx)
          subst hs
          refine Split.mk fun t ht => ?_
          cases t
          case true => simp at ht; omega
          refine Num.mk ((p + w : Nat) : Int) (wrapI' (by omega) (by omega)) ?_
          refine Split.mk fun t ht => ?_
          cases t
          · simp at ht; omega
          refine ACall.mk _ _ H ?_
          refine Num.mk ((2 * w : Nat) : Int) (wrapI' (by omega) (by omega)) ?_
          exact ⟨n - 2 * w, _, by omega, Weak.nrm [true, true, true, false, false, false, true] [(0, 0)] rfl rfl rfl, 2 * w, by omega, .inl (by omega), rfl, rfl⟩
        · rw [tl_short lt (w := w) (by omega) (by rw [List.length_drop]; omega), fin] at hs
          subst hs
          refine Split.mk fun t ht => ?_
          cases t
          case true => simp at ht; omega
          refine Num.mk ((p + w : Nat) : Int) (wrapI' (by omega) (by omega)) ?_
          refine Split.mk fun t ht => ?_
          cases t
          case true => simp at ht; omega
          refine Num.mk ((2 * w : Nat) : Int) (wrapI' (by omega) (by omega)) ?_
          exact ⟨n - 2 * w, _, by omega, Weak.nrm [true, true, true, false, false, false, true] [(0, 0)] rfl rfl rfl, 2 * w, by omega, .inl (by omega), rfl, rfl⟩
theorem slices_SortStable (f : FuncId) (lt : Ent → Ent → Bool) (hw : Wk lt) (hf : CmpOk f lt) (xs : List Ent) (hx : xs.length ≤ 1099511627776) :
    AFn Try.prog 62 [.one (.ref 0 0 (.cell 0)), av (.func (.func f) #[] #[])] [[.us 32 (xs.map Ent.enc)]] (.tup []) [[.us 32 ((isort lt xs).map Ent.enc)]] := by
  refine AFn.introX (E := En 1 (md1 [120])) (en_ok 1 _) Try.func62 rfl rfl rfl fun _ hs => ?_
  refine ACall.mk _ _ (slices_stable f lt hw hf xs (xs.map Ent.enc).length (List.length_map ..) hx) ?_
  exact Need.mk ⟨[], _, .same, rfl, rfl⟩ trivial
end Go.Proofs.Ytlmdheeammfihaa

namespace Go.Proofs.Ytlmdheeammfihaa
open Go Go.Proofs Ev
set_option maxRecDepth 100000
set_option linter.unusedSimpArgs false
set_option linter.unusedVariables false
theorem cmp_isNaN_S (a : ByteArray) : AFn Try.prog 157 [av (.string a)] [] (rb false) [] := by
  refine AFn.introX (E := En 0 md0) (en_ok 0 md0) Try.func157 rfl rfl rfl fun _ _ => ?_
  refine Split.mk fun t ht => ?_
  cases t
  · exact Need.mk ⟨[], _, .same, rfl, rfl⟩ trivial
  · simp at ht
theorem cmp_Compare_S (a b : ByteArray) : AFn Try.prog 122 [av (.string a), av (.string b)] [] (.one (vi (scmp a b))) [] := by
  refine AFn.introX (E := En 0 md0) (en_ok 0 md0) Try.func122 rfl rfl rfl fun _ _ => ?_
  have fin : ∀ {z : Int}, z = scmp a b → RV.one (vi z) = RV.one (vi (scmp a b)) := fun h => by rw [h]
  refine ACall.mk _ _ (cmp_isNaN_S a) ?_
  refine Split.mk fun t ht => ?_
  cases t
  case true => cases ht
  refine ACall.mk _ _ (cmp_isNaN_S b) ?_
  refine Split.mk fun t ht => ?_
  cases t
  case true => cases ht
  refine Split.mk fun t ht1 => ?_
  have ht1 : slt a b = t := ht1
  cases t
  · refine Split.mk fun t ht2 => ?_
    rw [str_gt] at ht2
    cases t
    · exact Need.mk ⟨[], _, .same, fin (by unfold scmp; simp [ht1, ht2]), rfl⟩ trivial
    · exact Need.mk ⟨[], _, .same, fin (by unfold scmp; simp [ht1, ht2]), rfl⟩ trivial
  · exact Need.mk ⟨[], _, .same, fin (by unfold scmp; simp [ht1]), rfl⟩ trivial
theorem cmp_isNaN_I (a : Int) : AFn Try.prog 129 [av (.int .i64 a)] [] (rb false) [] := by
  refine AFn.introX (E := En 0 md0) (en_ok 0 md0) Try.func129 rfl rfl rfl fun _ _ => ?_
  refine Split.mk fun t ht => ?_
  cases t
  · exact Need.mk ⟨[], _, .same, rfl, rfl⟩ trivial
  · simp at ht
theorem cmp_Compare_I (a b : Int) : AFn Try.prog 77 [av (.int .i64 a), av (.int .i64 b)] [] (.one (vi (icmp a b))) [] := by
  refine AFn.introX (E := En 0 md0) (en_ok 0 md0) Try.func77 rfl rfl rfl fun _ _ => ?_
  have fin : ∀ {z : Int}, z = icmp a b → RV.one (vi z) = RV.one (vi (icmp a b)) := fun h => by rw [h]
  refine ACall.mk _ _ (cmp_isNaN_I a) ?_
  refine Split.mk fun t ht => ?_
  cases t
  case true => cases ht
  refine ACall.mk _ _ (cmp_isNaN_I b) ?_
  refine Split.mk fun t ht => ?_
  cases t
  case true => cases ht
  refine Split.mk fun t ht1 => ?_
  have ht1 : decide (a < b) = t := ht1
  cases t
  · refine Split.mk fun t ht2 => ?_
    have ht2 : decide (b < a) = t := ht2
    cases t
    · exact Need.mk ⟨[], _, .same, fin (by simp at ht1 ht2; simp [icmp]; omega), rfl⟩ trivial
    · exact Need.mk ⟨[], _, .same, fin (by simp at ht1 ht2; simp [icmp]; omega), rfl⟩ trivial
  · exact Need.mk ⟨[], _, .same, fin (by unfold icmp; simp only [decide_eq_true_eq] at ht1; simp [ht1]), rfl⟩ trivial
theorem cmp_Or (xs : List Int) (hx : xs.length ≤ 1048576) : AFn Try.prog 121 [sl (xs.map encI)] [] (.one (vi (firstNZ xs))) [] := by
  refine AFn.introX (E := En 0 md0) (en_ok 0 md0) Try.func121 rfl rfl rfl fun _ _ => ?_
  have hn : (xs.map encI).length = xs.length := List.length_map ..
  have fin : ∀ {z : Int}, z = firstNZ xs → RV.one (vi z) = RV.one (vi (firstNZ xs)) := fun h => by rw [h]
  refine ALoop.mk (fun m s => ∃ i : Nat, i ≤ xs.length ∧ m = xs.length - i ∧ (∀ x ∈ xs.take i, x = 0) ∧
      s = ⟨some (sl (xs.map encI)) :: none :: some (av (.int .i64 0)) :: some (av (.int .i64 0)) :: none :: none :: some (sl (xs.map encI)) :: some (av (.int .i64 xs.length)) :: some (av (.int .i64 i)) :: List.replicate 9 none, List.replicate 18 absent⟩)
    ⟨xs.length, _, Weak.nrm [true, false, true, true, false, false, true, true, true] [] rfl rfl rfl, 0, Nat.zero_le _, rfl, by simp, by rw [show ((xs.length : Nat) : Int) = ((xs.map encI).length : Nat) by rw [List.length_map]]; rfl⟩ ?_
  rintro m s ⟨i, hi, rfl, hz, rfl⟩
  refine Split.mk fun t ht => ?_
  cases t
  · have hin : i = xs.length := by simp at ht; omega
    subst hin
    rw [List.take_length] at hz
    exact Need.mk ⟨[], _, .same, fin (by have := firstNZ_app (m := []) hz; simpa [firstNZ] using this.symm), rfl⟩ trivial
  · have hia : i < xs.length := by simpa using ht
    refine Need.mk (by omega) ?_
    refine Row.mk _ (map_get _ xs i hia) ?_
    refine Split.mk fun t ht2 => ?_
    have hsp : firstNZ xs = firstNZ (xs[i] :: xs.drop (i + 1)) := by
      conv => lhs; rw [← List.take_append_drop i xs, List.drop_eq_getElem_cons hia]
      exact firstNZ_app hz
    cases t
    · have h0 : xs[i] = 0 := by simpa using ht2
      refine Num.mk _ (wrapS (by omega)) ?_
      refine ⟨xs.length - (i + 1), _, by omega, Weak.nrm [true, false, true, true, false, false, true, true, true] [] rfl rfl rfl, i + 1, by omega, rfl, fun x hx => ?_, rfl⟩
      rw [List.take_succ_eq_append_getElem hia] at hx
      rcases List.mem_append.1 hx with hx | hx
      · exact hz x hx
      · rw [List.mem_singleton.1 hx]; exact h0
    · have h0 : xs[i] ≠ 0 := by simpa using ht2
      exact Need.mk ⟨[], _, .same, fin (by rw [hsp]; simp only [firstNZ]; rw [if_neg h0]), rfl⟩ trivial
theorem impl_entryOrder (a b : Ent) : AFn Try.prog 63 [.agg (a.enc.map .c), .agg (b.enc.map .c)] [] (.one (vi (eord a b))) [] := by
  refine AFn.introX (E := En 0 md0) (en_ok 0 md0) Try.func63 rfl rfl rfl fun _ _ => ?_
  refine ACall.mk _ _ (cmp_Compare_S a.key b.key) ?_
  refine ACall.mk _ _ (cmp_Compare_I b.seq a.seq) ?_
  refine Fz.mk _ (frzI [scmp a.key b.key, icmp b.seq a.seq]) ?_
  refine ACall.mk _ _ (cmp_Or [scmp a.key b.key, icmp b.seq a.seq] (by simp)) ?_
  refine Need.mk ⟨closed_v, no_objs⟩ ?_
  refine Need.mk rfl ?_
  exact Need.mk ⟨[], _, .same, rfl, rfl⟩ trivial
theorem entryOrder_ok : CmpOk 63 eLess := ⟨eord, eord_lt, impl_entryOrder⟩
end Go.Proofs.Ytlmdheeammfihaa

namespace Go.Proofs.Ytlmdheeammfihaa
open Go Go.Proofs Ev
set_option maxRecDepth 100000
set_option linter.unusedSimpArgs false
set_option linter.unusedVariables false
set_option maxHeartbeats 1000000
theorem impl_RunOf_bad (xs : List Ent) (hx : OkE xs) (hg : good xs = false) : AFn Try.prog 18 [sl (xs.map Ent.enc)] [] (.tup [.agg [.us 32 [], vi 0], .one (vb false)]) [] := by
  refine AFn.introX (E := En 0 (md1 [62])) (en_ok 0 _) Try.func18 rfl rfl rfl fun _ _ => ?_
  have hn : (xs.map Ent.enc).length = xs.length := List.length_map ..
  have hO : OkE (isort eLess xs) := fun e he => hx e ((isort_mem _ _ _).1 he)
  refine Split.mk fun t h1 => ?_
  rw [hn] at h1
  cases t
  case true => exact Need.mk ⟨[], _, .same, rfl, rfl⟩ trivial
  refine Split.mk fun t h2 => ?_
  rw [hn] at h2
  cases t
  case true => exact Need.mk ⟨[], _, .same, rfl, rfl⟩ trivial
  have hl : 1 ≤ xs.length ∧ xs.length ≤ 150 := by simp at h1 h2; omega
  have ho : ordOk (isort eLess xs) = false := by simpa [good, hl] using hg
  refine Need.mk ⟨plainE xs, lenE xs⟩ ?_
  refine Need.mk ⟨by simp only [hn, List.length_nil]; omega, by simp only [hn, List.length_nil, maxLen]; omega⟩ ?_
  refine ACall.mk _ _ (slices_SortStable 63 eLess eLess_wk entryOrder_ok xs (by omega)) ?_
  refine Fz.mk _ (frzE (isort eLess xs)) ?_
  refine ACall.mk _ _ (impl_inOrder (isort eLess xs) hO (by rw [isort_len]; omega)) ?_
  refine Need.mk ⟨closed_v, no_objs⟩ ?_
  refine Split.mk fun t h3 => ?_
  cases t
  · exact Need.mk ⟨[], _, .same, rfl, rfl⟩ trivial
  · rw [ho] at h3; cases h3
theorem impl_RunOf_ok (xs : List Ent) (hx : OkE xs) (hg : good xs = true) : AFn Try.prog 18 [sl (xs.map Ent.enc)] [] (.tup [.agg [.us 32 ((isort eLess xs).map Ent.enc), vi (rmask (isort eLess xs) : Nat)], .one (vb true)]) [] := by
  refine AFn.introX (E := En 0 (md1 [62])) (en_ok 0 _) Try.func18 rfl rfl rfl fun _ _ => ?_
  have hn : (xs.map Ent.enc).length = xs.length := List.length_map ..
  have hO : OkE (isort eLess xs) := fun e he => hx e ((isort_mem _ _ _).1 he)
  have hl : 1 ≤ xs.length ∧ xs.length ≤ 150 ∧ ordOk (isort eLess xs) = true := by simpa [good] using hg
  refine Split.mk fun t h1 => ?_
  rw [hn] at h1
  cases t
  case true => simp at h1; omega
  refine Split.mk fun t h2 => ?_
  rw [hn] at h2
  cases t
  case true => simp at h2; omega
  refine Need.mk ⟨plainE xs, lenE xs⟩ ?_
  refine Need.mk ⟨by simp only [hn, List.length_nil]; omega, by simp only [hn, List.length_nil, maxLen]; omega⟩ ?_
  refine ACall.mk _ _ (slices_SortStable 63 eLess eLess_wk entryOrder_ok xs (by omega)) ?_
  refine Fz.mk _ (frzE (isort eLess xs)) ?_
  refine ACall.mk _ _ (impl_inOrder (isort eLess xs) hO (by rw [isort_len]; omega)) ?_
  refine Need.mk ⟨closed_v, no_objs⟩ ?_
  refine Split.mk fun t h3 => ?_
  cases t
  case false => rw [hl.2.2] at h3; cases h3
  have hex : ∃ ys, isort eLess xs = ys := ⟨_, rfl⟩
  obtain ⟨ys, hy⟩ := hex
  have hyl : ys.length ≤ 150 := by rw [← hy, isort_len]; omega
  have hyO : OkE ys := by rw [← hy]; exact hO
  let S : Nat → Int → St := fun i mm => ⟨none :: none :: some (.bx 2 0) :: some (av (.bool false)) :: some (.one (.ref 4 0 (.cell 0))) :: some (av (.int .i64 mm)) :: none :: none :: none :: none :: none :: none :: none :: none :: none :: none :: none :: none :: none :: none :: none :: none :: none :: none :: none :: some (.one (.ref 4 0 (.cell 0))) :: some (av (.int .i64 ((ys.map Ent.enc).length : Nat))) :: some (av (.int .i64 i)) :: List.replicate 12 none, absent :: absent :: ⟨0, 0, some [.us 32 [], vi 0]⟩ :: absent :: ⟨0, 1, some [.us 32 (ys.map Ent.enc)]⟩ :: List.replicate 35 absent⟩
  refine ALoop.mk (fun m s => ∃ i : Nat, i ≤ ys.length ∧ m = ys.length - i ∧ s = S i (rmask (ys.take i) : Nat))
    ⟨ys.length, _, Weak.nrm [false, false, true, true, true, true, false, false, false, false, false, false, false, false, false, false, false, false, false, false, false, false, false, false, false, true, true, true] [(2, 2), (18, 4)] rfl rfl rfl, 0, Nat.zero_le _, rfl, ?_⟩ ?_
  · subst hy
    rfl
  rintro m s ⟨i, hi, rfl, hs⟩
  by_cases hin : i = ys.length
  · subst hin
    rw [List.take_length] at hs
    subst hs
    refine Split.mk fun t ht => ?_
    cases t
    · exact Need.mk ⟨[], _, .same, by rw [hy]; rfl, rfl⟩ trivial
    · rw [List.length_map] at ht; simp at ht
  · have hia : i < ys.length := by omega
    have he := rmask_snoc (ys.take i) ys[i]
    rw [← List.take_succ_eq_append_getElem hia] at he
    have hor : IntKind.i64.wrap (((BitVec.ofInt IntKind.i64.bits ((rmask (ys.take i) : Nat) : Int) ||| BitVec.ofInt IntKind.i64.bits ((kmask ys[i].key : Nat) : Int)).toNat : Nat) : Int) = ((rmask (ys.take (i + 1)) : Nat) : Int) := by
      rw [he]; exact orN (rmask_lt _) (kmask_lt _)
    subst hs
    refine Split.mk fun t ht => ?_
    rw [List.length_map] at ht
    cases t
    · simp at ht; omega
    refine Need.mk ⟨by omega, by rw [List.length_map]; omega⟩ ?_
    refine Row.mk _ (map_get _ ys i hia) ?_
    refine ACall.mk _ _ (impl_KeyMask ys[i].key (hyO _ (List.getElem_mem _)).1) ?_
    refine Num.mk _ (wrapS (by omega)) ?_
    exact ⟨ys.length - (i + 1), _, by omega, Weak.nrm [false, false, true, true, true, true, false, false, false, false, false, false, false, false, false, false, false, false, false, false, false, false, false, false, false, true, true, true] [(2, 2), (4, 4)] rfl rfl rfl, i + 1, by omega, rfl, congrArg (S (i + 1)) hor⟩
end Go.Proofs.Ytlmdheeammfihaa

namespace Go.Proofs.Ytlmdheeammfihaa
open Go Go.Proofs Ev
set_option maxRecDepth 100000
set_option linter.unusedSimpArgs false
set_option linter.unusedVariables false
set_option maxHeartbeats 1000000
def mdv (l : List FuncId) (g : List FuncId) : FuncId → Nat := fun f => bif l.elem f then 1 else bif g.elem f then 2 else 0
theorem spec_l4Run (xs : List Ent) (hx : OkE xs) (hl : xs.length ≤ 1099511627776) : AFn Try.prog 116 [sl (xs.map Ent.enc)] [] (.agg [.sl (xs.map Ent.enc), vi (rmask xs : Nat)]) [] := by
  refine AFn.introX (E := En 0 md0) (en_ok 0 md0) Try.func116 rfl rfl rfl fun _ _ => ?_
  refine ACall.mk _ _ (spec_l4Mask xs hx hl) ?_
  exact Need.mk ⟨[], _, .same, rfl, rfl⟩ trivial
end Go.Proofs.Ytlmdheeammfihaa

namespace Go.Proofs.Ytlmdheeammfihaa
open Go Go.Proofs Ev
set_option maxRecDepth 100000
set_option linter.unusedSimpArgs false
set_option linter.unusedVariables false
open Go.RowKit Go.Shelf
attribute [local go_sem] Oper.semAt_some
set_option maxRecDepth 100000
theorem infoES : (Try.prog.info? 23).map (fun i => (i.zero, i.size, i.bytes)) = some (some (.slice none 0 0), 1, 24) := by kernel_rfl
theorem cells1 : (Try.prog).cellsOf 23 = 1 := by kernel_rfl
theorem boxed_app {W w1 : World} {n₀ B : Nat} {t e : TypeId} {size : Nat} {v v' : Value} {k m : Nat} {xs ys : List Value} {tmp : Obj}
    (hv : Boxed W B t v) (hte : t ≠ e) (hrow : W.ownsRow n₀ e size v k xs) (hn₀ : n₀ ≤ W.heap.size)
    (hown' : w1.ownsRow n₀ e size v' m ys) (hgrow : (W.alloc tmp).grownBy w1 v.ownBlock) :
    Boxed w1 B t v ∧ Boxed (w1.setCell ⟨B, 0, none⟩ v') B t v' ∧ (w1.setCell ⟨B, 0, none⟩ v').ownsRow n₀ e size v' m ys ∧ KeepsOthers W (w1.setCell ⟨B, 0, none⟩ v') ∧ Keq (fun k => k < n₀ ∧ k ≠ B) W (w1.setCell ⟨B, 0, none⟩ v') ∧
      (B < n₀ → Below B W (w1.setCell ⟨B, 0, none⟩ v')) := by
  have hv1 : Boxed w1 B t v := (hv.alloc tmp).kept hgrow (hv.not_row hte hrow)
  have hblk : ∀ j, v.ownBlock = some j → n₀ ≤ j := fun j ej => by
    rcases hrow.2 with ⟨rfl, _⟩ | ⟨g, cap, cur, rfl, hb, _, _⟩
    · simp [Value.ownBlock] at ej
    · obtain rfl : g = j := by simpa [Value.ownBlock] using ej
      exact hb
  have hko : KeepsOthers W (w1.setCell ⟨B, 0, none⟩ v') := by
    refine ((KeepsOthers.alloc W tmp).trans (KeepsOthers.of_grownBy hgrow fun j o ej hj => ?_)).trans (KeepsOthers.setCell _ _ _)
    rcases (hrow.alloc tmp).2 with ⟨rfl, _⟩ | ⟨g, cap, cur, rfl, _, hgb, _⟩
    · simp [Value.ownBlock] at ej
    · obtain rfl : g = j := by simpa [Value.ownBlock] using ej
      rw [hgb] at hj; cases hj; rfl
  refine ⟨hv1, hv1.set v', hown'.kept (grownBy_setCell' w1 B v') (.inr (hv1.not_row hte hown').symm), hko, ⟨hko.size, fun k hk => ?_⟩, fun hB => ?_⟩
  · rw [Below.heap_setCell _ _ _ _ hk.2, hgrow.block k (by simp; omega) (fun e => by have := hblk k e.symm; omega)]
    exact Below.heap_alloc _ _ _ (by omega)
  · exact (((Below.refl B W).alloc (by omega) tmp).grown hgrow (by simp; omega) fun j ej => by have := hblk j ej; omega).setCell (p := ⟨B, 0, none⟩) (Nat.le_refl _) v'
theorem classes1_stops (n : Nat) (hn : 1 ≤ n) (b1 b2 : Nat) (S : Nat → Prop) (L : List Ent) (snaps : List Int) (a1 a2 : Option Addr) (c1 k2 c2 : Nat) (hl : L.length ≤ 16777216) (hs0 : snaps.length ≤ 1099511627776) (w : World)
    (hb1 : S b1) (hb2 : S b2) (hS : ∀ k, S k → k < w.heap.size) (hc1 : w.cell? ⟨b1, 0, none⟩ = some (.slice a1 L.length c1)) (hc2 : w.cell? ⟨b2, 0, none⟩ = some (.slice a2 k2 c2))
    (hf1 : FR w S (.sl (L.map Ent.enc)) (.slice a1 L.length c1)) (hf2 : FR w S (.sl (snaps.map encI)) (.slice a2 k2 c2)) :
    SeqStopsK Fence.wide n Try.prog 161 #[.pointer (some ⟨b1, 0, none⟩), .pointer (some ⟨b2, 0, none⟩)] (fun x : Nat × Nat => #[resliced (.slice a1 L.length c1) x.1 (x.2 - x.1) 5]) (Keq S)
      (fun xs => (xs.map fun p => (L.take p.2).drop p.1) = groups (brS snaps) L ∧ ∀ p ∈ xs, p.1 < p.2 ∧ p.2 ≤ L.length) (fun _ => True) L.length w := fun l J Jx W hW hJ _ hY h0 => by
  have hm : ∀ q, S q → W.heap[q]? = w.heap[q]? ∧ S q := fun q hq => ⟨hW.block q (hS q hq), hq⟩
  exact impl_classes1_in n hn l b1 b2 S L snaps a1 a2 c1 k2 c2 hl hs0 J Jx W hJ hb1 hb2 (fun k hk => Nat.lt_of_lt_of_le (hS k hk) hW.size)
    ((cell_of_heap (hW.block b1 (hS b1 hb1))).trans hc1) ((cell_of_heap (hW.block b2 (hS b2 hb2))).trans hc2) (hf1.move hm) (hf2.move hm) hY h0
/-- What a class is handed on as. -/
def cls (v : Value) (p : Nat × Nat) : Value := resliced v p.1 (p.2 - p.1) 5
def leftL (last : Bool) : List (List Ent) → List (List Ent) × Bool
  | [] => ([], last)
  | c :: cs => (classE c (leftL last cs).2 :: (leftL last cs).1, (leftL last cs).2 && (classE c (leftL last cs).2).isEmpty)
theorem leftL_cons {last : Bool} {c : List Ent} {cs : List (List Ent)} : leftL last (c :: cs) = (classE c (leftL last cs).2 :: (leftL last cs).1, (leftL last cs).2 && (classE c (leftL last cs).2).isEmpty) := rfl
theorem leftL_eq {last : Bool} {cs : List (List Ent)} : leftE last cs = ((leftL last cs).1.flatten, (leftL last cs).2) := by
  induction cs with
  | nil => rfl
  | cons c cs ih => rw [leftE_cons, ih, leftL_cons]; rfl
theorem leftL_len {last : Bool} {cs : List (List Ent)} : (leftL last cs).1.length = cs.length := by
  induction cs with
  | nil => rfl
  | cons c cs ih => rw [leftL_cons]; simp [ih]
theorem leftL_le {last : Bool} {cs : List (List Ent)} {k : Nat} (hc : ∀ c ∈ cs, 0 < c.length ∧ c.length ≤ k) : ∀ y ∈ (leftL last cs).1, y.length ≤ k := by
  induction cs with
  | nil => intro y hy; cases hy
  | cons c cs ih =>
    intro y hy
    rw [leftL_cons] at hy
    rcases List.mem_cons.1 hy with rfl | hy
    · exact Nat.le_trans (classE_len (hc c (List.mem_cons_self ..)).1) (hc c (List.mem_cons_self ..)).2
    · exact ih (fun c h => hc c (List.mem_cons_of_mem _ h)) y hy
/-- The state behind the loop. -/
noncomputable def skSt (b : Bool) (cs : List (List Ent)) : St :=
  ⟨none :: none :: some (av (.bool b)) :: none :: none :: none :: none :: some (.bx 7 0) :: List.replicate 39 none, absent :: absent :: absent :: absent :: absent :: absent :: absent :: ⟨0, 0, some [.us 23 (cs.map encX)]⟩ :: List.replicate 39 absent⟩
theorem skSt_ob {b : Bool} {cs : List (List Ent)} {id : Nat} {ob : Ob} {cells : List C} (k1 : (skSt b cs).o[id]? = some ob) (k2 : ob.cells = some cells) : id = 7 ∧ cells = [.us 23 (cs.map encX)] := by
  have k1 : (absent :: absent :: absent :: absent :: absent :: absent :: absent :: (⟨0, 0, some [.us 23 (cs.map encX)]⟩ : Ob) :: List.replicate 39 absent)[id]? = some ob := k1
  rcases id with _ | _ | _ | _ | _ | _ | _ | _ | id
  iterate 7 (injection k1 with k1; subst k1; cases k2)
  · injection k1 with k1; subst k1; injection k2 with k2; exact ⟨rfl, k2.symm⟩
  · have k1 : (List.replicate 39 absent)[id]? = some ob := k1
    rw [List.getElem?_replicate] at k1
    split at k1
    · injection k1 with k1; subst k1; cases k2
    · cases k1
set_option maxHeartbeats 4000000 in
theorem impl_squashKey_in (n : Nat) (hn : 6 ≤ n) (g : List Ent) (snaps : List Int) (b : Bool) (a1 a2 : Option Addr) (c1 k2 c2 : Nat) (hl : g.length ≤ 1000000) (hok : ∀ e ∈ g, entOk e = true) (hs0 : snaps.length ≤ 1099511627776) (w : World) (F0 : Frs) (ow0 : Ev.Own) (hF : ∀ k, F0 k → k < w.heap.size)
    (hf1 : FR w F0 (.sl (g.map Ent.enc)) (.slice a1 g.length c1)) (hf2 : FR w F0 (.sl (snaps.map encI)) (.slice a2 k2 c2)) :
    CallsIn Fence.wide n Try.prog 82 #[.slice a1 g.length c1, .slice a2 k2 c2, .bool b] w fun e w' => ∃ v ow', e = .returned v ∧ Keeps w w' ow0 ∧ (∀ k p, ow' k = some p → k < w'.heap.size ∧ (ow0 k ≠ none ∨ w.heap.size ≤ k)) ∧
      RVR Try.prog w' (FF w F0 ow0 w' ow') ow' 0 0 (.one (.us 32 ((squashK snaps b g).map Ent.enc))) v := by
  have h1 : 1 ≤ n := by omega
  obtain ⟨i0, hi, hz0, hz1, hz2⟩ := info_parts infoES
  refine callsIn_of_wp_marks Try.func82 rfl trivial ?_ rfl
  simp only [Try.ntmps82, List.size_toArray, List.length_cons, List.length_nil, Nat.reduceAdd, Nat.reduceSub, Array.replicate_succ, Array.replicate_zero, List.push_toArray, List.append_toArray, List.nil_append, List.cons_append]
  gi_wp2_with (refine ⟨trivial, ?_⟩; gi_at_call 132; refine (impl_classesOf_in Fence.wide _ trivial rfl _ _ _ _ _ _ _).mono ?_; rintro e w' ⟨rfl, rfl⟩)
  rename_i K hK
  obtain ⟨W0, hW0⟩ : ∃ W0, ((w.alloc (.cells #[.slice none 0 0] 40)).alloc (.cells #[.slice a1 g.length c1] 23)).alloc (.cells #[.slice a2 k2 c2] 48) = W0 := ⟨_, rfl⟩
  rw [hW0]
  have hsz : W0.heap.size = w.heap.size + 3 := by rw [← hW0]; simp
  have hB0 : Below w.heap.size w W0 := by rw [← hW0]; exact (((Below.refl _ w).alloc (Nat.le_refl _) _).alloc (by simp) _).alloc (by simp; omega) _
  have bO : Boxed W0 w.heap.size 40 (.slice none 0 0) := by rw [← hW0]; exact ((Boxed.new w _ _).alloc _).alloc _
  have e1 : W0.cell? ⟨w.heap.size + 1, 0, none⟩ = some (.slice a1 g.length c1) := by
    have := ((Boxed.new (w.alloc (.cells #[.slice none 0 0] 40)) 23 (.slice a1 g.length c1)).alloc (.cells #[.slice a2 k2 c2] 48)).cell
    rw [World.size_alloc] at this
    rw [← hW0]; exact this
  have e2 : W0.cell? ⟨w.heap.size + 1 + 1, 0, none⟩ = some (.slice a2 k2 c2) := by
    have := (Boxed.new ((w.alloc (.cells #[.slice none 0 0] 40)).alloc (.cells #[.slice a1 g.length c1] 23)) 48 (.slice a2 k2 c2)).cell
    rw [World.size_alloc, World.size_alloc] at this
    rw [← hW0]; exact this
  have hm : ∀ q, F0 q → W0.heap[q]? = w.heap[q]? ∧ (q < w.heap.size + 3 ∧ q ≠ w.heap.size) := fun q hq => ⟨hB0.block q (hF q hq), by have := hF q hq; omega, by have := hF q hq; omega⟩
  refine wpIn_rangeFunc_ownG rfl h1 (gf := 161) (lb := #[.pointer (some ⟨w.heap.size + 1, 0, none⟩), .pointer (some ⟨w.heap.size + 1 + 1, 0, none⟩)]) rfl trivial (enters_of Try.func161 (by kernel_rfl) rfl)
    (classes1_stops (n - 1) (by omega) (w.heap.size + 1) (w.heap.size + 1 + 1) (fun k => k < w.heap.size + 3 ∧ k ≠ w.heap.size) g snaps a1 a2 c1 k2 c2 (by omega) hs0 W0 ⟨by omega, by omega⟩ ⟨by omega, by omega⟩ (fun k hk => by rw [hsz]; exact hk.1) e1 e2 (hf1.move hm) (hf2.move hm))
    Keq.trans (fun W l o o' hl _ _ _ => ⟨by simp, fun k hk => World.putObj_heap_other (by omega)⟩) (Below.refl _ _) (fun _ => rfl)
    (fun pre W => (∃ v, Boxed W w.heap.size 40 v ∧ W.ownsRow (w.heap.size + 3) 23 1 v pre.length (pre.map (cls (.slice a1 g.length c1))) ∧ True) ∧ Below w.heap.size W0 W)
    (fun _ _ _ => False)
    (OwnFrom.and (Own.from (holdsRow_own (w.heap.size + 3) w.heap.size _ _ 1 (fun pre : List (Nat × Nat) => pre.length) (fun pre => pre.map (cls (.slice a1 g.length c1))) (fun _ _ => True)) _) (ownFrom_below hB0.size (by omega)))
    (fun _ _ _ _ _ hs _ _ => hs)
    ⟨⟨_, bO, World.ownsRow_nil _ _ _ _, trivial⟩, Below.refl _ _⟩
    (fun x => { tmps := #[.slice a1 g.length c1, .slice a2 k2 c2, .bool b, undef, undef, undef, .slice none 0 0, .pointer (some ⟨w.heap.size, 0, none⟩), cls (.slice a1 g.length c1) x, undef, undef, .slice a1 g.length c1, .slice a2 k2 c2, .func (.func 161) #[] #[.pointer (some ⟨w.heap.size + 1, 0, none⟩), .pointer (some ⟨w.heap.size + 1 + 1, 0, none⟩)], cls (.slice a1 g.length c1) x, undef, undef, undef, undef, undef, undef, undef, undef, undef, undef, undef, undef, undef, undef, undef, undef, undef, undef, undef, undef, undef, undef, undef, undef, undef, undef, undef, undef, undef, undef, undef, undef], defers := [] }) ?assign ?body ?done ?stop
  case assign =>
    intro l x W K hK
    gi_wp2
    exact hK
  case body =>
    rintro l pre x W ⟨⟨v, hv, hrow, _⟩, hB⟩ hlt
    have hc := hv.cell
    obtain ⟨a', n', c', hcl⟩ : ∃ a' n' c', cls (.slice a1 g.length c1) x = .slice a' n' c' := ⟨_, _, _, rfl⟩
    have hmap : (pre ++ [x]).map (cls (.slice a1 g.length c1)) = pre.map (cls (.slice a1 g.length c1)) ++ [.slice a' n' c'] := by simp [hcl]
    have HM : Hid _ := hmap
    clear hmap
    rw [hcl]
    gi_wp2_with (gi_at_builtin; refine wpListIn_append_own _ rfl _ _ 40 rfl (w.heap.size + 3) 23 i0 (.slice none 0 0) 1 24 Try.underlying40 hi hz0 hz1 hz2 rfl (by decide) _ _ _ rfl (hrow.alloc _) ⟨W.heap.size, 0, none⟩ 1 1 [.slice a' n' c'] rfl rfl (cell_one_new _ _ _) (by simp [Value.oneCell']) (by simp [maxLen]; omega) (by omega) (by have := hB.size; simp; omega) ?_; intro v' w1 hown' hgrow _; obtain ⟨g', cap', rfl⟩ := ownsRow_succ hown'; obtain ⟨hv1, hv2, hr2, hk2, hq2, hb2⟩ := boxed_app hv (by decide) hrow (by have := hB.size; omega) hown' hgrow; have hc1 := hv1.cell; have hf1 := hv1.frozen)
    exact ⟨hk2.from _, hq2, ⟨_, hv2, by rw [HM.out]; simpa using hr2, trivial⟩, hB.trans (hb2 (by omega))⟩
  case done =>
    rintro D ys W hD hS ⟨⟨v, hv, hrow, _⟩, hB⟩ hKD
    refine hK _ _ ?_
    clear hK hm e1 e2 bO hW0
    refine wpIn_wide.2 ?_
    have hw3 : w.heap.size + 3 ≤ W.heap.size := by have := hB.size; omega
    let ow : Ev.Own := fun k => if k = w.heap.size then some [7] else if v.ownBlock = some k then some [7, 0] else none
    have hvb : ∀ k, v.ownBlock = some k → w.heap.size + 3 ≤ k ∧ k < W.heap.size ∧ ∃ cs e, W.heap[k]? = some (.cells cs e (0, 0)) := fun k hk => by
      rcases hrow.2 with ⟨rfl, _⟩ | ⟨g', cap, cur, rfl, hb, hgb, _⟩
      · simp [Value.ownBlock] at hk
      · obtain rfl : g' = k := by simpa [Value.ownBlock] using hk
        exact ⟨hb, (Array.getElem?_eq_some_iff.1 hgb).1, _, _, hgb⟩
    have how : ∀ k p, ow k = some p → w.heap.size ≤ k ∧ k < W.heap.size ∧ ∃ cs e, W.heap[k]? = some (.cells cs e (0, 0)) := fun k p hk => by
      simp only [ow] at hk
      split at hk
      · rename_i h; subst h; exact ⟨Nat.le_refl _, hv.lt, _, _, hv⟩
      · split at hk
        · rename_i h; obtain ⟨h1, h2, h3⟩ := hvb k h; exact ⟨by omega, h2, h3⟩
        · cases hk
    have howF : ∀ k, F0 k → ow k = none := fun k hk => by
      cases h : ow k with
      | none => rfl
      | some p => have := (how k p h).1; have := hF k hk; omega
    have hFW : ∀ q, F0 q → W.heap[q]? = w.heap[q]? ∧ F0 q := fun q hq => ⟨(hB.block q (hF q hq)).trans (hB0.block q (hF q hq)), hq⟩
    let x : Cx := ⟨W, F0, ow, 0, fun _ => .blk w.heap.size, [{ target := .collected D, args := #[] }]⟩
    refine wp_mono (ev_sound (E := En 0 (mdv [] [134])) (en_ok 0 _ _ _ _ _) (x := x) rfl _ (skSt b (groups (brS snaps) g)) (Ev.Ends (En 0 (mdv [] [134])) Try.f82 (.one (.us 32 ((squashK snaps b g).map Ent.enc))) []) _ W (fun _ => .blk w.heap.size) ow ?hev ?hrel) ?hpost
    case hev =>
      rw [← evX_eq, ← EndsX_eq]
      clear_value x ow
      have hex : ∃ cs, groups (brS snaps) g = cs := ⟨_, rfl⟩
      obtain ⟨cs, hcs⟩ := hex
      have hc : ∀ c ∈ cs, 0 < c.length ∧ c.length ≤ 1000000 ∧ ∀ e ∈ c, entOk e = true := fun c h => by
        rw [← hcs] at h
        exact ⟨groups_pos c h, Nat.le_trans (groups_le h) hl, fun e he => hok e (groups_mem h he)⟩
      have hcl : cs.length ≤ 1000000 := by rw [← hcs]; exact Nat.le_trans groups_len hl
      have hfl : cs.flatten.length ≤ 1000000 := by rw [← hcs, groups_flat]; exact hl
      have hsq : squashK snaps b g = (leftL b cs).1.flatten := by rw [squashK, classesE, hcs, leftL_eq]
      have hfl2 : (leftL b cs).1.flatten.length ≤ 1000000 := by
        have h := leftE_len (last := b) (cs := cs) fun c h => (hc c h).1
        rw [leftL_eq] at h
        exact Nat.le_trans h hfl
      have hle : ∀ y ∈ (leftL b cs).1, y.length ≤ 1000000 := leftL_le fun c h => ⟨(hc c h).1, (hc c h).2.1⟩
      rw [hsq, hcs]
      clear hS hrow hv hvb how howF hFW hB hB0 hf1 hf2 hF hKD hD hw3 hsz hcs hsq hi hz0 hz1 hz2
      have hn : (cs.map encX).length = cs.length := List.length_map ..
      have hn2 : ((leftL b cs).1.map encX).length = cs.length := by rw [List.length_map, leftL_len]
      have hCat := slices_ConcatE (leftL b cs).1 (by rw [leftL_len]; exact hcl) hle hfl2
      refine Num.mk ((cs.length : Int) - 1) (by rw [hn]; exact wrapI (by omega) (by omega)) ?_
      let S : Int → Bool → List (List C) → St := fun z b2 R => ⟨none :: none :: some (av (.bool b)) :: none :: none :: none :: none :: some (.bx 7 0) :: none :: some (av (.bool b2)) :: some (av (.int .i64 z)) :: List.replicate 36 none, absent :: absent :: absent :: absent :: absent :: absent :: absent :: ⟨0, 0, some [.us 23 R]⟩ :: List.replicate 39 absent⟩
      refine ALoop.mk (fun m s => ∃ (i : Nat) (z : Int), i ≤ cs.length ∧ i = m ∧ z = (i : Int) - 1 ∧ s = S z (leftL b (cs.drop i)).2 ((cs.take i ++ (leftL b (cs.drop i)).1).map encX))
        ⟨_, _, Weak.nrm [false, false, true, false, false, false, false, true, false, true, true] [(7, 7)] rfl rfl rfl, cs.length, _, Nat.le_refl _, rfl, rfl, by rw [List.drop_length, List.take_length]; simp only [leftL, List.append_nil]; rfl⟩ ?_
      rintro m s ⟨i, z, hi, rfl, hz, hs⟩
      cases i with
      | zero =>
        have hz : z = -1 := by omega
        subst hz
        rw [List.drop_zero, List.take_zero, List.nil_append] at hs
        subst hs
        refine Split.mk fun t h1 => ?_
        cases t
        case true => cases h1
        refine Fz.mk _ (frzXX _) ?_
        refine ACall.mk _ _ hCat ?_
        exact Need.mk ⟨[], _, .same, rfl, rfl⟩ trivial
      | succ j =>
        have hz : z = (j : Int) := by omega
        have hj : j < cs.length := hi
        have hcj := hc cs[j] (List.getElem_mem hj)
        have hex : ∃ b2, (leftL b (cs.drop (j + 1))).2 = b2 := ⟨_, rfl⟩
        obtain ⟨b2, hb2⟩ := hex
        have hex : ∃ y, classE cs[j] b2 = y := ⟨_, rfl⟩
        obtain ⟨y, hy⟩ := hex
        have hC := impl_squashClass cs[j] hcj.1 (by omega) hcj.2.2 b2 y hy
        have hL : leftL b (cs.drop j) = (y :: (leftL b (cs.drop (j + 1))).1, b2 && y.isEmpty) := by rw [List.drop_eq_getElem_cons hj, leftL_cons, hb2, hy]
        have hR1 : ((cs.take (j + 1) ++ (leftL b (cs.drop (j + 1))).1).map encX)[j]? = some (encX cs[j]) := by
          rw [List.getElem?_map, List.getElem?_append_left (by rw [List.length_take]; omega), List.getElem?_take, if_pos (by omega), List.getElem?_eq_getElem hj]; rfl
        have hR2 : ((cs.take (j + 1) ++ (leftL b (cs.drop (j + 1))).1).map encX).length = cs.length := by
          rw [List.length_map, List.length_append, List.length_take, leftL_len, List.length_drop]; omega
        have hR3 : ((cs.take (j + 1) ++ (leftL b (cs.drop (j + 1))).1).map encX).set j (encX y) = (cs.take j ++ (leftL b (cs.drop j)).1).map encX := by
          rw [hL, ← List.map_set, List.take_add_one, List.getElem?_eq_getElem hj, Option.toList_some, List.append_assoc, List.set_append_right _ _ (by rw [List.length_take]; omega), List.length_take, Nat.min_eq_left (by omega), Nat.sub_self]
          simp only [List.singleton_append, List.set_cons_zero, List.map_append, List.map_cons]
        have hyn : (y.map Ent.enc).length = y.length := List.length_map ..
        rw [hb2] at hs
        have hex : ∃ R, (cs.take (j + 1) ++ (leftL b (cs.drop (j + 1))).1).map encX = R := ⟨_, rfl⟩
        obtain ⟨R, hR⟩ := hex
        rw [hR] at hR1 hR2 hR3 hs
        have hR4 : (R.set j (encX y))[j]? = some (encX y) := by rw [List.getElem?_set_self (by omega)]
        have hR5 : (R.set j (encX y)).length = cs.length := by rw [List.length_set, hR2]
        subst hz
        by_cases hy0 : y.length = 0
        · have hyE : y.isEmpty = true := by rw [List.length_eq_zero_iff.1 hy0]; rfl
          rw [hyE, Bool.and_true] at hL
          cases b2
          · subst hs
            refine Split.mk fun t h1 => ?_
            cases t
            case false => cases h1
            refine Need.mk (by omega) ?_
            refine Row.mk _ hR1 ?_
            refine ACall.mk _ _ hC ?_
            refine Need.mk (by omega) ?_
            refine Row.mk _ hR1 ?_
            refine Need.mk rfl ?_
            refine Num.mk ((j : Int) - 1) (wrapI (by omega) (by omega)) ?_
            exact ⟨j, _, Nat.lt_succ_self _, Weak.nrm [false, false, true, false, false, false, false, true, false, true, true] [(7, 7)] rfl rfl rfl, j, _, by omega, rfl, rfl, by rw [← hR3, hL]; rfl⟩
          · subst hs
            refine Split.mk fun t h1 => ?_
            cases t
            case false => cases h1
            refine Need.mk (by omega) ?_
            refine Row.mk _ hR1 ?_
            refine ACall.mk _ _ hC ?_
            refine Need.mk (by omega) ?_
            refine Row.mk _ hR1 ?_
            refine Need.mk rfl ?_
            refine Need.mk ⟨by omega, by show (j : Int) < ((R.set j (encX y)).length : Nat); omega⟩ ?_
            refine Row.mk _ hR4 ?_
            refine Split.mk fun t h2 => ?_
            cases t
            case false => (exfalso; have := (beq_eq_false_iff_ne.1 h2); omega)
            refine Num.mk ((j : Int) - 1) (wrapI (by omega) (by omega)) ?_
            exact ⟨j, _, Nat.lt_succ_self _, Weak.nrm [false, false, true, false, false, false, false, true, false, true, true] [(7, 7)] rfl rfl rfl, j, _, by omega, rfl, rfl, by rw [← hR3, hL]; rfl⟩
        · have hyE : y.isEmpty = false := by cases y with | nil => exact absurd rfl hy0 | cons _ _ => rfl
          rw [hyE, Bool.and_false] at hL
          cases b2
          · subst hs
            refine Split.mk fun t h1 => ?_
            cases t
            case false => cases h1
            refine Need.mk (by omega) ?_
            refine Row.mk _ hR1 ?_
            refine ACall.mk _ _ hC ?_
            refine Need.mk (by omega) ?_
            refine Row.mk _ hR1 ?_
            refine Need.mk rfl ?_
            refine Num.mk ((j : Int) - 1) (wrapI (by omega) (by omega)) ?_
            exact ⟨j, _, Nat.lt_succ_self _, Weak.nrm [false, false, true, false, false, false, false, true, false, true, true] [(7, 7)] rfl rfl rfl, j, _, by omega, rfl, rfl, by rw [← hR3, hL]; rfl⟩
          · subst hs
            refine Split.mk fun t h1 => ?_
            cases t
            case false => cases h1
            refine Need.mk (by omega) ?_
            refine Row.mk _ hR1 ?_
            refine ACall.mk _ _ hC ?_
            refine Need.mk (by omega) ?_
            refine Row.mk _ hR1 ?_
            refine Need.mk rfl ?_
            refine Need.mk ⟨by omega, by show (j : Int) < ((R.set j (encX y)).length : Nat); omega⟩ ?_
            refine Row.mk _ hR4 ?_
            refine Split.mk fun t h2 => ?_
            cases t
            case true => (exfalso; have := (beq_iff_eq.1 h2); omega)
            refine Num.mk ((j : Int) - 1) (wrapI (by omega) (by omega)) ?_
            exact ⟨j, _, Nat.lt_succ_self _, Weak.nrm [false, false, true, false, false, false, false, true, false, true, true] [(7, 7)] rfl rfl rfl, j, _, by omega, rfl, rfl, by rw [← hR3, hL]; rfl⟩
    case hrel =>
      refine ⟨fun k hk => ⟨by have := hF k hk; show k < W.heap.size; omega, howF k hk⟩, ⟨rfl, rfl, rfl, Nat.le_refl _, fun _ _ _ => rfl⟩, fun k p hk => ⟨(how k p hk).2.1, .inl (by show ow k ≠ none; rw [hk]; simp)⟩, fun q av1 hq => ?_, fun id ob cells k1 k2 => ?_, fun id ob cells k1 k2 k3 => ?_, rfl, rfl, fun id hid => absurd hid (Nat.not_lt_zero _)⟩
      · have hq : (none :: none :: some (av (.bool b)) :: none :: none :: none :: none :: some (.bx 7 0) :: List.replicate 39 none)[q]? = some (some av1) := hq
        rcases q with _ | _ | _ | _ | _ | _ | _ | _ | q
        · cases hq
        · cases hq
        · injection hq with hq; injection hq with hq; subst hq
          exact ⟨_, rfl, .one (.c (.v rfl))⟩
        · cases hq
        · cases hq
        · cases hq
        · cases hq
        · injection hq with hq; injection hq with hq; subst hq
          exact ⟨_, rfl, .bx (id := 7) (ob := ⟨0, 0, some [.us 23 ((groups (brS snaps) g).map encX)]⟩) rfl rfl rfl⟩
        · have hq : (List.replicate 39 (none : Option AV))[q]? = some (some av1) := hq
          rw [List.getElem?_replicate] at hq
          split at hq <;> cases hq
      · obtain ⟨rfl, rfl⟩ := skSt_ob k1 k2
        have h7 : some ob = some ⟨0, 0, some [.us 23 ((groups (brS snaps) g).map encX)]⟩ := k1.symm
        refine ⟨fun q hq => ?_, fun j c hj => ?_⟩
        · have hq : Pl.blk w.heap.size = .blk q := hq
          injection hq with hq; subst hq
          exact ⟨by show ow w.heap.size = _; simp [ow], _, _, hv, rfl⟩
        · rcases j with _ | j
          · injection hj with hj; subst hj
            refine ⟨v, hv.cell, ?_⟩
            have hS' : (ys.map fun p => (g.take p.2).drop p.1) = groups (brS snaps) g := hS.1
            have hsz1 : (En 0 (mdv [] [134])).P.cellsOf 23 = 1 := cells1
            have hrow0 : W.ownsRow 0 23 1 v ys.length (ys.map (cls (.slice a1 g.length c1))) := ⟨hrow.1, hrow.2.imp_right fun ⟨g', cap, cur, h1, _, h3⟩ => ⟨g', cap, cur, h1, Nat.zero_le _, h3⟩⟩
            rw [← hS', List.map_map]
            refine .us (inner := ys.map (cls (.slice a1 g.length c1))) ?_ ?_ ?_ ?_ ?_
            · rw [hsz1, List.length_map]; exact hrow0
            · rw [hsz1]; decide
            · intro r hr
              obtain ⟨p, _, rfl⟩ := List.mem_map.1 hr
              rw [hsz1]; rfl
            · intro q hq
              have := (hvb q hq).1
              show ow q = some [7, 0]
              simp only [ow]
              rw [if_neg (by omega), if_pos hq]
            · intro i r j c hi hj
              rw [List.getElem?_map] at hi
              cases hy : ys[i]? with
              | none => rw [hy] at hi; cases hi
              | some p =>
                rw [hy] at hi; injection hi with hi; subst hi
                rcases j with _ | j
                · injection hj with hj; subst hj
                  rw [hsz1, Nat.mul_one, Nat.add_zero, List.getD_eq_getElem?_getD, List.getElem?_map, hy]
                  refine .sl ?_
                  obtain ⟨hp1, hp2⟩ := hS.2 p (List.mem_iff_getElem?.2 ⟨i, hy⟩)
                  have hf := (hf1.move hFW).sub (l := p.1) (n := p.2 - p.1) (sz := 5) (fun r hr => by obtain ⟨e, _, rfl⟩ := List.mem_map.1 hr; rfl) (by rw [List.length_map]; omega)
                  rw [← List.map_drop, ← List.map_take, List.take_drop, show p.1 + (p.2 - p.1) = p.2 by omega] at hf
                  exact hf.move fun q hq => ⟨rfl, .inl hq⟩
                · cases hj
          · cases hj
      · obtain ⟨rfl, rfl⟩ := skSt_ob k1 k2
        have h7 : some ob = some ⟨0, 0, some [.us 23 ((groups (brS snaps) g).map encX)]⟩ := k1.symm
        injection h7 with h7; subst h7; exact absurd rfl k3
    case hpost =>
      rintro e a' w' ⟨st', L', ow', hk, hR'⟩
      have hDlt : D < W.heap.size := (Array.getElem?_eq_some_iff.1 hKD).1
      have howD : ow D = none := by
        cases h : ow D with
        | none => rfl
        | some p => obtain ⟨_, _, cs, e, h3⟩ := how D p h; rw [hKD] at h3; cases h3
      have hD' : w'.heap[D]? = some (.deferred (some [])) := (hR'.keeps.block D hDlt howD).trans hKD
      have fin : (retM (En 0 (mdv [] [134])) Try.f82.results.toList (.one (.us 32 ((squashK snaps b g).map Ent.enc))) []).run Try.prog st' [] (fun _ _ => True) →
          LeavesInM Fence.wide n Try.prog Try.f82 a'.tmps (fun e w' => ∃ v ow', e = .returned v ∧ Keeps w w' ow0 ∧ (∀ k p, ow' k = some p → k < w'.heap.size ∧ (ow0 k ≠ none ∨ w.heap.size ≤ k)) ∧
            RVR Try.prog w' (FF w F0 ow0 w' ow') ow' 0 0 (.one (.us 32 ((squashK snaps b g).map Ent.enc))) v) a'.defers .returning w' := by
        intro hrun
        obtain ⟨d, rs, k1, _⟩ := run_runs hrun
        obtain ⟨v', ow2, g1, g2, g3, g4, g5⟩ := retM_sound (en_ok 0 _ _ _ _ _) hR' rfl k1
        have hdf : a'.defers = [{ target := .collected D, args := #[] }] := hR'.defers
        rw [hdf]
        refine ⟨by simp, .inl ⟨_, _, rfl, run_takeDeferred hD', ?_⟩⟩
        have hv' := (results_tmp (fn := Try.f82) rfl a'.tmps Try.prog w').symm.trans g1
        injection hv' with hv'
        refine ⟨v', (results_tmp (fn := Try.f82) rfl a'.tmps Try.prog _).trans (by rw [hv']), v', ow2, rfl, ?_, ?_, ?_⟩
        · refine ⟨?_, ?_, ?_, ?_, fun k hk _ => ?_⟩
          · exact hR'.keeps.os.trans (hB.os.trans hB0.os)
          · exact hR'.keeps.tape.trans (hB.tape.trans hB0.tape)
          · exact hR'.keeps.output.trans (hB.output.trans hB0.output)
          · have h1 := hR'.keeps.size
            have h2 := hB.size
            have h3 := hB0.size
            have h1 : W.heap.size ≤ w'.heap.size := h1
            simp; omega
          · rw [World.putObj_heap_other (by omega)]
            have hok : ow k = none := by
              cases h : ow k with
              | none => rfl
              | some p => have := (how k p h).1; omega
            exact (hR'.keeps.block k (by show k < W.heap.size; omega) hok).trans ((hB.block k hk).trans (hB0.block k hk))
        · intro k p hk
          obtain ⟨p', hp'⟩ := g2 k p hk
          obtain ⟨h1, h2⟩ := hR'.owOk k p' hp'
          refine ⟨by simpa using h1, .inr ?_⟩
          rcases h2 with h2 | h2
          · cases h : ow k with
            | none => exact absurd h h2
            | some q => exact (how k q h).1
          · have h2 : W.heap.size ≤ k := h2
            omega
        · have hne : ∀ k, (ow k ≠ none ∨ W.heap.size ≤ k) → k ≠ D := fun k h e => by
            subst e
            rcases h with h | h
            · exact h howD
            · omega
          cases g3 with
          | one h3 =>
            refine .one (h3.move (fun k hk => ?_) fun k r hk => ?_)
            · rcases hk with hk | ⟨hk1, hk2, hk3⟩
              · have : F0 k := hk
                have := hF k this
                exact ⟨World.putObj_heap_other (by omega), .inl hk⟩
              · have hk3 : ow k ≠ none ∨ W.heap.size ≤ k := hk3
                refine ⟨World.putObj_heap_other (hne k hk3), .inr ⟨by simpa using hk1, hk2, .inr ?_⟩⟩
                rcases hk3 with h2 | h2
                · cases h : ow k with
                  | none => exact absurd h h2
                  | some q => exact (how k q h).1
                · omega
            · obtain ⟨p', hp'⟩ := g2 k _ hk
              obtain ⟨h1, h2⟩ := hR'.owOk k p' hp'
              exact ⟨World.putObj_heap_other (hne k h2), hk⟩
      cases e with
      | normal => exact fin hk
      | ret => exact fin hk
      | _ => exact hk.elim
  case stop =>
    rintro D c pre W _ _ h _
    exact h.elim
theorem impl_squashKey (g : List Ent) (snaps : List Int) (b : Bool) (hl : g.length ≤ 1000000) (hok : ∀ e ∈ g, entOk e = true) (hs0 : snaps.length ≤ 1099511627776) :
    AFn Try.prog 82 [sl (g.map Ent.enc), sl (snaps.map encI), av (.bool b)] [] (.one (.us 32 ((squashK snaps b g).map Ent.enc))) [] := by
  refine ⟨enters_of Try.func82 (by kernel_rfl) rfl, fun w F0 ow0 L vs h1 h2 _ _ h4 h5 => ?_⟩
  obtain ⟨v0, l0, rfl, k4⟩ := consLen (l := vs) h4.symm
  obtain ⟨v1, l1, rfl, k5⟩ := consLen k4
  obtain ⟨v2, l2, rfl, k6⟩ := consLen k5
  obtain rfl := List.eq_nil_of_length_eq_zero k6
  have g0 := h5 0 _ _ rfl rfl
  have g1 := h5 1 _ _ rfl rfl
  have g2 := avr_v (h5 2 _ _ rfl rfl)
  subst g2
  cases g0 with
  | one g0 => cases g0 with
    | c g0 => cases g1 with
      | one g1 => cases g1 with
        | c g1 =>
          have hn : (g.map Ent.enc).length = g.length := List.length_map ..
          obtain ⟨a1, c1, rfl⟩ : ∃ a1 c1, v0 = .slice a1 g.length c1 := by
            cases g0 with
            | @sl _ a n cap _ _ hn' _ _ _ _ _ => rw [hn] at hn'; subst hn'; exact ⟨_, _, rfl⟩
          obtain ⟨a2, k2, c2, rfl⟩ : ∃ a2 k2 c2, v1 = .slice a2 k2 c2 := by
            cases g1 with
            | sl => exact ⟨_, _, _, rfl⟩
          refine (callsIn_wide (n := 6)).1 ((impl_squashKey_in 6 (Nat.le_refl _) g snaps b a1 a2 c1 k2 c2 hl hok hs0 w F0 ow0 (fun k hk => (h1 k hk).1) g0 g1).mono ?_)
          rintro e w' ⟨v, ow', rfl, q1, q2, q3⟩
          exact ⟨v, ow', rfl, q1, q2, q3, rfl, fun id cells h => nomatch h⟩
end Go.Proofs.Ytlmdheeammfihaa

namespace Go.Proofs.Ytlmdheeammfihaa
open Go Go.Proofs Ev
set_option maxRecDepth 100000
set_option linter.unusedSimpArgs false
set_option linter.unusedVariables false
set_option maxHeartbeats 4000000
theorem impl_Squash_ok (l : List Ent) (snaps : List Int) (hs0 : snaps.length ≤ 1099511627776) (hl : l.length ≤ 1000000) (hx : OkE l) (hok : ordOk l = true) (last : Bool) (o : List Ent) (ho : squash l snaps last = o) :
    AFn Try.prog 30 [sl (l.map Ent.enc), sl (snaps.map encI), av (.bool last)] [] (.one (.us 32 (o.map Ent.enc))) [] := by
  have hn : (l.map Ent.enc).length = l.length := List.length_map ..
  have hR := impl_inOrder l hx (Nat.le_trans hl (by decide))
  rw [hok] at hR
  refine AFn.introX (E := En 0 md0) (en_ok 0 _ _ _ _ _) Try.func30 rfl rfl rfl fun _ _ => ?_
  refine ACall.mk _ _ hR ?_
  refine Split.mk fun t h1 => ?_
  cases t
  case false => cases h1
  let S : Nat → List (List C) → St := fun i R => ⟨some (sl (List.map Ent.enc l)) :: some (sl (List.map encI snaps)) :: some (av (.bool last)) :: none :: none :: none :: none :: some (.one (.ref 7 0 (.cell 0))) :: some (av (.int .i64 i)) :: List.replicate 40 none, absent :: absent :: absent :: absent :: absent :: absent :: absent :: ⟨0, 1, some [.us 32 R]⟩ :: List.replicate 41 absent⟩
  refine ALoop.mk (fun m s => ∃ (i : Nat) (D : List (List Ent)) (x : List Ent) (R : List (List C)), i ≤ l.length ∧ m = l.length - i ∧ groups brK l = D ++ groups brK (l.drop i) ∧ x = D.flatMap (squashK snaps last) ∧ x.length ≤ i ∧ R = x.map Ent.enc ∧ s = S i R)
    ⟨_, _, Weak.trans (Weak.nrm [true, true, true, false, false, false, false, true, true] [] rfl rfl rfl) (Weak.nilOwn 7 7 32 rfl rfl (pos_of tab_ok (t := 32) rfl)), 0, [], [], [], Nat.zero_le _, rfl, rfl, rfl, Nat.zero_le _, rfl, rfl⟩ ?_
  rintro m s ⟨i, D, x, R, hi, rfl, hG, hx1, hxl, hR1, hs⟩
  by_cases hin : i = l.length
  · have hxo : x = o := by rw [hx1, ← ho, squash, hG, hin, List.drop_length]; simp [groups]
    subst hxo
    subst hR1
    subst hs
    refine Split.mk fun t h1 => ?_
    cases t
    case true => (exfalso; rw [decide_eq_true_iff] at h1; omega)
    rw [decide_eq_false_iff_not] at h1
    exact Need.mk ⟨[], _, .same, rfl, rfl⟩ trivial
  · have hia : i < l.length := by omega
    subst hs
    refine Split.mk fun t h1 => ?_
    cases t
    case false => (exfalso; rw [decide_eq_false_iff_not] at h1; omega)
    rw [decide_eq_true_iff] at h1
    refine Num.mk _ (wrapS (by omega)) ?_
    have h00 : ∀ j, i ≤ j → j < i + 1 → ∀ h : j < l.length, l[j].key = (l[i]'hia).key := fun j h1 h2 h3 => by
      have h4 : j = i := by omega
      subst h4
      rfl
    let S2 : Nat → St := fun k => ⟨some (sl (List.map Ent.enc l)) :: some (sl (List.map encI snaps)) :: some (av (.bool last)) :: none :: none :: none :: none :: some (.one (.ref 7 0 (.cell 0))) :: some (av (.int .i64 ↑i)) :: some (av (.int .i64 (k : Nat))) :: List.replicate 39 none, absent :: absent :: absent :: absent :: absent :: absent :: absent :: ⟨0, 1, some [.us 32 R]⟩ :: List.replicate 41 absent⟩
    refine ALoop.mk (fun m s => ∃ k : Nat, i < k ∧ k ≤ l.length ∧ m = l.length - k ∧ (∀ j, i ≤ j → j < k → ∀ h : j < l.length, l[j].key = (l[i]'hia).key) ∧ s = S2 k)
      ⟨_, _, Weak.nrm [true, true, true, false, false, false, false, true, true, true] [(7, 7)] rfl rfl rfl, i + 1, by omega, by omega, rfl, h00, rfl⟩ ?_
    rintro m s ⟨k, hik, hk, rfl, hno, hs⟩
    have hex : ∃ g, (l.take k).drop i = g := ⟨_, rfl⟩
    obtain ⟨g, hg⟩ := hex
    have hgl : g.length = k - i := by rw [← hg, List.length_drop, List.length_take]; omega
    have hfin : ∀ _ : Unit, (k = l.length ∨ ∀ h : k < l.length, ¬ l[k].key = (l[i]'hia).key) → groups brK l = (D ++ [g]) ++ groups brK (l.drop k) := fun _ he => by
      have h := groups_split (br := brK) (l := l.drop i) (k := k - i) (by omega) (by rw [List.length_drop]; omega) (fun j h1 h2 h3 => by
        rw [List.length_drop] at h3
        have h5 := hno (i + j) (by omega) (by omega) (by omega)
        have h6 := hno (i + j - 1) (by omega) (by omega) (by omega)
        simp only [List.getElem_drop, brK]
        have e : i + (j - 1) = i + j - 1 := by omega
        simp only [e]
        rw [h5, h6]; simp) (fun h3 => by
        rw [List.length_drop] at h3
        have hkl : k < l.length := by omega
        have hne : ¬ k = l.length := by omega
        have h4 : ¬ l[k].key = (l[i]'hia).key := he.resolve_left hne hkl
        have h6 := hno (k - 1) (by omega) (by omega) (by omega)
        simp only [List.getElem_drop, brK]
        have e : i + (k - i - 1) = k - 1 := by omega
        have e2 : i + (k - i) = k := by omega
        simp only [e, e2]
        rw [h6]; simp [h4])
      have e1 : (l.drop i).take (k - i) = g := by rw [← hg, List.drop_take]
      have e2 : (l.drop i).drop (k - i) = l.drop k := by rw [List.drop_drop]; congr 1; omega
      rw [e1, e2] at h
      rw [hG, h]; simp
    have hgm : ∀ e ∈ g, entOk e = true := fun e he => ordOk_all hok e (by rw [← hg] at he; exact List.mem_of_mem_take (List.mem_of_mem_drop he))
    have hC := impl_squashKey g snaps last (by omega) hgm hs0
    have hform : List.take ((k : Int) - (i : Int)).toNat (List.drop ((i : Int)).toNat (l.map Ent.enc)) = g.map Ent.enc := by
      rw [Int.toNat_natCast, show ((k : Int) - (i : Int)).toNat = k - i by omega, ← hg, List.map_drop, List.map_take, List.drop_take]
    rw [← hform] at hC
    have hex : ∃ y, squashK snaps last g = y := ⟨_, rfl⟩
    obtain ⟨y, hy⟩ := hex
    rw [hy] at hC
    have hyl : y.length ≤ k - i := by rw [← hy, ← hgl]; exact squashK_len
    have hx2 : x ++ y = (D ++ [g]).flatMap (squashK snaps last) := by rw [List.flatMap_append, ← hx1]; simp [hy]
    have hxy : (x ++ y).length ≤ k := by rw [List.length_append]; omega
    have hRR : x.map Ent.enc ++ y.map Ent.enc = (x ++ y).map Ent.enc := List.map_append.symm
    by_cases hkn : k = l.length
    · have hf := hfin () (.inl hkn)
      subst hR1
      subst hs
      refine Split.mk fun t h1 => ?_
      cases t
      case true => (exfalso; rw [decide_eq_true_iff] at h1; omega)
      rw [decide_eq_false_iff_not] at h1
      refine Need.mk (rfl) ?_
      refine Need.mk (⟨by omega, by omega, by omega, lenE _⟩) ?_
      refine ACall.mk _ _ hC ?_
      refine Need.mk ((plainE _)) ?_
      refine Need.mk (appEq (A' := _) (B' := _) rfl rfl (by simp only [List.length_append, List.length_map, List.length_take, List.length_drop, List.length_cons, List.length_nil, List.length_reverse, List.length_replicate, List.length_set]; omega) (by decide)) ?_
      exact ⟨_, _, by omega, Weak.nrm [true, true, true, false, false, false, false, true, true] [(46, 7)] rfl rfl rfl, k, D ++ [g], x ++ y, _, hk, rfl, hf, hx2, hxy, hRR, rfl⟩
    · have hka : k < l.length := by omega
      by_cases hbr : l[k].key = l[i].key
      · have hno2 : ∀ j, i ≤ j → j < k + 1 → ∀ h : j < l.length, l[j].key = (l[i]'hia).key := fun j h1 h2 h3 => by
          by_cases hjk : j = k
          · subst hjk; exact hbr
          · exact hno j h1 (by omega) h3
        subst hs
        refine Split.mk fun t h1 => ?_
        cases t
        case false => (exfalso; rw [decide_eq_false_iff_not] at h1; omega)
        rw [decide_eq_true_iff] at h1
        refine Need.mk (by omega) ?_
        refine Row.mk _ (map_get _ l k (by omega)) ?_
        refine Need.mk (by omega) ?_
        refine Row.mk _ (map_get _ l i (by omega)) ?_
        refine Split.mk fun t h2 => ?_
        cases t
        case false => (exfalso; rw [bytes_beq, decide_eq_false_iff_not] at h2; exact absurd ‹_› h2)
        rw [bytes_beq, decide_eq_true_iff] at h2
        refine Need.mk (rfl) ?_
        refine Num.mk _ (wrapS (by omega)) ?_
        exact ⟨_, _, by omega, Weak.nrm [true, true, true, false, false, false, false, true, true, true] [(7, 7)] rfl rfl rfl, k + 1, by omega, by omega, rfl, hno2, rfl⟩
      · have hf := hfin () (.inr fun _ => hbr)
        subst hR1
        subst hs
        refine Split.mk fun t h1 => ?_
        cases t
        case false => (exfalso; rw [decide_eq_false_iff_not] at h1; omega)
        rw [decide_eq_true_iff] at h1
        refine Need.mk (by omega) ?_
        refine Row.mk _ (map_get _ l k (by omega)) ?_
        refine Need.mk (by omega) ?_
        refine Row.mk _ (map_get _ l i (by omega)) ?_
        refine Split.mk fun t h2 => ?_
        cases t
        case true => (exfalso; rw [bytes_beq, decide_eq_true_iff] at h2; exact absurd h2 ‹_›)
        rw [bytes_beq, decide_eq_false_iff_not] at h2
        refine Need.mk (rfl) ?_
        refine Need.mk (⟨by omega, by omega, by omega, lenE _⟩) ?_
        refine ACall.mk _ _ hC ?_
        refine Need.mk ((plainE _)) ?_
        refine Need.mk (appEq (A' := _) (B' := _) rfl rfl (by simp only [List.length_append, List.length_map, List.length_take, List.length_drop, List.length_cons, List.length_nil, List.length_reverse, List.length_replicate, List.length_set]; omega) (by decide)) ?_
        exact ⟨_, _, by omega, Weak.nrm [true, true, true, false, false, false, false, true, true] [(46, 7)] rfl rfl rfl, k, D ++ [g], x ++ y, _, hk, rfl, hf, hx2, hxy, hRR, rfl⟩
theorem impl_Squash (l : List Ent) (snaps : List Int) (hs0 : snaps.length ≤ 1099511627776) (hl : l.length ≤ 1000000) (hx : OkE l) (last : Bool) : AFn Try.prog 30 [sl (l.map Ent.enc), sl (snaps.map encI), av (.bool last)] [] (.one (.us 32 ((squashed l snaps last).map Ent.enc))) [] := by
  by_cases hok : ordOk l = true
  · rw [show squashed l snaps last = squash l snaps last from if_pos hok]
    exact impl_Squash_ok l snaps hs0 hl hx hok last _ rfl
  · rw [show squashed l snaps last = [] from if_neg hok]
    have hok : ordOk l = false := by simpa using hok
    have hR := impl_inOrder l hx (Nat.le_trans hl (by decide))
    rw [hok] at hR
    refine AFn.introX (E := En 0 md0) (en_ok 0 _ _ _ _ _) Try.func30 rfl rfl rfl fun _ _ => ?_
    refine ACall.mk _ _ hR ?_
    refine Split.mk fun t h1 => ?_
    cases t
    case true => cases h1
    exact Need.mk ⟨[false], _, .nil (pos_of tab_ok (t := 32) rfl) .same, rfl, rfl⟩ trivial
end Go.Proofs.Ytlmdheeammfihaa
