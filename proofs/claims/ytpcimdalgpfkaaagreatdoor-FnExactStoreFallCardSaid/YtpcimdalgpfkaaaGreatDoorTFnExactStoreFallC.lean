/-
  Contracts of functions, part 3.
-/
import Derived.Test.YtpcimdalgpfkaaaGreatDoorTFnExactStoreFallB
set_option linter.unusedVariables false
set_option linter.unusedSimpArgs false
namespace Go.Proofs.YtpcimdalgpfkaaaGreatDoor
open Go Go.Proofs Ev
set_option maxRecDepth 100000
set_option maxHeartbeats 40000000
set_option linter.unusedSimpArgs false
set_option linter.unusedVariables false
def SymM (f : FuncId) (lt : Ent → Ent → Bool) (n : Nat) : Prop := ∀ (x c d y l r : List Ent) (a m b : Nat), l = x ++ c ++ d ++ y → r = x ++ mrg lt c d ++ y → a = x.length → m = x.length + c.length → b = x.length + c.length + d.length → 0 < c.length → 0 < d.length → Srt lt c → Srt lt d → c.length + d.length ≤ n → l.length ≤ 1099511627776 →
  AFn Tryz.prog 183 [.one (.ref 0 0 (.cell 0)), av (.int .i64 a), av (.int .i64 m), av (.int .i64 b), av (.func (.func f) #[] #[])] [[.us 83 (l.map Ent.enc)]] (.tup []) [[.us 83 (r.map Ent.enc)]]
theorem symMerge_left (f : FuncId) (lt : Ent → Ent → Bool) (hw : Wk lt) (hf : CmpOk f lt) (x c d y l r : List Ent) (a m b : Nat) (hl : l = x ++ c ++ d ++ y) (hr : r = x ++ mrg lt c d ++ y) (ha : a = x.length) (hm : m = x.length + c.length) (hb : b = x.length + c.length + d.length) (hc : c.length = 1) (hd : 0 < d.length) (sd : Srt lt d) (hx : l.length ≤ 1099511627776) :
  AFn Tryz.prog 183 [.one (.ref 0 0 (.cell 0)), av (.int .i64 a), av (.int .i64 m), av (.int .i64 b), av (.func (.func f) #[] #[])] [[.us 83 (l.map Ent.enc)]] (.tup []) [[.us 83 (r.map Ent.enc)]] := by
 obtain ⟨ord, hord, hfn⟩ := hf
 have hll : l.length = x.length + c.length + d.length + y.length := by rw [hl]; simp; omega
 refine AFn.introX (E := En 1 (md1 [183, 203])) (en_ok 1 _) Tryz.func183 rfl rfl rfl fun _ hs => ?_
 have hlm : (l.map Ent.enc).length = l.length := List.length_map ..
 have gd : ∀ k (hk : k < d.length), (l.map Ent.enc)[m + k]? = some d[k].enc := fun k hk => by rw [List.getElem?_map, hl, get_r (i := k) (by omega) hk]; rfl
 have gc : ∀ k (hk : k < c.length), (l.map Ent.enc)[a + k]? = some c[k].enc := fun k hk => by rw [List.getElem?_map, hl, get_l (i := k) (by omega) hk]; rfl
 refine Num.mk ((c.length : Nat) : Int) (wrapI' (by omega) (by omega)) ?_
 refine Split.mk fun t ht => ?_
 cases t
 ·simp at ht; omega
 have he : ∃ e, c = [e] := by
  match c, hc with
  | [e], _ => exact ⟨e, rfl⟩
 obtain ⟨e, he⟩ := he
 subst he
 have ge : (l.map Ent.enc)[a]? = some e.enc := gc 0 (by simp)
 let S : Nat → Nat → St := fun i j => ⟨some (.one (.ref 0 0 (.cell 0))) :: some (av (.int .i64 a)) :: some (av (.int .i64 m)) :: some (av (.int .i64 b)) :: some (av (.func (.func f) #[] #[])) :: none :: none :: none :: none :: none :: some (av (.int .i64 i)) :: some (av (.int .i64 j)) :: List.replicate 208 none, ⟨0, 1, some [.us 83 (l.map Ent.enc)]⟩ :: List.replicate 220 absent⟩
 refine ALoop.mk (fun n s => ∃ p q : Nat, p ≤ q ∧ q ≤ d.length ∧ n = q - p ∧ (∀ k (hk : k < d.length), k < p → lt d[k] e = true) ∧ (∀ k (hk : k < d.length), q ≤ k → lt d[k] e = false) ∧ s = S (m + p) (m + q))
  ⟨d.length, _, Weak.nrm [true, true, true, true, true, false, false, false, false, false, true, true] [(0, 0)] rfl rfl rfl, 0, d.length, Nat.zero_le _, Nat.le_refl _, rfl, by intro k hk h; omega, by intro k hk h; omega, by rw [show m + d.length = b by omega]; rfl⟩ ?_
 rintro n s ⟨p, q, hpq, hq, rfl, h1, h2, hs⟩
 by_cases hlt : p < q
 ·have hk : (p + q) / 2 < d.length := by omega
  by_cases hcmp : lt (d[(p + q) / 2]) e = true
  ·have h1' : ∀ k (hk : k < d.length), k < (p + q) / 2 + 1 → lt d[k] e = true := fun k hk' hle => by
    cases hx' : lt d[k] e with
    | true => rfl
    | false => have := hw.nt _ _ _ (srt_get hw sd (i := k) (j := (p + q) / 2) (by omega) hk) hx'; rw [hcmp] at this; cases this
   subst hs
   refine Split.mk fun t ht => ?_
   cases t
   ·simp at ht; omega
   refine Num.mk ((m + p + (m + q) : Nat) : Int) (wrapI' (by omega) (by omega)) ?_
   refine Num.mk _ (wrapU (by omega)) ?_
   refine Need.mk (by decide) ?_
   refine Num.mk _ (half (by omega)) ?_
   have hh : (m + p + (m + q)) / 2 = m + (p + q) / 2 := by omega
   refine Need.mk ⟨by omega, by rw [hlm]; omega⟩ ?_
   refine Row.mk _ (by show (l.map Ent.enc)[(m + p + (m + q)) / 2]? = _; rw [hh]; exact gd _ hk) ?_
   refine Need.mk ⟨by omega, by rw [hlm]; omega⟩ ?_
   refine Row.mk _ ge ?_
   refine ACall.mk _ _ (hfn _ e) ?_
   refine Split.mk fun t ht3 => ?_
   rw [hord, hcmp] at ht3
   subst ht3
   refine Need.mk rfl ?_
   refine Num.mk _ (wrapS (by omega)) ?_
   refine ⟨q - ((p + q) / 2 + 1), _, by omega, Weak.nrm [true, true, true, true, true, false, false, false, false, false, true, true] [(0, 0)] rfl rfl rfl, (p + q) / 2 + 1, q, by omega, hq, rfl, h1', h2, ?_⟩
   rw [show m + ((p + q) / 2 + 1) = (m + p + (m + q)) / 2 + 1 by omega]; rfl
  ·have hcmp : lt (d[(p + q) / 2]) e = false := by simpa using hcmp
   have h2' : ∀ k (hk : k < d.length), (p + q) / 2 ≤ k → lt d[k] e = false := fun k hk' hle => hw.nt _ _ _ (srt_get hw sd (i := (p + q) / 2) (j := k) hle hk') hcmp
   subst hs
   refine Split.mk fun t ht => ?_
   cases t
   ·simp at ht; omega
   refine Num.mk ((m + p + (m + q) : Nat) : Int) (wrapI' (by omega) (by omega)) ?_
   refine Num.mk _ (wrapU (by omega)) ?_
   refine Need.mk (by decide) ?_
   refine Num.mk _ (half (by omega)) ?_
   have hh : (m + p + (m + q)) / 2 = m + (p + q) / 2 := by omega
   refine Need.mk ⟨by omega, by rw [hlm]; omega⟩ ?_
   refine Row.mk _ (by show (l.map Ent.enc)[(m + p + (m + q)) / 2]? = _; rw [hh]; exact gd _ hk) ?_
   refine Need.mk ⟨by omega, by rw [hlm]; omega⟩ ?_
   refine Row.mk _ ge ?_
   refine ACall.mk _ _ (hfn _ e) ?_
   refine Split.mk fun t ht3 => ?_
   rw [hord, hcmp] at ht3
   subst ht3
   refine Need.mk rfl ?_
   refine ⟨(p + q) / 2 - p, _, by omega, Weak.nrm [true, true, true, true, true, false, false, false, false, false, true, true] [(0, 0)] rfl rfl rfl, p, (p + q) / 2, by omega, by omega, rfl, h1, h2', ?_⟩
   rw [← hh]; rfl
 ·have hpq : q = p := by omega
  subst hpq
  have hfin : r = x ++ d.take q ++ e :: (d.drop q ++ y) := by rw [hr, mrg_one_l h1 h2]; simp
  have h0 : l = x ++ d.take 0 ++ e :: (d.drop 0 ++ y) := by rw [hl]; simp
  subst hs
  refine Split.mk fun t ht => ?_
  cases t
  ·let S2 : List Ent → Nat → Nat → St := fun ys p k => ⟨some (.one (.ref 0 0 (.cell 0))) :: some (av (.int .i64 a)) :: some (av (.int .i64 m)) :: some (av (.int .i64 b)) :: some (av (.func (.func f) #[] #[])) :: none :: none :: none :: none :: none :: some (av (.int .i64 ((m + p : Nat) : Int))) :: none :: none :: some (av (.int .i64 k)) :: List.replicate 206 none, ⟨0, 1, some [.us 83 (ys.map Ent.enc)]⟩ :: List.replicate 220 absent⟩
   refine ALoop.mk (fun n s => ∃ t : Nat, t ≤ q ∧ n = q - t ∧ s = S2 (x ++ d.take t ++ e :: (d.drop t ++ y)) q (a + t))
    ⟨q, _, Weak.nrm [true, true, true, true, true, false, false, false, false, false, true, false, false, true] [(0, 0)] rfl rfl rfl, 0, Nat.zero_le _, rfl, by rw [← h0]; rfl⟩ ?_
   rintro n s ⟨t, ht, rfl, hs⟩
   by_cases htq : t = q
   ·subst htq
    rw [← hfin] at hs
    subst hs
    refine Num.mk ((a + t : Nat) : Int) (wrapI' (by simp at hm; omega) (by omega)) ?_
    refine Split.mk fun t ht => ?_
    cases t
    ·exact Need.mk ⟨[], _, .same, rfl, rfl⟩ trivial
    ·simp at ht
   ·have htd : t < d.length := by omega
    have hys : x ++ d.take t ++ e :: (d.drop t ++ y) = x ++ d.take t ++ e :: d[t] :: (d.drop (t + 1) ++ y) := by rw [List.drop_eq_getElem_cons htd]; rfl
    have hys2 : x ++ d.take t ++ d[t] :: e :: (d.drop (t + 1) ++ y) = x ++ d.take (t + 1) ++ e :: (d.drop (t + 1) ++ y) := by rw [List.take_succ_eq_append_getElem htd]; simp only [List.append_assoc, List.cons_append, List.nil_append]
    have hadj := adj Ent.enc (x ++ d.take t) (d.drop (t + 1) ++ y) e d[t] (k := a + t) (by simp; omega)
    obtain ⟨g0, g1, g2, g3, _, _⟩ := hadj
    have hln : ((x ++ d.take t ++ e :: d[t] :: (d.drop (t + 1) ++ y)).map Ent.enc).length = l.length := by rw [List.length_map, ← hys]; simp at hll ⊢; omega
    have hln2 : (((x ++ d.take t ++ e :: d[t] :: (d.drop (t + 1) ++ y)).map Ent.enc).set (a + t) d[t].enc).length = l.length := by rw [List.length_set, hln]
    have hm1 : m = a + 1 := by simp at hm; omega
    rw [hys] at hs
    have hex := exq (x ++ d.take t ++ e :: d[t] :: (d.drop (t + 1) ++ y))
    obtain ⟨ys, hyy⟩ := hex
    rw [hyy] at hs g0 g1 g2 g3 hln hln2
    rw [hys2] at g3
    subst hs
    refine Num.mk ((a + q : Nat) : Int) (wrapI' (by omega) (by omega)) ?_
    refine Split.mk fun t' ht' => ?_
    cases t'
    ·simp at ht'; omega
    refine Num.mk ((a + t + 1 : Nat) : Int) (wrapI' (by omega) (by omega)) ?_
    refine Num.mk ((a + t + 1 : Nat) : Int) (wrapI' (by omega) (by omega)) ?_
    refine Need.mk ⟨by omega, by rw [hln]; omega⟩ ?_
    refine Row.mk _ g1 ?_
    refine Need.mk ⟨by omega, by rw [hln]; omega⟩ ?_
    refine Row.mk _ g0 ?_
    refine Need.mk ⟨by omega, by rw [hln]; omega⟩ ?_
    refine Row.mk _ g0 ?_
    refine Need.mk ⟨by omega, show ((a + t + 1 : Nat) : Int) < ((((ys.map Ent.enc).set (a + t) d[t].enc).length : Nat) : Int) from by rw [hln2]; omega⟩ ?_
    refine Row.mk _ g2 ?_
    refine Need.mk rfl ?_
    refine Num.mk ((a + t + 1 : Nat) : Int) (wrapI' (by omega) (by omega)) ?_
    refine ⟨q - (t + 1), _, by omega, Weak.nrm [true, true, true, true, true, false, false, false, false, false, true, false, false, true] [(0, 0)] rfl rfl rfl, t + 1, by omega, rfl, ?_⟩
    refine Eq.trans (b := ⟨some (.one (.ref 0 0 (.cell 0))) :: some (av (.int .i64 a)) :: some (av (.int .i64 m)) :: some (av (.int .i64 b)) :: some (av (.func (.func f) #[] #[])) :: none :: none :: none :: none :: none :: some (av (.int .i64 ((m + q : Nat) : Int))) :: none :: none :: some (av (.int .i64 ((a + t + 1 : Nat) : Int))) :: List.replicate 206 none, ⟨0, 1, some [.us 83 (((ys.map Ent.enc).set (a + t) d[t].enc).set (a + t + 1) e.enc)]⟩ :: List.replicate 220 absent⟩) rfl ?_
    rw [g3]; rfl
  ·simp at ht
theorem symMerge_right (f : FuncId) (lt : Ent → Ent → Bool) (hw : Wk lt) (hf : CmpOk f lt) (x c d y l r : List Ent) (a m b : Nat) (hl : l = x ++ c ++ d ++ y) (hr : r = x ++ mrg lt c d ++ y) (ha : a = x.length) (hm : m = x.length + c.length) (hb : b = x.length + c.length + d.length) (hc : 1 < c.length) (hd : d.length = 1) (sc : Srt lt c) (hx : l.length ≤ 1099511627776) :
  AFn Tryz.prog 183 [.one (.ref 0 0 (.cell 0)), av (.int .i64 a), av (.int .i64 m), av (.int .i64 b), av (.func (.func f) #[] #[])] [[.us 83 (l.map Ent.enc)]] (.tup []) [[.us 83 (r.map Ent.enc)]] := by
 obtain ⟨ord, hord, hfn⟩ := hf
 have hll : l.length = x.length + c.length + d.length + y.length := by rw [hl]; simp; omega
 refine AFn.introX (E := En 1 (md1 [183, 203])) (en_ok 1 _) Tryz.func183 rfl rfl rfl fun _ hs => ?_
 have hlm : (l.map Ent.enc).length = l.length := List.length_map ..
 have gd : ∀ k (hk : k < d.length), (l.map Ent.enc)[m + k]? = some d[k].enc := fun k hk => by rw [List.getElem?_map, hl, get_r (i := k) (by omega) hk]; rfl
 have gc : ∀ k (hk : k < c.length), (l.map Ent.enc)[a + k]? = some c[k].enc := fun k hk => by rw [List.getElem?_map, hl, get_l (i := k) (by omega) hk]; rfl
 refine Num.mk ((c.length : Nat) : Int) (wrapI' (by omega) (by omega)) ?_
 refine Split.mk fun t ht => ?_
 cases t
 case true => simp at ht; omega
 refine Num.mk ((d.length : Nat) : Int) (wrapI' (by omega) (by omega)) ?_
 refine Split.mk fun t ht => ?_
 cases t
 ·simp at ht; omega
 have he : ∃ e, d = [e] := by
  match d, hd with
  | [e], _ => exact ⟨e, rfl⟩
 obtain ⟨e, he⟩ := he
 subst he
 have ge : (l.map Ent.enc)[m]? = some e.enc := gd 0 (by simp)
 let S : Nat → Nat → St := fun i j => ⟨some (.one (.ref 0 0 (.cell 0))) :: some (av (.int .i64 a)) :: some (av (.int .i64 m)) :: some (av (.int .i64 b)) :: some (av (.func (.func f) #[] #[])) :: none :: none :: none :: none :: none :: none :: none :: none :: none :: some (av (.int .i64 i)) :: some (av (.int .i64 j)) :: List.replicate 204 none, ⟨0, 1, some [.us 83 (l.map Ent.enc)]⟩ :: List.replicate 220 absent⟩
 refine ALoop.mk (fun n s => ∃ p q : Nat, p ≤ q ∧ q ≤ c.length ∧ n = q - p ∧ (∀ k (hk : k < c.length), k < p → lt e c[k] = false) ∧ (∀ k (hk : k < c.length), q ≤ k → lt e c[k] = true) ∧ s = S (a + p) (a + q))
  ⟨c.length, _, Weak.nrm [true, true, true, true, true, false, false, false, false, false, false, false, false, false, true, true] [(0, 0)] rfl rfl rfl, 0, c.length, Nat.zero_le _, Nat.le_refl _, rfl, by intro k hk h; omega, by intro k hk h; omega, by rw [show a + c.length = m by omega]; rfl⟩ ?_
 rintro n s ⟨p, q, hpq, hq, rfl, h1, h2, hs⟩
 by_cases hlt : p < q
 ·have hk : (p + q) / 2 < c.length := by omega
  by_cases hcmp : lt e (c[(p + q) / 2]) = false
  ·have h1' : ∀ k (hk : k < c.length), k < (p + q) / 2 + 1 → lt e c[k] = false := fun k hk' hle => hw.nt _ _ _ hcmp (srt_get hw sc (i := k) (j := (p + q) / 2) (by omega) hk)
   subst hs
   refine Split.mk fun t ht => ?_
   cases t
   ·simp at ht; omega
   refine Num.mk ((a + p + (a + q) : Nat) : Int) (wrapI' (by omega) (by omega)) ?_
   refine Num.mk _ (wrapU (by omega)) ?_
   refine Need.mk (by decide) ?_
   refine Num.mk _ (half (by omega)) ?_
   have hh : (a + p + (a + q)) / 2 = a + (p + q) / 2 := by omega
   refine Need.mk ⟨by omega, by rw [hlm]; omega⟩ ?_
   refine Row.mk _ ge ?_
   refine Need.mk ⟨by omega, by rw [hlm]; omega⟩ ?_
   refine Row.mk _ (by show (l.map Ent.enc)[(a + p + (a + q)) / 2]? = _; rw [hh]; exact gc _ hk) ?_
   refine ACall.mk _ _ (hfn e _) ?_
   refine Split.mk fun t ht3 => ?_
   rw [hord, hcmp] at ht3
   subst ht3
   refine Need.mk rfl ?_
   refine Num.mk _ (wrapS (by omega)) ?_
   refine ⟨q - ((p + q) / 2 + 1), _, by omega, Weak.nrm [true, true, true, true, true, false, false, false, false, false, false, false, false, false, true, true] [(0, 0)] rfl rfl rfl, (p + q) / 2 + 1, q, by omega, hq, rfl, h1', h2, ?_⟩
   rw [show a + ((p + q) / 2 + 1) = (a + p + (a + q)) / 2 + 1 by omega]; rfl
  ·have hcmp : lt e (c[(p + q) / 2]) = true := by simpa using hcmp
   have h2' : ∀ k (hk : k < c.length), (p + q) / 2 ≤ k → lt e c[k] = true := fun k hk' hle => by
    cases hx' : lt e c[k] with
    | true => rfl
    | false => have := hw.nt _ _ _ hx' (srt_get hw sc (i := (p + q) / 2) (j := k) hle hk'); rw [hcmp] at this; cases this
   subst hs
   refine Split.mk fun t ht => ?_
   cases t
   ·simp at ht; omega
   refine Num.mk ((a + p + (a + q) : Nat) : Int) (wrapI' (by omega) (by omega)) ?_
   refine Num.mk _ (wrapU (by omega)) ?_
   refine Need.mk (by decide) ?_
   refine Num.mk _ (half (by omega)) ?_
   have hh : (a + p + (a + q)) / 2 = a + (p + q) / 2 := by omega
   refine Need.mk ⟨by omega, by rw [hlm]; omega⟩ ?_
   refine Row.mk _ ge ?_
   refine Need.mk ⟨by omega, by rw [hlm]; omega⟩ ?_
   refine Row.mk _ (by show (l.map Ent.enc)[(a + p + (a + q)) / 2]? = _; rw [hh]; exact gc _ hk) ?_
   refine ACall.mk _ _ (hfn e _) ?_
   refine Split.mk fun t ht3 => ?_
   rw [hord, hcmp] at ht3
   subst ht3
   refine Need.mk rfl ?_
   refine ⟨(p + q) / 2 - p, _, by omega, Weak.nrm [true, true, true, true, true, false, false, false, false, false, false, false, false, false, true, true] [(0, 0)] rfl rfl rfl, p, (p + q) / 2, by omega, by omega, rfl, h1, h2', ?_⟩
   rw [← hh]; rfl
 ·have hpq : q = p := by omega
  subst hpq
  have hfin : r = x ++ c.take q ++ e :: (c.drop q ++ y) := by rw [hr, mrg_one_r h1 h2]; simp
  have h0 : l = x ++ c.take c.length ++ e :: (c.drop c.length ++ y) := by rw [hl]; simp
  subst hs
  refine Split.mk fun t ht => ?_
  cases t
  ·let S2 : List Ent → Nat → Nat → St := fun ys p k => ⟨some (.one (.ref 0 0 (.cell 0))) :: some (av (.int .i64 a)) :: some (av (.int .i64 m)) :: some (av (.int .i64 b)) :: some (av (.func (.func f) #[] #[])) :: none :: none :: none :: none :: none :: none :: none :: none :: none :: some (av (.int .i64 ((a + p : Nat) : Int))) :: none :: none :: some (av (.int .i64 k)) :: List.replicate 202 none, ⟨0, 1, some [.us 83 (ys.map Ent.enc)]⟩ :: List.replicate 220 absent⟩
   refine ALoop.mk (fun n s => ∃ t : Nat, q ≤ t ∧ t ≤ c.length ∧ n = t - q ∧ s = S2 (x ++ c.take t ++ e :: (c.drop t ++ y)) q (a + t))
    ⟨c.length - q, _, Weak.nrm [true, true, true, true, true, false, false, false, false, false, false, false, false, false, true, false, false, true] [(0, 0)] rfl rfl rfl, c.length, hq, Nat.le_refl _, rfl, by rw [← h0, show a + c.length = m by omega]; rfl⟩ ?_
   rintro n s ⟨t, htq0, ht, rfl, hs⟩
   by_cases htq : t = q
   ·subst htq
    rw [← hfin] at hs
    subst hs
    refine Split.mk fun t ht => ?_
    cases t
    ·exact Need.mk ⟨[], _, .same, rfl, rfl⟩ trivial
    ·simp at ht
   ·have hexu : ∃ u, t = u + 1 := ⟨t - 1, by omega⟩
    obtain ⟨u, hu⟩ := hexu
    subst hu
    have htd : u < c.length := by omega
    have hys : x ++ c.take (u + 1) ++ e :: (c.drop (u + 1) ++ y) = x ++ c.take u ++ c[u] :: e :: (c.drop (u + 1) ++ y) := by rw [List.take_succ_eq_append_getElem htd]; simp only [List.append_assoc, List.cons_append, List.nil_append]
    have hys2 : x ++ c.take u ++ e :: c[u] :: (c.drop (u + 1) ++ y) = x ++ c.take u ++ e :: (c.drop u ++ y) := by rw [List.drop_eq_getElem_cons htd]; rfl
    have hadj := adj Ent.enc (x ++ c.take u) (c.drop (u + 1) ++ y) c[u] e (k := a + u) (by simp; omega)
    obtain ⟨g0, g1, _, _, g2, g3⟩ := hadj
    have hln : ((x ++ c.take u ++ c[u] :: e :: (c.drop (u + 1) ++ y)).map Ent.enc).length = l.length := by rw [List.length_map, ← hys]; simp at hll ⊢; omega
    have hln2 : (((x ++ c.take u ++ c[u] :: e :: (c.drop (u + 1) ++ y)).map Ent.enc).set (a + u + 1) c[u].enc).length = l.length := by rw [List.length_set, hln]
    rw [hys] at hs
    have hex := exq (x ++ c.take u ++ c[u] :: e :: (c.drop (u + 1) ++ y))
    obtain ⟨ys, hyy⟩ := hex
    rw [hyy] at hs g0 g1 g2 g3 hln hln2
    rw [hys2] at g3
    subst hs
    refine Split.mk fun t' ht' => ?_
    cases t'
    ·simp at ht'; omega
    have hnum : IntKind.i64.wrap (((a + (u + 1) : Nat) : Int) - 1) = ((a + u : Nat) : Int) := wrapI' (by omega) (by omega)
    refine Num.mk _ hnum ?_
    refine Num.mk _ hnum ?_
    refine Need.mk ⟨by omega, by rw [hln]; omega⟩ ?_
    refine Row.mk _ g0 ?_
    refine Need.mk ⟨by omega, by rw [hln]; omega⟩ ?_
    refine Row.mk _ g1 ?_
    refine Need.mk ⟨by omega, by rw [hln]; omega⟩ ?_
    refine Row.mk _ g1 ?_
    refine Need.mk ⟨by omega, show ((a + u : Nat) : Int) < ((((ys.map Ent.enc).set (a + u + 1) c[u].enc).length : Nat) : Int) from by rw [hln2]; omega⟩ ?_
    refine Row.mk _ g2 ?_
    refine Need.mk rfl ?_
    refine Num.mk _ hnum ?_
    refine ⟨u - q, _, by omega, Weak.nrm [true, true, true, true, true, false, false, false, false, false, false, false, false, false, true, false, false, true] [(0, 0)] rfl rfl rfl, u, by omega, by omega, rfl, ?_⟩
    refine Eq.trans (b := ⟨some (.one (.ref 0 0 (.cell 0))) :: some (av (.int .i64 a)) :: some (av (.int .i64 m)) :: some (av (.int .i64 b)) :: some (av (.func (.func f) #[] #[])) :: none :: none :: none :: none :: none :: none :: none :: none :: none :: some (av (.int .i64 ((a + q : Nat) : Int))) :: none :: none :: some (av (.int .i64 ((a + u : Nat) : Int))) :: List.replicate 202 none, ⟨0, 1, some [.us 83 (((ys.map Ent.enc).set (a + u + 1) c[u].enc).set (a + u) e.enc)]⟩ :: List.replicate 220 absent⟩) rfl ?_
    rw [g3]
  ·simp at ht
theorem symMerge_hi (f : FuncId) (lt : Ent → Ent → Bool) (hw : Wk lt) (hf : CmpOk f lt) (n : Nat) (ih : ∀ k, k < n → SymM f lt k) (x c d y l r : List Ent) (a m b mid : Nat) (hl : l = x ++ c ++ d ++ y) (hr : r = x ++ mrg lt c d ++ y) (ha : a = x.length) (hm : m = x.length + c.length) (hb : b = x.length + c.length + d.length) (hc : 1 < c.length) (hd : 1 < d.length) (sc : Srt lt c) (sd : Srt lt d) (hcd : c.length + d.length ≤ n) (hx : l.length ≤ 1099511627776) (hmid : (a + b) / 2 = mid) (hwh : mid < m) :
  AFn Tryz.prog 183 [.one (.ref 0 0 (.cell 0)), av (.int .i64 a), av (.int .i64 m), av (.int .i64 b), av (.func (.func f) #[] #[])] [[.us 83 (l.map Ent.enc)]] (.tup []) [[.us 83 (r.map Ent.enc)]] := by
 obtain ⟨ord, hord, hfn⟩ := hf
 have hll : l.length = x.length + c.length + d.length + y.length := by rw [hl]; simp; omega
 refine AFn.introX (E := En 1 (md1 [183, 203])) (en_ok 1 _) Tryz.func183 rfl rfl rfl fun _ hs => ?_
 have hlm : (l.map Ent.enc).length = l.length := List.length_map ..
 have gd : ∀ k (hk : k < d.length), (l.map Ent.enc)[m + k]? = some d[k].enc := fun k hk => by rw [List.getElem?_map, hl, get_r (i := k) (by omega) hk]; rfl
 have gc : ∀ k (hk : k < c.length), (l.map Ent.enc)[a + k]? = some c[k].enc := fun k hk => by rw [List.getElem?_map, hl, get_l (i := k) (by omega) hk]; rfl
 refine Num.mk ((c.length : Nat) : Int) (wrapI' (by omega) (by omega)) ?_
 refine Split.mk fun t ht => ?_
 cases t
 case true => simp at ht; omega
 refine Num.mk ((d.length : Nat) : Int) (wrapI' (by omega) (by omega)) ?_
 refine Split.mk fun t ht => ?_
 cases t
 case true => simp at ht; omega
 refine Num.mk ((a + b : Nat) : Int) (wrapI' (by omega) (by omega)) ?_
 refine Num.mk _ (wrapU (by omega)) ?_
 refine Need.mk (by decide) ?_
 refine Num.mk ((mid : Nat) : Int) (by rw [← hmid]; exact half (by omega)) ?_
 refine Num.mk ((mid + m : Nat) : Int) (wrapI' (by omega) (by omega)) ?_
 refine Split.mk fun t ht => ?_
 cases t
 ·first | (simp at ht; done) | (simp at ht; omega) | omega
 refine Num.mk ((mid + m - b : Nat) : Int) (wrapI' (by omega) (by omega)) ?_
 refine Num.mk ((mid + m - 1 : Nat) : Int) (wrapI' (by omega) (by omega)) ?_
 let S : Nat → Nat → St := fun s t => ⟨some (.one (.ref 0 0 (.cell 0))) :: some (av (.int .i64 a)) :: some (av (.int .i64 m)) :: some (av (.int .i64 b)) :: some (av (.func (.func f) #[] #[])) :: none :: none :: none :: none :: none :: none :: none :: none :: none :: none :: none :: none :: none :: some (av (.int .i64 mid)) :: some (av (.int .i64 ((mid + m : Nat) : Int))) :: some (av (.int .i64 s)) :: some (av (.int .i64 t)) :: some (av (.int .i64 ((mid + m - 1 : Nat) : Int))) :: List.replicate 197 none, ⟨0, 1, some [.us 83 (l.map Ent.enc)]⟩ :: List.replicate 220 absent⟩
 refine ALoop.mk (fun n s' => ∃ s t : Nat, mid + m - b ≤ s ∧ s ≤ t ∧ t ≤ mid ∧ n = t - s ∧ (∀ k, mid + m - b ≤ k → k < s → ∀ (i j : Nat) (hi : i < d.length) (hj : j < c.length), i + k + 1 = mid → j + a = k → lt d[i] c[j] = false) ∧ (∀ k, t ≤ k → k < mid → ∀ (i j : Nat) (hi : i < d.length) (hj : j < c.length), i + k + 1 = mid → j + a = k → lt d[i] c[j] = true) ∧ s' = S s t)
  ⟨mid - (mid + m - b), _, Weak.nrm [true, true, true, true, true, false, false, false, false, false, false, false, false, false, false, false, false, false, true, true, true, true, true] [(0, 0)] rfl rfl rfl, mid + m - b, mid, Nat.le_refl _, by omega, Nat.le_refl _, rfl, by intro k hk1 hk2; omega, by intro k hk1 hk2; omega, rfl⟩ ?_
 rintro n' s' ⟨s, t, hs0, hst, htr, rfl, h1, h2, hs⟩
 by_cases hlt : s < t
 ·have hk : (s + t) / 2 < mid := by omega
  have hk0 : s ≤ (s + t) / 2 := by omega
  have hi0 : mid - (s + t) / 2 - 1 < d.length := by omega
  have hj0 : (s + t) / 2 - a < c.length := by omega
  have hp : IntKind.i64.wrap (((mid + m - 1 : Nat) : Int) - (((s + t) / 2 : Nat) : Int)) = ((m + (mid - (s + t) / 2 - 1) : Nat) : Int) := wrapI' (by omega) (by omega)
  have gcc : (l.map Ent.enc)[(s + t) / 2]? = some c[(s + t) / 2 - a].enc := by
   have := gc ((s + t) / 2 - a) hj0
   rwa [show a + ((s + t) / 2 - a) = (s + t) / 2 by omega] at this
  by_cases hcmp : lt d[mid - (s + t) / 2 - 1] c[(s + t) / 2 - a] = false
  ·have h1' : ∀ k, mid + m - b ≤ k → k < (s + t) / 2 + 1 → ∀ (i j : Nat) (hi : i < d.length) (hj : j < c.length), i + k + 1 = mid → j + a = k → lt d[i] c[j] = false := fun k hk1 hk2 i j hi hj e1 e2 => find_lo hw sc sd hi hj0 (by omega) (by omega) hcmp
   subst hs
   refine Split.mk fun t ht => ?_
   cases t
   ·first | (simp at ht; done) | (simp at ht; omega) | omega
   refine Num.mk ((s + t : Nat) : Int) (wrapI' (by omega) (by omega)) ?_
   refine Num.mk _ (wrapU (by omega)) ?_
   refine Need.mk (by decide) ?_
   refine Num.mk _ (half (by omega)) ?_
   refine Num.mk _ hp ?_
   refine Need.mk ⟨by omega, by rw [hlm]; omega⟩ ?_
   refine Row.mk _ (gd _ hi0) ?_
   refine Need.mk ⟨by omega, by rw [hlm]; omega⟩ ?_
   refine Row.mk _ gcc ?_
   refine ACall.mk _ _ (hfn _ _) ?_
   refine Split.mk fun t3 ht3 => ?_
   rw [hord, hcmp] at ht3
   subst ht3
   refine Need.mk rfl ?_
   refine Num.mk _ (wrapS (by omega)) ?_
   exact ⟨t - ((s + t) / 2 + 1), _, by omega, Weak.nrm [true, true, true, true, true, false, false, false, false, false, false, false, false, false, false, false, false, false, true, true, true, true, true] [(0, 0)] rfl rfl rfl, (s + t) / 2 + 1, t, by omega, by omega, htr, rfl, h1', h2, rfl⟩
  ·have hcmp : lt d[mid - (s + t) / 2 - 1] c[(s + t) / 2 - a] = true := by simpa using hcmp
   have h2' : ∀ k, (s + t) / 2 ≤ k → k < mid → ∀ (i j : Nat) (hi : i < d.length) (hj : j < c.length), i + k + 1 = mid → j + a = k → lt d[i] c[j] = true := fun k hk1 hk2 i j hi hj e1 e2 => find_hi hw sc sd hi0 hj (by omega) (by omega) hcmp
   subst hs
   refine Split.mk fun t ht => ?_
   cases t
   ·first | (simp at ht; done) | (simp at ht; omega) | omega
   refine Num.mk ((s + t : Nat) : Int) (wrapI' (by omega) (by omega)) ?_
   refine Num.mk _ (wrapU (by omega)) ?_
   refine Need.mk (by decide) ?_
   refine Num.mk _ (half (by omega)) ?_
   refine Num.mk _ hp ?_
   refine Need.mk ⟨by omega, by rw [hlm]; omega⟩ ?_
   refine Row.mk _ (gd _ hi0) ?_
   refine Need.mk ⟨by omega, by rw [hlm]; omega⟩ ?_
   refine Row.mk _ gcc ?_
   refine ACall.mk _ _ (hfn _ _) ?_
   refine Split.mk fun t3 ht3 => ?_
   rw [hord, hcmp] at ht3
   subst ht3
   refine Need.mk rfl ?_
   exact ⟨(s + t) / 2 - s, _, by omega, Weak.nrm [true, true, true, true, true, false, false, false, false, false, false, false, false, false, false, false, false, false, true, true, true, true, true] [(0, 0)] rfl rfl rfl, s, (s + t) / 2, hs0, by omega, by omega, rfl, h1, h2', rfl⟩
 ·have hst2 : t = s := by omega
  subst hst2
  have hmrg := mrg_find hw sc sd (s := t - a) (t := mid - t) (by omega) (by omega) (fun e1 e2 => h2 t (Nat.le_refl _) (by omega) _ _ _ _ (by omega) (by omega)) (fun e1 e2 => h1 (t - 1) (by omega) (by omega) _ _ _ _ (by omega) (by omega))
  have hend : IntKind.i64.wrap (((mid + m : Nat) : Int) - ((t : Nat) : Int)) = ((mid + m - t : Nat) : Int) := wrapI' (by omega) (by omega)
  by_cases hA : m ≤ t
  ·have hsm : t = m := by omega
   have eA : c.drop (t - a) = [] := List.drop_eq_nil_of_le (by omega)
   have eA1 : c.take (t - a) = c := List.take_of_length_le (by omega)
   rw [eA, eA1, mrg_nil] at hmrg
   by_cases hB : t < mid
   ·have e0 : l = x ++ c ++ d.take (mid - t) ++ (d.drop (mid - t) ++ y) := by
     rw [hl]
     conv => lhs; rw [← List.take_append_drop (mid - t) d]
     simp only [List.append_assoc]
    have H := ih (mid - a) (by omega) x c (d.take (mid - t)) (d.drop (mid - t) ++ y) l r a t mid e0 (by rw [hr, hmrg]; simp only [List.append_assoc]) ha (by omega) (by rw [List.length_take]; omega) (by omega) (by rw [List.length_take]; omega) sc (srt_take sd _) (by rw [List.length_take]; omega) hx
    subst hs
    refine Split.mk fun t ht => ?_
    cases t
    case true => first | (simp at ht; done) | (simp at ht; omega) | omega
    refine Num.mk _ hend ?_
    refine Split.mk fun t ht => ?_
    cases t
    case true => first | (simp at ht; done) | (simp at ht; omega) | omega
    refine Split.mk fun t ht => ?_
    cases t
    ·first | (simp at ht; done) | (simp at ht; omega) | omega
    refine Split.mk fun t ht => ?_
    cases t
    ·first | (simp at ht; done) | (simp at ht; omega) | omega
    refine ACall.mk _ _ H ?_
    refine Split.mk fun t ht => ?_
    cases t
    case true => first | (simp at ht; done) | (simp at ht; omega) | omega
    exact Need.mk ⟨[], _, .same, rfl, rfl⟩ trivial
   ·have eB : d.take (mid - t) = [] := by rw [show mid - t = 0 by omega]; rfl
    have eB1 : d.drop (mid - t) = d := by rw [show mid - t = 0 by omega]; rfl
    rw [eB, eB1, mrg_nil_r] at hmrg
    have hrl : l = r := by rw [hl, hr, hmrg]; simp only [List.append_assoc]
    subst hs
    refine Split.mk fun t ht => ?_
    cases t
    case true => first | (simp at ht; done) | (simp at ht; omega) | omega
    refine Num.mk _ hend ?_
    refine Split.mk fun t ht => ?_
    cases t
    case true => first | (simp at ht; done) | (simp at ht; omega) | omega
    refine Split.mk fun t ht => ?_
    cases t
    ·first | (simp at ht; done) | (simp at ht; omega) | omega
    refine Split.mk fun t ht => ?_
    cases t
    case true => first | (simp at ht; done) | (simp at ht; omega) | omega
    refine Split.mk fun t ht => ?_
    cases t
    case true => first | (simp at ht; done) | (simp at ht; omega) | omega
    exact Need.mk ⟨[], _, .same, rfl, by rw [← hrl]; rfl⟩ trivial
  ·by_cases hB : mid ≤ t
   ·have hsm : t = mid := by omega
    have eB : d.take (mid - t) = [] := by rw [show mid - t = 0 by omega]; rfl
    have eB1 : d.drop (mid - t) = d := by rw [show mid - t = 0 by omega]; rfl
    rw [eB, eB1, mrg_nil_r] at hmrg
    have H := ih (b - mid) (by omega) (x ++ c.take (t - a)) (c.drop (t - a)) d y l r mid (mid + m - t) b (by rw [hl, List.append_assoc x (c.take (t - a)), List.take_append_drop]) (by rw [hr, hmrg]; simp only [List.append_assoc]) (by rw [List.length_append, List.length_take]; omega) (by rw [List.length_append, List.length_take, List.length_drop]; omega) (by rw [List.length_append, List.length_take, List.length_drop]; omega) (by rw [List.length_drop]; omega) (by omega) (srt_drop sc _) sd (by rw [List.length_drop]; omega) hx
    subst hs
    refine Split.mk fun t ht => ?_
    cases t
    case true => first | (simp at ht; done) | (simp at ht; omega) | omega
    refine Num.mk _ hend ?_
    refine Split.mk fun t ht => ?_
    cases t
    ·first | (simp at ht; done) | (simp at ht; omega) | omega
    refine Split.mk fun t ht => ?_
    cases t
    case true => first | (simp at ht; done) | (simp at ht; omega) | omega
    refine Split.mk fun t ht => ?_
    cases t
    ·first | (simp at ht; done) | (simp at ht; omega) | omega
    refine Split.mk fun t ht => ?_
    cases t
    case true => first | (simp at ht; done) | (simp at ht; omega) | omega
    refine Split.mk fun t ht => ?_
    cases t
    ·first | (simp at ht; done) | (simp at ht; omega) | omega
    refine Split.mk fun t ht => ?_
    cases t
    ·first | (simp at ht; done) | (simp at ht; omega) | omega
    refine ACall.mk _ _ H ?_
    exact Need.mk ⟨[], _, .same, rfl, rfl⟩ trivial
   ·have e1 : l = x ++ c.take (t - a) ++ c.drop (t - a) ++ d.take (mid - t) ++ (d.drop (mid - t) ++ y) := by
     rw [hl]
     conv => lhs; rw [← List.take_append_drop (t - a) c, ← List.take_append_drop (mid - t) d]
     simp only [List.append_assoc]
    have H1 := slices_rotate f (x ++ c.take (t - a)) (c.drop (t - a)) (d.take (mid - t)) (d.drop (mid - t) ++ y) l (x ++ c.take (t - a) ++ d.take (mid - t) ++ c.drop (t - a) ++ (d.drop (mid - t) ++ y)  ) t m (mid + m - t) e1 rfl (by rw [List.length_append, List.length_take]; omega) (by rw [List.length_append, List.length_take, List.length_drop]; omega) (by rw [List.length_append, List.length_take, List.length_drop, List.length_take]; omega) (by rw [List.length_drop]; omega) (by rw [List.length_take]; omega) hx
    have hlen1 : (x ++ c.take (t - a) ++ d.take (mid - t) ++ c.drop (t - a) ++ (d.drop (mid - t) ++ y)).length ≤ 1099511627776 := by
     simp only [List.length_append, List.length_take, List.length_drop]; omega
    by_cases hC : a < t
    ·have H2 := ih (mid - a) (by omega) x (c.take (t - a)) (d.take (mid - t)) (c.drop (t - a) ++ (d.drop (mid - t) ++ y)) (x ++ c.take (t - a) ++ d.take (mid - t) ++ c.drop (t - a) ++ (d.drop (mid - t) ++ y)) (x ++ mrg lt (c.take (t - a)) (d.take (mid - t)) ++ (c.drop (t - a) ++ (d.drop (mid - t) ++ y))) a t mid (by simp only [List.append_assoc]) rfl ha (by rw [List.length_take]; omega) (by rw [List.length_take, List.length_take]; omega) (by rw [List.length_take]; omega) (by rw [List.length_take]; omega) (srt_take sc _) (srt_take sd _) (by rw [List.length_take, List.length_take]; omega) hlen1
     have hlen2 : (x ++ mrg lt (c.take (t - a)) (d.take (mid - t)) ++ (c.drop (t - a) ++ (d.drop (mid - t) ++ y))).length ≤ 1099511627776 := by
      simp only [List.length_append, List.length_take, List.length_drop, mrg_len]; omega
     by_cases hD : mid + m - t < b
     ·have H3 := ih (b - mid) (by omega) (x ++ mrg lt (c.take (t - a)) (d.take (mid - t))) (c.drop (t - a)) (d.drop (mid - t)) y (x ++ mrg lt (c.take (t - a)) (d.take (mid - t)) ++ (c.drop (t - a) ++ (d.drop (mid - t) ++ y))) r mid (mid + m - t) b (by simp only [List.append_assoc]) (by rw [hr, hmrg]; simp only [List.append_assoc]) (by simp only [List.length_append, mrg_len, List.length_take]; omega) (by simp only [List.length_append, mrg_len, List.length_take, List.length_drop]; omega) (by simp only [List.length_append, mrg_len, List.length_take, List.length_drop]; omega) (by rw [List.length_drop]; omega) (by rw [List.length_drop]; omega) (srt_drop sc _) (srt_drop sd _) (by rw [List.length_drop, List.length_drop]; omega) hlen2
      subst hs
      refine Split.mk fun t ht => ?_
      cases t
      case true => first | (simp at ht; done) | (simp at ht; omega) | omega
      refine Num.mk _ hend ?_
      refine Split.mk fun t ht => ?_
      cases t
      ·first | (simp at ht; done) | (simp at ht; omega) | omega
      refine Split.mk fun t ht => ?_
      cases t
      ·first | (simp at ht; done) | (simp at ht; omega) | omega
      refine ACall.mk _ _ H1 ?_
      refine Split.mk fun t ht => ?_
      cases t
      ·first | (simp at ht; done) | (simp at ht; omega) | omega
      refine Split.mk fun t ht => ?_
      cases t
      ·first | (simp at ht; done) | (simp at ht; omega) | omega
      refine ACall.mk _ _ H2 ?_
      refine Split.mk fun t ht => ?_
      cases t
      ·first | (simp at ht; done) | (simp at ht; omega) | omega
      refine Split.mk fun t ht => ?_
      cases t
      ·first | (simp at ht; done) | (simp at ht; omega) | omega
      refine ACall.mk _ _ H3 ?_
      exact Need.mk ⟨[], _, .same, rfl, rfl⟩ trivial
     ·have eD : d.drop (mid - t) = [] := List.drop_eq_nil_of_le (by omega)
      have hfin : x ++ mrg lt (c.take (t - a)) (d.take (mid - t)) ++ (c.drop (t - a) ++ (d.drop (mid - t) ++ y)) = r := by rw [hr, hmrg, eD, mrg_nil_r]; simp only [List.append_assoc, List.nil_append]
      rw [hfin] at H2
      subst hs
      refine Split.mk fun t ht => ?_
      cases t
      case true => first | (simp at ht; done) | (simp at ht; omega) | omega
      refine Num.mk _ hend ?_
      refine Split.mk fun t ht => ?_
      cases t
      ·first | (simp at ht; done) | (simp at ht; omega) | omega
      refine Split.mk fun t ht => ?_
      cases t
      ·first | (simp at ht; done) | (simp at ht; omega) | omega
      refine ACall.mk _ _ H1 ?_
      refine Split.mk fun t ht => ?_
      cases t
      ·first | (simp at ht; done) | (simp at ht; omega) | omega
      refine Split.mk fun t ht => ?_
      cases t
      ·first | (simp at ht; done) | (simp at ht; omega) | omega
      refine ACall.mk _ _ H2 ?_
      refine Split.mk fun t ht => ?_
      cases t
      ·first | (simp at ht; done) | (simp at ht; omega) | omega
      refine Split.mk fun t ht => ?_
      cases t
      case true => first | (simp at ht; done) | (simp at ht; omega) | omega
      exact Need.mk ⟨[], _, .same, rfl, rfl⟩ trivial
    ·have eC : c.take (t - a) = [] := by rw [show t - a = 0 by omega]; rfl
     have eC1 : c.drop (t - a) = c := by rw [show t - a = 0 by omega]; rfl
     rw [eC, eC1] at hmrg H1 hlen1
     rw [mrg_nil] at hmrg
     by_cases hD : mid + m - t < b
     ·have H3 := ih (b - mid) (by omega) (x ++ d.take (mid - t)) c (d.drop (mid - t)) y (x ++ [] ++ d.take (mid - t) ++ c ++ (d.drop (mid - t) ++ y)) r mid (mid + m - t) b (by simp only [List.append_assoc, List.nil_append]) (by rw [hr, hmrg]; simp only [List.append_assoc]) (by simp only [List.length_append, List.length_take]; omega) (by simp only [List.length_append, List.length_take]; omega) (by simp only [List.length_append, List.length_take, List.length_drop]; omega) (by omega) (by rw [List.length_drop]; omega) sc (srt_drop sd _) (by rw [List.length_drop]; omega) hlen1
      subst hs
      refine Split.mk fun t ht => ?_
      cases t
      case true => first | (simp at ht; done) | (simp at ht; omega) | omega
      refine Num.mk _ hend ?_
      refine Split.mk fun t ht => ?_
      cases t
      ·first | (simp at ht; done) | (simp at ht; omega) | omega
      refine Split.mk fun t ht => ?_
      cases t
      ·first | (simp at ht; done) | (simp at ht; omega) | omega
      refine ACall.mk _ _ H1 ?_
      refine Split.mk fun t ht => ?_
      cases t
      case true => first | (simp at ht; done) | (simp at ht; omega) | omega
      refine Split.mk fun t ht => ?_
      cases t
      ·first | (simp at ht; done) | (simp at ht; omega) | omega
      refine Split.mk fun t ht => ?_
      cases t
      ·first | (simp at ht; done) | (simp at ht; omega) | omega
      refine ACall.mk _ _ H3 ?_
      exact Need.mk ⟨[], _, .same, rfl, rfl⟩ trivial
     ·have eD : d.drop (mid - t) = [] := List.drop_eq_nil_of_le (by omega)
      have hfin : x ++ [] ++ d.take (mid - t) ++ c ++ (d.drop (mid - t) ++ y) = r := by rw [hr, hmrg, eD, mrg_nil_r]; simp only [List.append_assoc, List.nil_append]
      rw [hfin] at H1
      subst hs
      refine Split.mk fun t ht => ?_
      cases t
      case true => first | (simp at ht; done) | (simp at ht; omega) | omega
      refine Num.mk _ hend ?_
      refine Split.mk fun t ht => ?_
      cases t
      ·first | (simp at ht; done) | (simp at ht; omega) | omega
      refine Split.mk fun t ht => ?_
      cases t
      ·first | (simp at ht; done) | (simp at ht; omega) | omega
      refine ACall.mk _ _ H1 ?_
      refine Split.mk fun t ht => ?_
      cases t
      case true => first | (simp at ht; done) | (simp at ht; omega) | omega
      refine Split.mk fun t ht => ?_
      cases t
      ·first | (simp at ht; done) | (simp at ht; omega) | omega
      refine Split.mk fun t ht => ?_
      cases t
      case true => first | (simp at ht; done) | (simp at ht; omega) | omega
      exact Need.mk ⟨[], _, .same, rfl, rfl⟩ trivial
theorem symMerge_lo (f : FuncId) (lt : Ent → Ent → Bool) (hw : Wk lt) (hf : CmpOk f lt) (n : Nat) (ih : ∀ k, k < n → SymM f lt k) (x c d y l r : List Ent) (a m b mid : Nat) (hl : l = x ++ c ++ d ++ y) (hr : r = x ++ mrg lt c d ++ y) (ha : a = x.length) (hm : m = x.length + c.length) (hb : b = x.length + c.length + d.length) (hc : 1 < c.length) (hd : 1 < d.length) (sc : Srt lt c) (sd : Srt lt d) (hcd : c.length + d.length ≤ n) (hx : l.length ≤ 1099511627776) (hmid : (a + b) / 2 = mid) (hwh : m ≤ mid) :
  AFn Tryz.prog 183 [.one (.ref 0 0 (.cell 0)), av (.int .i64 a), av (.int .i64 m), av (.int .i64 b), av (.func (.func f) #[] #[])] [[.us 83 (l.map Ent.enc)]] (.tup []) [[.us 83 (r.map Ent.enc)]] := by
 obtain ⟨ord, hord, hfn⟩ := hf
 have hll : l.length = x.length + c.length + d.length + y.length := by rw [hl]; simp; omega
 refine AFn.introX (E := En 1 (md1 [183, 203])) (en_ok 1 _) Tryz.func183 rfl rfl rfl fun _ hs => ?_
 have hlm : (l.map Ent.enc).length = l.length := List.length_map ..
 have gd : ∀ k (hk : k < d.length), (l.map Ent.enc)[m + k]? = some d[k].enc := fun k hk => by rw [List.getElem?_map, hl, get_r (i := k) (by omega) hk]; rfl
 have gc : ∀ k (hk : k < c.length), (l.map Ent.enc)[a + k]? = some c[k].enc := fun k hk => by rw [List.getElem?_map, hl, get_l (i := k) (by omega) hk]; rfl
 refine Num.mk ((c.length : Nat) : Int) (wrapI' (by omega) (by omega)) ?_
 refine Split.mk fun t ht => ?_
 cases t
 case true => simp at ht; omega
 refine Num.mk ((d.length : Nat) : Int) (wrapI' (by omega) (by omega)) ?_
 refine Split.mk fun t ht => ?_
 cases t
 case true => simp at ht; omega
 refine Num.mk ((a + b : Nat) : Int) (wrapI' (by omega) (by omega)) ?_
 refine Num.mk _ (wrapU (by omega)) ?_
 refine Need.mk (by decide) ?_
 refine Num.mk ((mid : Nat) : Int) (by rw [← hmid]; exact half (by omega)) ?_
 refine Num.mk ((mid + m : Nat) : Int) (wrapI' (by omega) (by omega)) ?_
 refine Split.mk fun t ht => ?_
 cases t
 case true => first | (simp at ht; done) | (simp at ht; omega) | omega
 refine Num.mk ((mid + m - 1 : Nat) : Int) (wrapI' (by omega) (by omega)) ?_
 let S : Nat → Nat → St := fun s t => ⟨some (.one (.ref 0 0 (.cell 0))) :: some (av (.int .i64 a)) :: some (av (.int .i64 m)) :: some (av (.int .i64 b)) :: some (av (.func (.func f) #[] #[])) :: none :: none :: none :: none :: none :: none :: none :: none :: none :: none :: none :: none :: none :: some (av (.int .i64 mid)) :: some (av (.int .i64 ((mid + m : Nat) : Int))) :: some (av (.int .i64 s)) :: some (av (.int .i64 t)) :: some (av (.int .i64 ((mid + m - 1 : Nat) : Int))) :: List.replicate 197 none, ⟨0, 1, some [.us 83 (l.map Ent.enc)]⟩ :: List.replicate 220 absent⟩
 refine ALoop.mk (fun n s' => ∃ s t : Nat, a ≤ s ∧ s ≤ t ∧ t ≤ m ∧ n = t - s ∧ (∀ k, a ≤ k → k < s → ∀ (i j : Nat) (hi : i < d.length) (hj : j < c.length), i + k + 1 = mid → j + a = k → lt d[i] c[j] = false) ∧ (∀ k, t ≤ k → k < m → ∀ (i j : Nat) (hi : i < d.length) (hj : j < c.length), i + k + 1 = mid → j + a = k → lt d[i] c[j] = true) ∧ s' = S s t)
  ⟨m - (a), _, Weak.nrm [true, true, true, true, true, false, false, false, false, false, false, false, false, false, false, false, false, false, true, true, true, true, true] [(0, 0)] rfl rfl rfl, a, m, Nat.le_refl _, by omega, Nat.le_refl _, rfl, by intro k hk1 hk2; omega, by intro k hk1 hk2; omega, rfl⟩ ?_
 rintro n' s' ⟨s, t, hs0, hst, htr, rfl, h1, h2, hs⟩
 by_cases hlt : s < t
 ·have hk : (s + t) / 2 < m := by omega
  have hk0 : s ≤ (s + t) / 2 := by omega
  have hi0 : mid - (s + t) / 2 - 1 < d.length := by omega
  have hj0 : (s + t) / 2 - a < c.length := by omega
  have hp : IntKind.i64.wrap (((mid + m - 1 : Nat) : Int) - (((s + t) / 2 : Nat) : Int)) = ((m + (mid - (s + t) / 2 - 1) : Nat) : Int) := wrapI' (by omega) (by omega)
  have gcc : (l.map Ent.enc)[(s + t) / 2]? = some c[(s + t) / 2 - a].enc := by
   have := gc ((s + t) / 2 - a) hj0
   rwa [show a + ((s + t) / 2 - a) = (s + t) / 2 by omega] at this
  by_cases hcmp : lt d[mid - (s + t) / 2 - 1] c[(s + t) / 2 - a] = false
  ·have h1' : ∀ k, a ≤ k → k < (s + t) / 2 + 1 → ∀ (i j : Nat) (hi : i < d.length) (hj : j < c.length), i + k + 1 = mid → j + a = k → lt d[i] c[j] = false := fun k hk1 hk2 i j hi hj e1 e2 => find_lo hw sc sd hi hj0 (by omega) (by omega) hcmp
   subst hs
   refine Split.mk fun t ht => ?_
   cases t
   ·first | (simp at ht; done) | (simp at ht; omega) | omega
   refine Num.mk ((s + t : Nat) : Int) (wrapI' (by omega) (by omega)) ?_
   refine Num.mk _ (wrapU (by omega)) ?_
   refine Need.mk (by decide) ?_
   refine Num.mk _ (half (by omega)) ?_
   refine Num.mk _ hp ?_
   refine Need.mk ⟨by omega, by rw [hlm]; omega⟩ ?_
   refine Row.mk _ (gd _ hi0) ?_
   refine Need.mk ⟨by omega, by rw [hlm]; omega⟩ ?_
   refine Row.mk _ gcc ?_
   refine ACall.mk _ _ (hfn _ _) ?_
   refine Split.mk fun t3 ht3 => ?_
   rw [hord, hcmp] at ht3
   subst ht3
   refine Need.mk rfl ?_
   refine Num.mk _ (wrapS (by omega)) ?_
   exact ⟨t - ((s + t) / 2 + 1), _, by omega, Weak.nrm [true, true, true, true, true, false, false, false, false, false, false, false, false, false, false, false, false, false, true, true, true, true, true] [(0, 0)] rfl rfl rfl, (s + t) / 2 + 1, t, by omega, by omega, htr, rfl, h1', h2, rfl⟩
  ·have hcmp : lt d[mid - (s + t) / 2 - 1] c[(s + t) / 2 - a] = true := by simpa using hcmp
   have h2' : ∀ k, (s + t) / 2 ≤ k → k < m → ∀ (i j : Nat) (hi : i < d.length) (hj : j < c.length), i + k + 1 = mid → j + a = k → lt d[i] c[j] = true := fun k hk1 hk2 i j hi hj e1 e2 => find_hi hw sc sd hi0 hj (by omega) (by omega) hcmp
   subst hs
   refine Split.mk fun t ht => ?_
   cases t
   ·first | (simp at ht; done) | (simp at ht; omega) | omega
   refine Num.mk ((s + t : Nat) : Int) (wrapI' (by omega) (by omega)) ?_
   refine Num.mk _ (wrapU (by omega)) ?_
   refine Need.mk (by decide) ?_
   refine Num.mk _ (half (by omega)) ?_
   refine Num.mk _ hp ?_
   refine Need.mk ⟨by omega, by rw [hlm]; omega⟩ ?_
   refine Row.mk _ (gd _ hi0) ?_
   refine Need.mk ⟨by omega, by rw [hlm]; omega⟩ ?_
   refine Row.mk _ gcc ?_
   refine ACall.mk _ _ (hfn _ _) ?_
   refine Split.mk fun t3 ht3 => ?_
   rw [hord, hcmp] at ht3
   subst ht3
   refine Need.mk rfl ?_
   exact ⟨(s + t) / 2 - s, _, by omega, Weak.nrm [true, true, true, true, true, false, false, false, false, false, false, false, false, false, false, false, false, false, true, true, true, true, true] [(0, 0)] rfl rfl rfl, s, (s + t) / 2, hs0, by omega, by omega, rfl, h1, h2', rfl⟩
 ·have hst2 : t = s := by omega
  subst hst2
  have hmrg := mrg_find hw sc sd (s := t - a) (t := mid - t) (by omega) (by omega) (fun e1 e2 => h2 t (Nat.le_refl _) (by omega) _ _ _ _ (by omega) (by omega)) (fun e1 e2 => h1 (t - 1) (by omega) (by omega) _ _ _ _ (by omega) (by omega))
  have hend : IntKind.i64.wrap (((mid + m : Nat) : Int) - ((t : Nat) : Int)) = ((mid + m - t : Nat) : Int) := wrapI' (by omega) (by omega)
  by_cases hA : m ≤ t
  ·have hsm : t = m := by omega
   have eA : c.drop (t - a) = [] := List.drop_eq_nil_of_le (by omega)
   have eA1 : c.take (t - a) = c := List.take_of_length_le (by omega)
   rw [eA, eA1, mrg_nil] at hmrg
   by_cases hB : t < mid
   ·have e0 : l = x ++ c ++ d.take (mid - t) ++ (d.drop (mid - t) ++ y) := by
     rw [hl]
     conv => lhs; rw [← List.take_append_drop (mid - t) d]
     simp only [List.append_assoc]
    have H := ih (mid - a) (by omega) x c (d.take (mid - t)) (d.drop (mid - t) ++ y) l r a t mid e0 (by rw [hr, hmrg]; simp only [List.append_assoc]) ha (by omega) (by rw [List.length_take]; omega) (by omega) (by rw [List.length_take]; omega) sc (srt_take sd _) (by rw [List.length_take]; omega) hx
    subst hs
    refine Split.mk fun t ht => ?_
    cases t
    case true => first | (simp at ht; done) | (simp at ht; omega) | omega
    refine Num.mk _ hend ?_
    refine Split.mk fun t ht => ?_
    cases t
    case true => first | (simp at ht; done) | (simp at ht; omega) | omega
    refine Split.mk fun t ht => ?_
    cases t
    ·first | (simp at ht; done) | (simp at ht; omega) | omega
    refine Split.mk fun t ht => ?_
    cases t
    ·first | (simp at ht; done) | (simp at ht; omega) | omega
    refine ACall.mk _ _ H ?_
    refine Split.mk fun t ht => ?_
    cases t
    case true => first | (simp at ht; done) | (simp at ht; omega) | omega
    exact Need.mk ⟨[], _, .same, rfl, rfl⟩ trivial
   ·have eB : d.take (mid - t) = [] := by rw [show mid - t = 0 by omega]; rfl
    have eB1 : d.drop (mid - t) = d := by rw [show mid - t = 0 by omega]; rfl
    rw [eB, eB1, mrg_nil_r] at hmrg
    have hrl : l = r := by rw [hl, hr, hmrg]; simp only [List.append_assoc]
    subst hs
    refine Split.mk fun t ht => ?_
    cases t
    case true => first | (simp at ht; done) | (simp at ht; omega) | omega
    refine Num.mk _ hend ?_
    refine Split.mk fun t ht => ?_
    cases t
    case true => first | (simp at ht; done) | (simp at ht; omega) | omega
    refine Split.mk fun t ht => ?_
    cases t
    ·first | (simp at ht; done) | (simp at ht; omega) | omega
    refine Split.mk fun t ht => ?_
    cases t
    case true => first | (simp at ht; done) | (simp at ht; omega) | omega
    refine Split.mk fun t ht => ?_
    cases t
    case true => first | (simp at ht; done) | (simp at ht; omega) | omega
    exact Need.mk ⟨[], _, .same, rfl, by rw [← hrl]; rfl⟩ trivial
  ·by_cases hB : mid ≤ t
   ·have hsm : t = mid := by omega
    have eB : d.take (mid - t) = [] := by rw [show mid - t = 0 by omega]; rfl
    have eB1 : d.drop (mid - t) = d := by rw [show mid - t = 0 by omega]; rfl
    rw [eB, eB1, mrg_nil_r] at hmrg
    have H := ih (b - mid) (by omega) (x ++ c.take (t - a)) (c.drop (t - a)) d y l r mid (mid + m - t) b (by rw [hl, List.append_assoc x (c.take (t - a)), List.take_append_drop]) (by rw [hr, hmrg]; simp only [List.append_assoc]) (by rw [List.length_append, List.length_take]; omega) (by rw [List.length_append, List.length_take, List.length_drop]; omega) (by rw [List.length_append, List.length_take, List.length_drop]; omega) (by rw [List.length_drop]; omega) (by omega) (srt_drop sc _) sd (by rw [List.length_drop]; omega) hx
    subst hs
    refine Split.mk fun t ht => ?_
    cases t
    case true => first | (simp at ht; done) | (simp at ht; omega) | omega
    refine Num.mk _ hend ?_
    refine Split.mk fun t ht => ?_
    cases t
    ·first | (simp at ht; done) | (simp at ht; omega) | omega
    refine Split.mk fun t ht => ?_
    cases t
    case true => first | (simp at ht; done) | (simp at ht; omega) | omega
    refine Split.mk fun t ht => ?_
    cases t
    ·first | (simp at ht; done) | (simp at ht; omega) | omega
    refine Split.mk fun t ht => ?_
    cases t
    case true => first | (simp at ht; done) | (simp at ht; omega) | omega
    refine Split.mk fun t ht => ?_
    cases t
    ·first | (simp at ht; done) | (simp at ht; omega) | omega
    refine Split.mk fun t ht => ?_
    cases t
    ·first | (simp at ht; done) | (simp at ht; omega) | omega
    refine ACall.mk _ _ H ?_
    exact Need.mk ⟨[], _, .same, rfl, rfl⟩ trivial
   ·have e1 : l = x ++ c.take (t - a) ++ c.drop (t - a) ++ d.take (mid - t) ++ (d.drop (mid - t) ++ y) := by
     rw [hl]
     conv => lhs; rw [← List.take_append_drop (t - a) c, ← List.take_append_drop (mid - t) d]
     simp only [List.append_assoc]
    have H1 := slices_rotate f (x ++ c.take (t - a)) (c.drop (t - a)) (d.take (mid - t)) (d.drop (mid - t) ++ y) l (x ++ c.take (t - a) ++ d.take (mid - t) ++ c.drop (t - a) ++ (d.drop (mid - t) ++ y)  ) t m (mid + m - t) e1 rfl (by rw [List.length_append, List.length_take]; omega) (by rw [List.length_append, List.length_take, List.length_drop]; omega) (by rw [List.length_append, List.length_take, List.length_drop, List.length_take]; omega) (by rw [List.length_drop]; omega) (by rw [List.length_take]; omega) hx
    have hlen1 : (x ++ c.take (t - a) ++ d.take (mid - t) ++ c.drop (t - a) ++ (d.drop (mid - t) ++ y)).length ≤ 1099511627776 := by
     simp only [List.length_append, List.length_take, List.length_drop]; omega
    by_cases hC : a < t
    ·have H2 := ih (mid - a) (by omega) x (c.take (t - a)) (d.take (mid - t)) (c.drop (t - a) ++ (d.drop (mid - t) ++ y)) (x ++ c.take (t - a) ++ d.take (mid - t) ++ c.drop (t - a) ++ (d.drop (mid - t) ++ y)) (x ++ mrg lt (c.take (t - a)) (d.take (mid - t)) ++ (c.drop (t - a) ++ (d.drop (mid - t) ++ y))) a t mid (by simp only [List.append_assoc]) rfl ha (by rw [List.length_take]; omega) (by rw [List.length_take, List.length_take]; omega) (by rw [List.length_take]; omega) (by rw [List.length_take]; omega) (srt_take sc _) (srt_take sd _) (by rw [List.length_take, List.length_take]; omega) hlen1
     have hlen2 : (x ++ mrg lt (c.take (t - a)) (d.take (mid - t)) ++ (c.drop (t - a) ++ (d.drop (mid - t) ++ y))).length ≤ 1099511627776 := by
      simp only [List.length_append, List.length_take, List.length_drop, mrg_len]; omega
     by_cases hD : mid + m - t < b
     ·have H3 := ih (b - mid) (by omega) (x ++ mrg lt (c.take (t - a)) (d.take (mid - t))) (c.drop (t - a)) (d.drop (mid - t)) y (x ++ mrg lt (c.take (t - a)) (d.take (mid - t)) ++ (c.drop (t - a) ++ (d.drop (mid - t) ++ y))) r mid (mid + m - t) b (by simp only [List.append_assoc]) (by rw [hr, hmrg]; simp only [List.append_assoc]) (by simp only [List.length_append, mrg_len, List.length_take]; omega) (by simp only [List.length_append, mrg_len, List.length_take, List.length_drop]; omega) (by simp only [List.length_append, mrg_len, List.length_take, List.length_drop]; omega) (by rw [List.length_drop]; omega) (by rw [List.length_drop]; omega) (srt_drop sc _) (srt_drop sd _) (by rw [List.length_drop, List.length_drop]; omega) hlen2
      subst hs
      refine Split.mk fun t ht => ?_
      cases t
      case true => first | (simp at ht; done) | (simp at ht; omega) | omega
      refine Num.mk _ hend ?_
      refine Split.mk fun t ht => ?_
      cases t
      ·first | (simp at ht; done) | (simp at ht; omega) | omega
      refine Split.mk fun t ht => ?_
      cases t
      ·first | (simp at ht; done) | (simp at ht; omega) | omega
      refine ACall.mk _ _ H1 ?_
      refine Split.mk fun t ht => ?_
      cases t
      ·first | (simp at ht; done) | (simp at ht; omega) | omega
      refine Split.mk fun t ht => ?_
      cases t
      ·first | (simp at ht; done) | (simp at ht; omega) | omega
      refine ACall.mk _ _ H2 ?_
      refine Split.mk fun t ht => ?_
      cases t
      ·first | (simp at ht; done) | (simp at ht; omega) | omega
      refine Split.mk fun t ht => ?_
      cases t
      ·first | (simp at ht; done) | (simp at ht; omega) | omega
      refine ACall.mk _ _ H3 ?_
      exact Need.mk ⟨[], _, .same, rfl, rfl⟩ trivial
     ·have eD : d.drop (mid - t) = [] := List.drop_eq_nil_of_le (by omega)
      have hfin : x ++ mrg lt (c.take (t - a)) (d.take (mid - t)) ++ (c.drop (t - a) ++ (d.drop (mid - t) ++ y)) = r := by rw [hr, hmrg, eD, mrg_nil_r]; simp only [List.append_assoc, List.nil_append]
      rw [hfin] at H2
      subst hs
      refine Split.mk fun t ht => ?_
      cases t
      case true => first | (simp at ht; done) | (simp at ht; omega) | omega
      refine Num.mk _ hend ?_
      refine Split.mk fun t ht => ?_
      cases t
      ·first | (simp at ht; done) | (simp at ht; omega) | omega
      refine Split.mk fun t ht => ?_
      cases t
      ·first | (simp at ht; done) | (simp at ht; omega) | omega
      refine ACall.mk _ _ H1 ?_
      refine Split.mk fun t ht => ?_
      cases t
      ·first | (simp at ht; done) | (simp at ht; omega) | omega
      refine Split.mk fun t ht => ?_
      cases t
      ·first | (simp at ht; done) | (simp at ht; omega) | omega
      refine ACall.mk _ _ H2 ?_
      refine Split.mk fun t ht => ?_
      cases t
      ·first | (simp at ht; done) | (simp at ht; omega) | omega
      refine Split.mk fun t ht => ?_
      cases t
      case true => first | (simp at ht; done) | (simp at ht; omega) | omega
      exact Need.mk ⟨[], _, .same, rfl, rfl⟩ trivial
    ·have eC : c.take (t - a) = [] := by rw [show t - a = 0 by omega]; rfl
     have eC1 : c.drop (t - a) = c := by rw [show t - a = 0 by omega]; rfl
     rw [eC, eC1] at hmrg H1 hlen1
     rw [mrg_nil] at hmrg
     by_cases hD : mid + m - t < b
     ·have H3 := ih (b - mid) (by omega) (x ++ d.take (mid - t)) c (d.drop (mid - t)) y (x ++ [] ++ d.take (mid - t) ++ c ++ (d.drop (mid - t) ++ y)) r mid (mid + m - t) b (by simp only [List.append_assoc, List.nil_append]) (by rw [hr, hmrg]; simp only [List.append_assoc]) (by simp only [List.length_append, List.length_take]; omega) (by simp only [List.length_append, List.length_take]; omega) (by simp only [List.length_append, List.length_take, List.length_drop]; omega) (by omega) (by rw [List.length_drop]; omega) sc (srt_drop sd _) (by rw [List.length_drop]; omega) hlen1
      subst hs
      refine Split.mk fun t ht => ?_
      cases t
      case true => first | (simp at ht; done) | (simp at ht; omega) | omega
      refine Num.mk _ hend ?_
      refine Split.mk fun t ht => ?_
      cases t
      ·first | (simp at ht; done) | (simp at ht; omega) | omega
      refine Split.mk fun t ht => ?_
      cases t
      ·first | (simp at ht; done) | (simp at ht; omega) | omega
      refine ACall.mk _ _ H1 ?_
      refine Split.mk fun t ht => ?_
      cases t
      case true => first | (simp at ht; done) | (simp at ht; omega) | omega
      refine Split.mk fun t ht => ?_
      cases t
      ·first | (simp at ht; done) | (simp at ht; omega) | omega
      refine Split.mk fun t ht => ?_
      cases t
      ·first | (simp at ht; done) | (simp at ht; omega) | omega
      refine ACall.mk _ _ H3 ?_
      exact Need.mk ⟨[], _, .same, rfl, rfl⟩ trivial
     ·have eD : d.drop (mid - t) = [] := List.drop_eq_nil_of_le (by omega)
      have hfin : x ++ [] ++ d.take (mid - t) ++ c ++ (d.drop (mid - t) ++ y) = r := by rw [hr, hmrg, eD, mrg_nil_r]; simp only [List.append_assoc, List.nil_append]
      rw [hfin] at H1
      subst hs
      refine Split.mk fun t ht => ?_
      cases t
      case true => first | (simp at ht; done) | (simp at ht; omega) | omega
      refine Num.mk _ hend ?_
      refine Split.mk fun t ht => ?_
      cases t
      ·first | (simp at ht; done) | (simp at ht; omega) | omega
      refine Split.mk fun t ht => ?_
      cases t
      ·first | (simp at ht; done) | (simp at ht; omega) | omega
      refine ACall.mk _ _ H1 ?_
      refine Split.mk fun t ht => ?_
      cases t
      case true => first | (simp at ht; done) | (simp at ht; omega) | omega
      refine Split.mk fun t ht => ?_
      cases t
      ·first | (simp at ht; done) | (simp at ht; omega) | omega
      refine Split.mk fun t ht => ?_
      cases t
      case true => first | (simp at ht; done) | (simp at ht; omega) | omega
      exact Need.mk ⟨[], _, .same, rfl, rfl⟩ trivial
theorem slices_symMerge (f : FuncId) (lt : Ent → Ent → Bool) (hw : Wk lt) (hf : CmpOk f lt) : ∀ n, SymM f lt n := by
 intro n
 induction n using Nat.strongRecOn with
 | _ n ih =>
  intro x c d y l r a m b hl hr ha hm hb hc hd sc sd hcd hx
  by_cases h1 : c.length = 1
  ·exact symMerge_left f lt hw hf x c d y l r a m b hl hr ha hm hb h1 hd sd hx
  ·by_cases h2 : d.length = 1
   ·exact symMerge_right f lt hw hf x c d y l r a m b hl hr ha hm hb (by omega) h2 sc hx
   ·by_cases h3 : (a + b) / 2 < m
    ·exact symMerge_hi f lt hw hf n ih x c d y l r a m b _ hl hr ha hm hb (by omega) (by omega) sc sd hcd hx rfl h3
    ·exact symMerge_lo f lt hw hf n ih x c d y l r a m b _ hl hr ha hm hb (by omega) (by omega) sc sd hcd hx rfl (by omega)
theorem ins_call (f : FuncId) (lt : Ent → Ent → Bool) (hf : CmpOk f lt) (l r : List Ent) (a b : Nat) (hr : r = sortRange lt l a b) (hab : a ≤ b) (hb : b ≤ l.length) (hx : l.length ≤ 1099511627776) :
  AFn Tryz.prog 182 [.one (.ref 0 0 (.cell 0)), av (.int .i64 a), av (.int .i64 b), av (.func (.func f) #[] #[])] [[.us 83 (l.map Ent.enc)]] (.tup []) [[.us 83 (r.map Ent.enc)]] := by
 subst hr; exact slices_insertionSort f lt hf l a b hab hb hx
theorem slices_stable (f : FuncId) (lt : Ent → Ent → Bool) (hw : Wk lt) (hf : CmpOk f lt) (xs : List Ent) (n : Nat) (hn : n = xs.length) (hx : xs.length ≤ 1099511627776) :
  AFn Tryz.prog 148 [.one (.ref 0 0 (.cell 0)), av (.int .i64 n), av (.func (.func f) #[] #[])] [[.us 83 (xs.map Ent.enc)]] (.tup []) [[.us 83 ((isort lt xs).map Ent.enc)]] := by
 refine AFn.introX (E := En 1 (md1 [183, 182])) (en_ok 1 _) Tryz.func148 rfl rfl rfl fun _ hs => ?_
 let S : List Ent → Nat → Option AV → Option AV → St := fun ys w a b => ⟨some (.one (.ref 0 0 (.cell 0))) :: some (av (.int .i64 n)) :: some (av (.func (.func f) #[] #[])) :: none :: none :: none :: some (av (.int .i64 w)) :: a :: b :: List.replicate 54 none, ⟨0, 1, some [.us 83 (ys.map Ent.enc)]⟩ :: List.replicate 63 absent⟩
 refine ALoop.mk (fun k s => ∃ j : Nat, 20 * j ≤ n ∧ k = n - 20 * j ∧ s = S (sb lt 20 j xs ++ xs.drop (20 * j)) 20 (some (av (.int .i64 ((20 * j : Nat) : Int)))) (some (av (.int .i64 ((20 * j + 20 : Nat) : Int)))))
  ⟨n, _, Weak.nrm [true, true, true, false, false, false, true, true, true] [(0, 0)] rfl rfl rfl, 0, Nat.zero_le _, rfl, rfl⟩ ?_
 rintro k s ⟨j, hj, rfl, hs⟩
 have hsl : (sb lt 20 j xs).length = 20 * j := sb_len lt 20 j xs (by omega)
 have hyl : (sb lt 20 j xs ++ xs.drop (20 * j)).length = xs.length := by rw [List.length_append, hsl, List.length_drop]; omega
 by_cases hb : 20 * j + 20 ≤ n
 ·have H := ins_call f lt hf (sb lt 20 j xs ++ xs.drop (20 * j)) (sb lt 20 (j + 1) xs ++ xs.drop (20 * (j + 1))) (20 * j) (20 * j + 20) (by rw [sortRange_app lt hsl.symm (by omega), sb_snoc, List.drop_drop, show 20 * j + 20 - 20 * j = 20 by omega, show 20 * j + 20 = 20 * (j + 1) by omega]) (by omega) (by rw [hyl]; omega) (by rw [hyl]; exact hx)
  subst hs
  refine Split.mk fun t ht => ?_
  cases t
  ·simp at ht; omega
  refine ACall.mk _ _ H ?_
  refine Num.mk ((20 * j + 20 + 20 : Nat) : Int) (wrapI' (by omega) (by omega)) ?_
  exact ⟨n - 20 * (j + 1), _, by omega, Weak.nrm [true, true, true, false, false, false, true, true, true] [(0, 0)] rfl rfl rfl, j + 1, by omega, rfl, rfl⟩
 ·have H := ins_call f lt hf (sb lt 20 j xs ++ xs.drop (20 * j)) (tl lt 20 xs) (20 * j) n (by
   have e1 : (xs.drop (20 * j)).take (n - 20 * j) = xs.drop (20 * j) := List.take_of_length_le (by rw [List.length_drop]; omega)
   have e2 : (xs.drop (20 * j)).drop (n - 20 * j) = [] := List.drop_eq_nil_of_le (by rw [List.length_drop]; omega)
   rw [sortRange_app lt hsl.symm (by omega), e1, e2, List.append_nil, ← sb_tl lt (w := 20) (by omega) j xs, tl_short lt (w := 20) (by omega) (by rw [List.length_drop]; omega)]) (by omega) (by rw [hyl]; omega) (by rw [hyl]; exact hx)
  subst hs
  refine Split.mk fun t ht => ?_
  cases t
  case true => simp at ht; omega
  refine ACall.mk _ _ H ?_
  refine ALoop.mk (fun k s => ∃ w : Nat, 20 ≤ w ∧ (w < 2 * n ∨ w = 20) ∧ k = n - w ∧ s = S (tl lt w xs) w none none)
   ⟨n - 20, _, Weak.nrm [true, true, true, false, false, false, true] [(0, 0)] rfl rfl rfl, 20, Nat.le_refl _, .inr rfl, rfl, rfl⟩ ?_
  rintro k s ⟨w, hw20, hw2, rfl, hs⟩
  by_cases hwn : n ≤ w
  ·rw [tl_short lt (by omega) (by omega)] at hs
   subst hs
   refine Split.mk fun t ht => ?_
   cases t
   ·exact Need.mk ⟨[], _, .same, rfl, rfl⟩ trivial
   ·simp at ht; omega
  ·subst hs
   refine Split.mk fun t ht => ?_
   cases t
   ·simp at ht; omega
   refine Num.mk ((2 * w : Nat) : Int) (wrapI' (by omega) (by omega)) ?_
   refine ALoop.mk (fun k s => ∃ j p : Nat, p = 2 * w * j ∧ p ≤ n ∧ k = n - p ∧ s = S (sb lt (2 * w) j xs ++ tl lt w (xs.drop (p))) w (some (av (.int .i64 ((p : Nat) : Int)))) (some (av (.int .i64 ((p + 2 * w : Nat) : Int)))))
    ⟨n, _, Weak.nrm [true, true, true, false, false, false, true, true, true] [(0, 0)] rfl rfl rfl, 0, 0, rfl, Nat.zero_le _, rfl, by rw [Nat.zero_add]; rfl⟩ ?_
   rintro k s ⟨j, p, hp, hj, rfl, hs⟩
   have hsl : (sb lt (2 * w) j xs).length = p := hp ▸ sb_len lt (2 * w) j xs (by rw [← hp]; omega)
   have htl : (tl lt w (xs.drop (p))).length = xs.length - p := by rw [tl_len lt (by omega) _ _ (Nat.le_refl _), List.length_drop]
   have hyl : (sb lt (2 * w) j xs ++ tl lt w (xs.drop (p))).length = xs.length := by rw [List.length_append, hsl, htl]; omega
   have hmul : p + 2 * w = 2 * w * (j + 1) := by rw [hp]; exact (Nat.mul_succ _ _).symm
   have c1 := tl_cons lt (w := w) (by omega) (xs.drop (p))
   by_cases hb : p + 2 * w ≤ n
   ·have c2 := tl_cons lt (w := w) (by omega) ((xs.drop (p)).drop w)
    have hlen1 : ((xs.drop (p)).take w).length = w := by rw [List.length_take, List.length_drop]; omega
    have hlen2 : (((xs.drop (p)).drop w).take w).length = w := by rw [List.length_take, List.length_drop, List.length_drop]; omega
    have htk : (xs.drop (p)).take (2 * w) = (xs.drop (p)).take w ++ ((xs.drop (p)).drop w).take w := by rw [← List.take_add, show w + w = 2 * w by omega]
    have e3 : ((xs.drop (p)).drop w).drop w = xs.drop (p + 2 * w) := by rw [List.drop_drop, List.drop_drop]; congr 1; omega
    have H := slices_symMerge f lt hw hf (2 * w) (sb lt (2 * w) j xs) (isort lt ((xs.drop (p)).take w)) (isort lt (((xs.drop (p)).drop w).take w)) (tl lt w (((xs.drop (p)).drop w).drop w)) (sb lt (2 * w) j xs ++ tl lt w (xs.drop (p))) (sb lt (2 * w) (j + 1) xs ++ tl lt w (xs.drop (p + 2 * w))) (p) (p + w) (p + 2 * w)
     (by rw [c1, c2]; simp only [List.append_assoc]) (by rw [sb_snoc, ← hp, htk, isort_app hw, e3]) hsl.symm (by rw [isort_len]; omega) (by rw [isort_len, isort_len]; omega) (by rw [isort_len]; omega) (by rw [isort_len]; omega) (srt_isort hw _) (srt_isort hw _) (by rw [isort_len, isort_len]; omega) (by rw [hyl]; exact hx)
    subst hs
    refine Split.mk fun t ht => ?_
    cases t
    ·simp at ht; omega
    refine Num.mk ((p + w : Nat) : Int) (wrapI' (by omega) (by omega)) ?_
    refine ACall.mk _ _ H ?_
    refine Num.mk ((2 * w : Nat) : Int) (wrapI' (by omega) (by omega)) ?_
    refine Num.mk ((p + 2 * w + 2 * w : Nat) : Int) (wrapI' (by omega) (by omega)) ?_
    refine ⟨n - (p + 2 * w), _, by omega, Weak.nrm [true, true, true, false, false, false, true, true, true] [(0, 0)] rfl rfl rfl, j + 1, p + 2 * w, hmul, by omega, rfl, rfl⟩
   ·have fin : sb lt (2 * w) j xs ++ tl lt (2 * w) (xs.drop (p)) = tl lt (2 * w) xs := hp ▸ sb_tl lt (by omega) j xs
    rw [tl_short lt (w := 2 * w) (by omega) (by rw [List.length_drop]; omega)] at fin
    by_cases hm : p + w < n
    ·have c2 := tl_short lt (w := w) (by omega) (l := (xs.drop (p)).drop w) (by rw [List.length_drop, List.length_drop]; omega)
     have hlen1 : ((xs.drop (p)).take w).length = w := by rw [List.length_take, List.length_drop]; omega
     have hlen2 : ((xs.drop (p)).drop w).length = n - (p + w) := by rw [List.length_drop, List.length_drop]; omega
     have H := slices_symMerge f lt hw hf (2 * w) (sb lt (2 * w) j xs) (isort lt ((xs.drop (p)).take w)) (isort lt ((xs.drop (p)).drop w)) [] (sb lt (2 * w) j xs ++ tl lt w (xs.drop (p))) (tl lt (2 * w) xs) (p) (p + w) n
      (by rw [c1, c2]; simp only [List.append_assoc, List.append_nil]) (by rw [← isort_app hw, List.take_append_drop, List.append_nil, fin]) hsl.symm (by rw [isort_len]; omega) (by rw [isort_len, isort_len]; omega) (by rw [isort_len]; omega) (by rw [isort_len]; omega) (srt_isort hw _) (srt_isort hw _) (by rw [isort_len, isort_len]; omega) (by rw [hyl]; exact hx)
     subst hs
     refine Split.mk fun t ht => ?_
     cases t
     case true => simp at ht; omega
     refine Num.mk ((p + w : Nat) : Int) (wrapI' (by omega) (by omega)) ?_
     refine Split.mk fun t ht => ?_
     cases t
     ·simp at ht; omega
     refine ACall.mk _ _ H ?_
     refine Num.mk ((2 * w : Nat) : Int) (wrapI' (by omega) (by omega)) ?_
     exact ⟨n - 2 * w, _, by omega, Weak.nrm [true, true, true, false, false, false, true] [(0, 0)] rfl rfl rfl, 2 * w, by omega, .inl (by omega), rfl, rfl⟩
    ·rw [tl_short lt (w := w) (by omega) (by rw [List.length_drop]; omega), fin] at hs
     subst hs
     refine Split.mk fun t ht => ?_
     cases t
     case true => simp at ht; omega
     refine Num.mk ((p + w : Nat) : Int) (wrapI' (by omega) (by omega)) ?_
     refine Split.mk fun t ht => ?_
     cases t
     case true => simp at ht; omega
     refine Num.mk ((2 * w : Nat) : Int) (wrapI' (by omega) (by omega)) ?_
     exact ⟨n - 2 * w, _, by omega, Weak.nrm [true, true, true, false, false, false, true] [(0, 0)] rfl rfl rfl, 2 * w, by omega, .inl (by omega), rfl, rfl⟩
theorem slices_SortStable (f : FuncId) (lt : Ent → Ent → Bool) (hw : Wk lt) (hf : CmpOk f lt) (xs : List Ent) (hx : xs.length ≤ 1099511627776) :
  AFn Tryz.prog 105 [.one (.ref 0 0 (.cell 0)), av (.func (.func f) #[] #[])] [[.us 83 (xs.map Ent.enc)]] (.tup []) [[.us 83 ((isort lt xs).map Ent.enc)]] := by
 refine AFn.introX (E := En 1 (md1 [148])) (en_ok 1 _) Tryz.func105 rfl rfl rfl fun _ hs => ?_
 refine ACall.mk _ _ (slices_stable f lt hw hf xs (xs.map Ent.enc).length (List.length_map ..) hx) ?_
 exact Need.mk ⟨[], _, .same, rfl, rfl⟩ trivial
theorem cmp_isNaN_S (a : ByteArray) : AFn Tryz.prog 184 [av (.string a)] [] (rb false) [] := by
 refine AFn.introX (E := En 0 md0) (en_ok 0 md0) Tryz.func184 rfl rfl rfl fun _ _ => ?_
 refine Split.mk fun t ht => ?_
 cases t
 ·exact Need.mk ⟨[], _, .same, rfl, rfl⟩ trivial
 ·simp at ht
theorem cmp_Compare_S (a b : ByteArray) : AFn Tryz.prog 150 [av (.string a), av (.string b)] [] (.one (vi (scmp a b))) [] := by
 refine AFn.introX (E := En 0 md0) (en_ok 0 md0) Tryz.func150 rfl rfl rfl fun _ _ => ?_
 have fin : ∀ {z : Int}, z = scmp a b → RV.one (vi z) = RV.one (vi (scmp a b)) := fun h => by rw [h]
 refine ACall.mk _ _ (cmp_isNaN_S a) ?_
 refine sp0 ?_
 refine ACall.mk _ _ (cmp_isNaN_S b) ?_
 refine sp0 ?_
 refine Split.mk fun t ht1 => ?_
 have ht1 : slt a b = t := ht1
 cases t
 ·refine Split.mk fun t ht2 => ?_
  rw [str_gt] at ht2
  cases t
  ·exact Need.mk ⟨[], _, .same, fin (by unfold scmp; simp [ht1, ht2]), rfl⟩ trivial
  ·exact Need.mk ⟨[], _, .same, fin (by unfold scmp; simp [ht1, ht2]), rfl⟩ trivial
 ·exact Need.mk ⟨[], _, .same, fin (by unfold scmp; simp [ht1]), rfl⟩ trivial
theorem cmp_isNaN_I (a : Int) : AFn Tryz.prog 185 [av (.int .i64 a)] [] (rb false) [] := by
 refine AFn.introX (E := En 0 md0) (en_ok 0 md0) Tryz.func185 rfl rfl rfl fun _ _ => ?_
 refine Split.mk fun t ht => ?_
 cases t
 ·exact Need.mk ⟨[], _, .same, rfl, rfl⟩ trivial
 ·simp at ht
theorem cmp_Compare_I (a b : Int) : AFn Tryz.prog 151 [av (.int .i64 a), av (.int .i64 b)] [] (.one (vi (icmp a b))) [] := by
 refine AFn.introX (E := En 0 md0) (en_ok 0 md0) Tryz.func151 rfl rfl rfl fun _ _ => ?_
 have fin : ∀ {z : Int}, z = icmp a b → RV.one (vi z) = RV.one (vi (icmp a b)) := fun h => by rw [h]
 refine ACall.mk _ _ (cmp_isNaN_I a) ?_
 refine sp0 ?_
 refine ACall.mk _ _ (cmp_isNaN_I b) ?_
 refine sp0 ?_
 refine Split.mk fun t ht1 => ?_
 have ht1 : decide (a < b) = t := ht1
 cases t
 ·refine Split.mk fun t ht2 => ?_
  have ht2 : decide (b < a) = t := ht2
  cases t
  ·exact Need.mk ⟨[], _, .same, fin (by simp at ht1 ht2; simp [icmp]; omega), rfl⟩ trivial
  ·exact Need.mk ⟨[], _, .same, fin (by simp at ht1 ht2; simp [icmp]; omega), rfl⟩ trivial
 ·exact Need.mk ⟨[], _, .same, fin (by unfold icmp; simp only [decide_eq_true_eq] at ht1; simp [ht1]), rfl⟩ trivial
theorem cmp_Or (xs : List Int) (hx : xs.length ≤ 1048576) : AFn Tryz.prog 149 [sl (xs.map encI)] [] (.one (vi (firstNZ xs))) [] := by
 refine AFn.introX (E := En 0 md0) (en_ok 0 md0) Tryz.func149 rfl rfl rfl fun _ _ => ?_
 have hn : (xs.map encI).length = xs.length := List.length_map ..
 have fin : ∀ {z : Int}, z = firstNZ xs → RV.one (vi z) = RV.one (vi (firstNZ xs)) := fun h => by rw [h]
 refine ALoop.mk (fun m s => ∃ i : Nat, i ≤ xs.length ∧ m = xs.length - i ∧ (∀ x ∈ xs.take i, x = 0) ∧
   s = ⟨some (sl (xs.map encI)) :: none :: some (av (.int .i64 0)) :: some (av (.int .i64 0)) :: none :: none :: some (sl (xs.map encI)) :: some (av (.int .i64 xs.length)) :: some (av (.int .i64 i)) :: List.replicate 9 none, List.replicate 18 absent⟩)
  ⟨xs.length, _, Weak.nrm [true, false, true, true, false, false, true, true, true] [] rfl rfl rfl, 0, Nat.zero_le _, rfl, by simp, by rw [show ((xs.length : Nat) : Int) = ((xs.map encI).length : Nat) by rw [List.length_map]]; rfl⟩ ?_
 rintro m s ⟨i, hi, rfl, hz, rfl⟩
 refine Split.mk fun t ht => ?_
 cases t
 ·have hin : i = xs.length := by simp at ht; omega
  subst hin
  rw [List.take_length] at hz
  exact Need.mk ⟨[], _, .same, fin (by have := firstNZ_app (m := []) hz; simpa [firstNZ] using this.symm), rfl⟩ trivial
 ·have hia : i < xs.length := by simpa using ht
  refine nd ?_
  refine Row.mk _ (map_get _ xs i hia) ?_
  refine Split.mk fun t ht2 => ?_
  have hsp : firstNZ xs = firstNZ (xs[i] :: xs.drop (i + 1)) := by
   conv => lhs; rw [← List.take_append_drop i xs, List.drop_eq_getElem_cons hia]
   exact firstNZ_app hz
  cases t
  ·have h0 : xs[i] = 0 := by simpa using ht2
   refine Num.mk _ (wrapS (by omega)) ?_
   refine ⟨xs.length - (i + 1), _, by omega, Weak.nrm [true, false, true, true, false, false, true, true, true] [] rfl rfl rfl, i + 1, by omega, rfl, fun x hx => ?_, rfl⟩
   rw [List.take_succ_eq_append_getElem hia] at hx
   rcases List.mem_append.1 hx with hx | hx
   ·exact hz x hx
   ·rw [List.mem_singleton.1 hx]; exact h0
  ·have h0 : xs[i] ≠ 0 := by simpa using ht2
   exact Need.mk ⟨[], _, .same, fin (by rw [hsp]; simp only [firstNZ]; rw [if_neg h0]), rfl⟩ trivial
theorem impl_entryOrder (a b : Ent) : AFn Tryz.prog 106 [.agg (a.enc.map .c), .agg (b.enc.map .c)] [] (.one (vi (eord a b))) [] := by
 refine AFn.introX (E := En 0 md0) (en_ok 0 md0) Tryz.func106 rfl rfl rfl fun _ _ => ?_
 refine ACall.mk _ _ (cmp_Compare_S a.key b.key) ?_
 refine ACall.mk _ _ (cmp_Compare_I b.seq a.seq) ?_
 refine Fz.mk _ (frzI [scmp a.key b.key, icmp b.seq a.seq]) ?_
 refine ACall.mk _ _ (cmp_Or [scmp a.key b.key, icmp b.seq a.seq] (by simp)) ?_
 refine Need.mk ⟨closed_v, no_objs⟩ ?_
 refine Need.mk rfl ?_
 exact Need.mk ⟨[], _, .same, rfl, rfl⟩ trivial
theorem entryOrder_ok : CmpOk 106 eLess := ⟨eord, eord_lt, impl_entryOrder⟩
theorem impl_freshOf (bs : List (List Ent)) (seq : Int) (hn : bs.length ≤ 1048576) (hf : bs.flatten.length ≤ 1048576) : AFn Tryz.prog 57 [.one (.c (.sl (bs.map encX))), av (.int .i64 seq)] [] (.tup [.one (.us 83 ((freshD bs seq).1.map Ent.enc)), .one (vi (freshD bs seq).2)]) [] := by
 have hpos : 0 < Tryz.prog.cellsOf 83 := pos_of tab_ok (t := 83) rfl
 have hnl : (bs.map encX).length = bs.length := List.length_map ..
 obtain ⟨g, hg⟩ : ∃ g : Nat → List Ent, ∀ i (hi : i < bs.length), bs[i]'hi = g i := ⟨fun i => bs.getD i [], fun i hi => by simp [List.getD, hi]⟩
 have hrow : ∀ i, i < bs.length → (bs.map encX)[i]? = some [.sl ((g i).map Ent.enc)] ∧ ((g i).map Ent.enc).length = (g i).length ∧ (g i).length ≤ 1048576 := fun i hi => by
  refine ⟨by rw [← hg i hi]; exact map_get encX bs i hi, List.length_map .., ?_⟩
  rw [← hg i hi]
  have h1 := flat_take bs hi
  have h2 := flat_take_le bs (i + 1)
  rw [h1, List.length_append] at h2
  omega
 have hround : ∀ (i k : Nat) (O : List Ent) (z : Int), i < bs.length → k < (g i).length → O = freshAt bs seq i k → z = maxS seq (freshAt bs seq i k) → ∃ (e : Ent),
   ((g i).map Ent.enc)[k]? = some e.enc ∧ (O.map Ent.enc).length = O.length ∧ O.length ≤ 1048576 ∧ O.map Ent.enc ++ [e.enc] = (O ++ [e]).map Ent.enc ∧
   ((e.seq > seq ∧ O ++ [e] = freshAt bs seq i (k + 1) ∧ max z e.seq = maxS seq (freshAt bs seq i (k + 1))) ∨ (¬ e.seq > seq ∧ O = freshAt bs seq i (k + 1) ∧ z = maxS seq (freshAt bs seq i (k + 1)))) := by
  intro i k O z hi hk hO hz
  have hgi := hg i hi
  have hk2 : k < (bs[i]'hi).length := by rw [hgi]; exact hk
  have hin := freshAt_in (seq := seq) hi hk2
  have hlen : O.length ≤ 1048576 := by rw [hO]; exact Nat.le_trans (freshAt_len hi) hf
  refine ⟨(bs[i]'hi)[k]'hk2, by rw [← hgi]; exact map_get _ _ _ hk2, List.length_map .., hlen, by rw [List.map_append]; rfl, ?_⟩
  by_cases hc : seq < ((bs[i]'hi)[k]'hk2).seq
  ·rw [if_pos hc] at hin
   exact .inl ⟨hc, by rw [hin, hO], by rw [hin, maxS_snoc, hz]⟩
  ·rw [if_neg hc, List.append_nil] at hin
   exact .inr ⟨hc, by rw [hin, hO], by rw [hin, hz]⟩
 have hnext : ∀ i (hi : i < bs.length), freshAt bs seq i (g i).length = freshAt bs seq (i + 1) 0 := fun i hi => by rw [← hg i hi]; exact freshAt_next hi
 have hend : freshAt bs seq bs.length 0 = freshE bs seq := by rw [freshAt_0, List.take_length]
 have hfl : (freshE bs seq).length ≤ 1048576 := Nat.le_trans (freshE_len bs seq) hf
 have hS := slices_SortStable 106 eLess eLess_wk entryOrder_ok (freshE bs seq) (by omega)
 refine AFn.introX (E := En 0 (md1 [105])) (en_ok 0 _) Tryz.func57 rfl rfl rfl fun _ _ => ?_
 let S : Nat → List Ent → Int → St := fun i O z => ⟨none :: some (av (.int .i64 seq)) :: none :: none :: none :: none :: some (.one (.ref 6 0 (.cell 0))) :: some (av (.int .i64 z)) :: none :: none :: none :: none :: none :: some (sl (List.map encX bs)) :: some (av (.int .i64 (↑(List.map encX bs).length))) :: some (av (.int .i64 i)) :: List.replicate 27 none, absent :: absent :: absent :: absent :: absent :: absent :: ⟨0, 1, some [.us 83 (O.map Ent.enc)]⟩ :: List.replicate 36 absent⟩
 refine ALoop.mk (fun m s => ∃ (i : Nat) (O : List Ent) (z : Int), (i ≤ bs.length ∧ m = bs.length - i) ∧ O = freshAt bs seq i 0 ∧ z = maxS seq (freshAt bs seq i 0) ∧ s = S i O z)
  ⟨_, _, Weak.trans (Weak.nrm [false, true, false, false, false, false, true, true, false, false, false, false, false, true, true, true] [] rfl rfl rfl) (Weak.nilOwn 6 6 83 rfl rfl hpos), 0, [], seq, ⟨Nat.zero_le _, rfl⟩, rfl, rfl, rfl⟩ ?_
 rintro m s ⟨i, O, z, ⟨hi, rfl⟩, hO, hz, hs⟩
 by_cases hi2 : i < bs.length
 ·have hx := hrow i hi2
  have hr := hx.1
  have hgl := hx.2.1
  have hg2 := hx.2.2
  have hnx := hnext i hi2
  have hrd := hround i
  clear hx hround hrow hnext hend hg hS
  subst hs
  refine spT (by omega) fun h1 => ?_
  refine nd ?_
  refine Row.mk _ hr ?_
  let T : Nat → List Ent → Int → St := fun k O z => ⟨none :: some (av (.int .i64 seq)) :: none :: none :: none :: none :: some (.one (.ref 6 0 (.cell 0))) :: some (av (.int .i64 z)) :: none :: none :: none :: none :: none :: some (sl (List.map encX bs)) :: some (av (.int .i64 (↑(List.map encX bs).length))) :: some (av (.int .i64 ↑i)) :: none :: none :: none :: some (sl (List.map Ent.enc (g i))) :: some (av (.int .i64 (↑(List.map Ent.enc (g i)).length))) :: some (av (.int .i64 (k : Nat))) :: List.replicate 21 none, absent :: absent :: absent :: absent :: absent :: absent :: ⟨0, 1, some [.us 83 (List.map Ent.enc O)]⟩ :: List.replicate 36 absent⟩
  refine ALoop.mk (fun m s => ∃ (k : Nat) (O : List Ent) (z : Int), (k ≤ (g i).length ∧ m = (g i).length - k) ∧ O = freshAt bs seq i k ∧ z = maxS seq (freshAt bs seq i k) ∧ s = T k O z)
   ⟨_, _, Weak.nrm [false, true, false, false, false, false, true, true, false, false, false, false, false, true, true, true, false, false, false, true, true, true] [(6, 6)] rfl rfl rfl, 0, O, z, ⟨Nat.zero_le _, rfl⟩, hO, hz, rfl⟩ ?_
  rintro m s ⟨k, O2, z2, ⟨hk, rfl⟩, hO2, hz2, hs⟩
  clear hO hz
  by_cases hk2 : k < (g i).length
  ·refine Exists.elim (hrd k O2 z2 hi2 hk2 hO2 hz2) fun e hx => ?_
   have hr2 := hx.1
   have hol := hx.2.1
   have hol2 := hx.2.2.1
   have hmap := hx.2.2.2.1
   have hT := hx.2.2.2.2
   have hol3 : (O2 ++ [e]).length = O2.length + 1 := by simp
   clear hx hrd hO2 hz2 hnx
   refine Or.elim hT (fun hq => ?_) fun hq => ?_
   ·have hc2 := hq.1
    have hq1 := hq.2.1
    have hq2 := hq.2.2
    have hmx : (if z2 < e.seq then e.seq else z2) = maxS seq (freshAt bs seq i (k + 1)) := by rw [← hq2]; split <;> omega
    clear hT hq
    subst hs
    refine spT (by omega) fun h1 => ?_
    refine nd ?_
    refine Row.mk _ hr2 ?_
    refine spT (by omega) fun h2 => ?_
    refine apq (A' := _) (B' := [e.enc]) rfl rfl ?_
    refine Num.mk _ (wrapS (by omega)) ?_
    exact ⟨(g i).length - (k + 1), _, by omega, Weak.nrm [false, true, false, false, false, false, true, true, false, false, false, false, false, true, true, true, false, false, false, true, true, true] [(32, 6)] rfl rfl rfl, k + 1, O2 ++ [e], (if z2 < e.seq then e.seq else z2), ⟨by omega, rfl⟩, hq1, hmx, congrArg (fun R => (⟨none :: some (av (.int .i64 seq)) :: none :: none :: none :: none :: some (.one (.ref 6 0 (.cell 0))) :: some (av (.int .i64 (if z2 < e.seq then e.seq else z2))) :: none :: none :: none :: none :: none :: some (sl (List.map encX bs)) :: some (av (.int .i64 (↑(List.map encX bs).length))) :: some (av (.int .i64 ↑i)) :: none :: none :: none :: some (sl (List.map Ent.enc (g i))) :: some (av (.int .i64 (↑(List.map Ent.enc (g i)).length))) :: some (av (.int .i64 ((k + 1 : Nat) : Int))) :: List.replicate 21 none, absent :: absent :: absent :: absent :: absent :: absent :: ⟨0, 1, some [.us 83 R]⟩ :: List.replicate 36 absent⟩ : St)) hmap⟩
   ·have hc2 := hq.1
    have hq1 := hq.2.1
    have hq2 := hq.2.2
    clear hT hq
    subst hs
    refine spT (by omega) fun h1 => ?_
    refine nd ?_
    refine Row.mk _ hr2 ?_
    refine spF (by omega) fun h2 => ?_
    refine Num.mk _ (wrapS (by omega)) ?_
    exact ⟨(g i).length - (k + 1), _, by omega, Weak.nrm [false, true, false, false, false, false, true, true, false, false, false, false, false, true, true, true, false, false, false, true, true, true] [(6, 6)] rfl rfl rfl, k + 1, O2, z2, ⟨by omega, rfl⟩, hq1, hq2, rfl⟩
  ·have hkg : k = (g i).length := by omega
   subst hkg
   rw [hnx] at hO2 hz2
   clear hrd hnx
   subst hs
   refine spF (by omega) fun h1 => ?_
   refine Num.mk _ (wrapS (by omega)) ?_
   exact ⟨bs.length - (i + 1), _, by omega, Weak.nrm [false, true, false, false, false, false, true, true, false, false, false, false, false, true, true, true] [(6, 6)] rfl rfl rfl, i + 1, O2, z2, ⟨by omega, rfl⟩, hO2, hz2, rfl⟩
 ·have hib : i = bs.length := by omega
  subst hib
  rw [hend] at hO hz
  rw [← hO] at hS
  have hol : (O.map Ent.enc).length = O.length := List.length_map ..
  have hres : RV.tup [.one (.us 83 ((isort eLess O).map Ent.enc)), .one (vi z)] = RV.tup [.one (.us 83 ((freshD bs seq).1.map Ent.enc)), .one (vi (freshD bs seq).2)] := by rw [hO, hz]; rfl
  clear hround hrow hnext hend hg
  subst hs
  refine spF (by omega) fun h1 => ?_
  refine ACall.mk _ _ hS ?_
  exact Need.mk ⟨[], _, .same, hres, rfl⟩ trivial
theorem spec_l4Bit (n : Nat) (hn : n < 16) : AFn Tryz.prog 221 [av (.int .i64 n)] [] (.one (vi ((2 ^ n : Nat) : Int))) [] := by
 refine AFn.introX (E := En 0 md0) (en_ok 0 md0) Tryz.func221 rfl rfl rfl fun _ _ => ?_
 refine ALoop.mk (fun m s => ∃ i : Nat, i ≤ n ∧ m = n - i ∧ s = ⟨some (av (.int .i64 n)) :: none :: some (av (.int .i64 0)) :: some (av (.int .i64 ((2 ^ i : Nat) : Int))) :: some (av (.int .i64 i)) :: List.replicate 8 none, List.replicate 13 absent⟩)
  ⟨n, _, Weak.nrm [true, false, true, true, true] [] rfl rfl rfl, 0, Nat.zero_le _, rfl, rfl⟩ ?_
 rintro m s ⟨i, hi, rfl, rfl⟩
 refine Split.mk fun t ht => ?_
 cases t
 ·have hin : i = n := by simp at ht; omega
  subst hin
  exact Need.mk ⟨[], _, .same, rfl, rfl⟩ trivial
 ·have hia : i < n := by simpa using ht
  have hp : 2 ^ i < 65536 := Nat.pow_lt_pow_right (a := 2) (by decide) (show i < 16 by omega)
  refine Num.mk ((2 ^ (i + 1) : Nat) : Int) (wrapI' (by rw [Nat.pow_succ]; omega) (by rw [Nat.pow_succ]; omega)) ?_
  refine Num.mk _ (wrapS (by omega)) ?_
  exact ⟨n - (i + 1), _, by omega, Weak.nrm [true, false, true, true, true] [] rfl rfl rfl, i + 1, by omega, rfl, rfl⟩
theorem spec_l4Or (a b : Nat) (ha : a < 65536) (hb : b < 65536) : AFn Tryz.prog 204 [av (.int .i64 a), av (.int .i64 b)] [] (.one (vi ((a ||| b : Nat) : Int))) [] := by
 refine AFn.introX (E := En 0 md0) (en_ok 0 md0) Tryz.func204 rfl rfl rfl fun _ _ => ?_
 have hlt : a ||| b < 65536 := Nat.or_lt_two_pow (n := 16) ha hb
 let S : Int → Nat → St := fun i o => ⟨some (av (.int .i64 a)) :: some (av (.int .i64 b)) :: none :: none :: some (av (.int .i64 0)) :: some (av (.int .i64 o)) :: some (av (.int .i64 i)) :: List.replicate 23 none, List.replicate 30 absent⟩
 refine ALoop.mk (fun m s => ∃ k : Nat, k ≤ 16 ∧ m = k ∧ s = S ((k : Int) - 1) ((a ||| b) / 2 ^ k))
  ⟨16, _, Weak.nrm [true, true, false, false, true, true, true] [] rfl rfl rfl, 16, Nat.le_refl _, rfl, by rw [show (a ||| b) / 2 ^ 16 = 0 from Nat.div_eq_of_lt hlt]; rfl⟩ ?_
 rintro m s ⟨k, hk, rfl, hs⟩
 by_cases h0 : m = 0
 ·subst h0
  rw [Nat.pow_zero, Nat.div_one] at hs
  subst hs
  refine Split.mk fun t ht => ?_
  cases t
  ·exact Need.mk ⟨[], _, .same, rfl, rfl⟩ trivial
  ·simp at ht
 ·have hex : ∃ i, m = i + 1 := ⟨m - 1, by omega⟩
  obtain ⟨i, hmi⟩ := hex
  subst hmi
  have hpos : 0 < 2 ^ i := Nat.pow_pos (by decide)
  have hstep : (a ||| b) / 2 ^ i = 2 * ((a ||| b) / 2 ^ (i + 1)) + (a ||| b) / 2 ^ i % 2 := bit_step
  have hor := or_bit (a := a) (b := b) (i := i)
  have hle : (a ||| b) / 2 ^ i ≤ a ||| b := Nat.div_le_self _ _
  have hda : a / 2 ^ i ≤ a := Nat.div_le_self _ _
  have hdb : b / 2 ^ i ≤ b := Nat.div_le_self _ _
  have hii : (((i + 1 : Nat) : Int) - 1) = (i : Int) := by omega
  rw [hii] at hs
  subst hs
  refine Split.mk fun t ht => ?_
  cases t
  ·simp at ht <;> omega
  refine Num.mk ((2 * ((a ||| b) / 2 ^ (i + 1)) : Nat) : Int) (wrapI' (by omega) (by omega)) ?_
  refine ACall.mk _ _ (spec_l4Bit i (by omega)) ?_
  refine nd ?_
  refine Num.mk ((a / 2 ^ i : Nat) : Int) (wrapI' (tdivN' _ _) (by omega)) ?_
  refine Need.mk (by decide) ?_
  refine Split.mk fun t h1 => ?_
  have h1 : ((((a / 2 ^ i % 2 : Nat) : Int) == 1)) = t := h1
  cases t
  ·refine ACall.mk _ _ (spec_l4Bit i (by omega)) ?_
   refine nd ?_
   refine Num.mk ((b / 2 ^ i : Nat) : Int) (wrapI' (tdivN' _ _) (by omega)) ?_
   refine Need.mk (by decide) ?_
   refine Split.mk fun t h2 => ?_
   have h2 : ((((b / 2 ^ i % 2 : Nat) : Int) == 1)) = t := h2
   cases t
   ·have e : (a ||| b) / 2 ^ i % 2 = 0 := by rw [hor, if_neg (fun h => h.elim (fun e => by rw [e] at h1; cases h1) (fun e => by rw [e] at h2; cases h2))]
    refine Num.mk ((i : Int) - 1) (wrapI (by omega) (by omega)) ?_
    exact ⟨i, _, by omega, Weak.nrm [true, true, false, false, true, true, true] [] rfl rfl rfl, i, by omega, rfl, by rw [hstep, e, Nat.add_zero]; rfl⟩
   ·have e : (a ||| b) / 2 ^ i % 2 = 1 := by rw [hor, if_pos (.inr (Int.ofNat_inj.1 (beq_iff_eq.1 h2)))]
    refine Num.mk ((2 * ((a ||| b) / 2 ^ (i + 1)) + 1 : Nat) : Int) (wrapI' (by omega) (by omega)) ?_
    refine Num.mk ((i : Int) - 1) (wrapI (by omega) (by omega)) ?_
    exact ⟨i, _, by omega, Weak.nrm [true, true, false, false, true, true, true] [] rfl rfl rfl, i, by omega, rfl, by rw [hstep, e]; rfl⟩
  ·have e : (a ||| b) / 2 ^ i % 2 = 1 := by rw [hor, if_pos (.inl (Int.ofNat_inj.1 (beq_iff_eq.1 h1)))]
   refine Num.mk ((2 * ((a ||| b) / 2 ^ (i + 1)) + 1 : Nat) : Int) (wrapI' (by omega) (by omega)) ?_
   refine Num.mk ((i : Int) - 1) (wrapI (by omega) (by omega)) ?_
   exact ⟨i, _, by omega, Weak.nrm [true, true, false, false, true, true, true] [] rfl rfl rfl, i, by omega, rfl, by rw [hstep, e]; rfl⟩
theorem spec_KeyMask (s : ByteArray) (hs : s.size ≤ maxLen) : AFn Tryz.prog 205 [av (.string s)] [] (.one (vi (kmask s : Nat))) [] := by
 refine AFn.introX (E := En 0 md0) (en_ok 0 md0) Tryz.func205 rfl rfl rfl fun _ _ => ?_
 unfold maxLen at hs
 refine ALoop.mk (fun m s' => ∃ i : Nat, i ≤ s.size ∧ m = s.size - i ∧ s' = ⟨some (av (.string s)) :: none :: some (av (.int .i64 0)) :: some (av (.int .i64 (hsh s i : Nat))) :: some (av (.int .i64 i)) :: List.replicate 22 none, List.replicate 27 absent⟩)
  ⟨s.size, _, Weak.nrm [true, false, true, true, true] [] rfl rfl rfl, 0, Nat.zero_le _, rfl, rfl⟩ ?_
 rintro m s' ⟨i, hi, rfl, hs'⟩
 by_cases hin : i = s.size
 ·subst hin
  have h1 := hsh_lt s s.size
  subst hs'
  refine Split.mk fun t ht => ?_
  cases t
  ·refine Need.mk (by decide) ?_
   refine ACall.mk _ _ (spec_l4Bit (hsh s s.size % 16) (Nat.mod_lt _ (by decide))) ?_
   refine Need.mk (by decide) ?_
   refine Num.mk ((hsh s s.size / 16 : Nat) : Int) (wrapI' (tdivN' _ _) (by omega)) ?_
   refine Need.mk (by decide) ?_
   refine ACall.mk _ _ (spec_l4Bit (hsh s s.size / 16 % 16) (Nat.mod_lt _ (by decide))) ?_
   refine ACall.mk _ _ (spec_l4Or (2 ^ (hsh s s.size % 16)) (2 ^ (hsh s s.size / 16 % 16)) (p16_lt _) (p16_lt _)) ?_
   exact Need.mk ⟨[], _, .same, rfl, rfl⟩ trivial
  ·simp at ht
 ·have hia : i < s.size := by omega
  have h1 := hsh_lt s i
  have h2 := byteAt_lt s i
  have h3 : byteAt s i = (((byteAt s i).toNat : Nat) : Int) := by omega
  have h4 : ((hsh s i : Int) * 31 + ((byteAt s i).toNat : Int)).tmod 65521 = ((hsh s (i + 1) : Nat) : Int) := by
   rw [show (hsh s i : Int) * 31 + ((byteAt s i).toNat : Int) = ((31 * hsh s i + (byteAt s i).toNat : Nat) : Int) by omega]
   exact tmodN' _ _
  subst hs'
  refine Split.mk fun t ht => ?_
  cases t
  ·simp at ht; omega
  refine Num.mk ((hsh s i : Int) * 31) (wrapI (by omega) (by omega)) ?_
  refine Need.mk ⟨by omega, by omega⟩ ?_
  refine Num.mk (((byteAt s i).toNat : Nat) : Int) (by rw [IntKind.wrap_i64]; omega) ?_
  refine Num.mk ((hsh s i : Int) * 31 + ((byteAt s i).toNat : Int)) (wrapI (by omega) (by omega)) ?_
  refine Need.mk (by decide) ?_
  refine Num.mk _ (wrapS (by omega)) ?_
  exact ⟨s.size - (i + 1), _, by omega, Weak.nrm [true, false, true, true, true] [] rfl rfl rfl, i + 1, by omega, rfl, by rw [← h4]; rfl⟩
theorem impl_KeyMask (s : ByteArray) (hs : s.size ≤ maxLen) : AFn Tryz.prog 199 [av (.string s)] [] (.one (vi (kmask s : Nat))) [] := by
 refine AFn.introX (E := En 0 md0) (en_ok 0 md0) Tryz.func199 rfl rfl rfl fun _ _ => ?_
 unfold maxLen at hs
 refine ALoop.mk (fun m s' => ∃ i : Nat, i ≤ s.size ∧ m = s.size - i ∧ s' = ⟨some (av (.string s)) :: none :: some (av (.int .i64 0)) :: some (av (.int .i64 (hsh s i : Nat))) :: none :: none :: some (av (.int .i64 s.size)) :: some (av (.int .i64 i)) :: List.replicate 19 none, List.replicate 27 absent⟩)
  ⟨s.size, _, Weak.nrm [true, false, true, true, false, false, true, true] [] rfl rfl rfl, 0, Nat.zero_le _, rfl, rfl⟩ ?_
 rintro m s' ⟨i, hi, rfl, hs'⟩
 by_cases hin : i = s.size
 ·subst hin
  have h1 := hsh_lt s s.size
  have p1 := p16_lt (hsh s s.size)
  have p2 := p16_lt (hsh s s.size / 16)
  have sh : ∀ k : Nat, k < 16 → IntKind.i64.wrap ((1 : Int) * 2 ^ (min (k : Int).toNat IntKind.i64.bits)) = ((2 ^ k : Nat) : Int) := fun k hk => by
   have hp : 2 ^ k < 65536 := Nat.pow_lt_pow_right (a := 2) (by decide) hk
   have hb : IntKind.i64.bits = 64 := rfl
   refine wrapI' ?_ (by omega)
   rw [Int.toNat_natCast, Nat.min_eq_left (by rw [hb]; omega), Int.one_mul]
   simp
  subst hs'
  refine Split.mk fun t ht => ?_
  cases t
  ·refine Need.mk (by decide) ?_
   refine Need.mk (Int.natCast_nonneg (hsh s s.size % 16)) ?_
   refine Num.mk _ (sh (hsh s s.size % 16) (Nat.mod_lt _ (by decide))) ?_
   refine Need.mk (by decide) ?_
   refine Num.mk ((hsh s s.size / 16 : Nat) : Int) (wrapI' (tdivN' _ _) (by omega)) ?_
   refine Need.mk (by decide) ?_
   refine Need.mk (Int.natCast_nonneg (hsh s s.size / 16 % 16)) ?_
   refine Num.mk _ (sh (hsh s s.size / 16 % 16) (Nat.mod_lt _ (by decide))) ?_
   refine Need.mk rfl ?_
   refine Need.mk ⟨[], _, .same, ?_, rfl⟩ trivial
   exact congrArg (fun z => RV.one (vi z)) (orN p1 p2)
  ·simp at ht
 ·have hia : i < s.size := by omega
  have h1 := hsh_lt s i
  have h2 := byteAt_lt s i
  have h4 : ((31 : Int) * (hsh s i : Int) + ((byteAt s i).toNat : Int)).tmod 65521 = ((hsh s (i + 1) : Nat) : Int) := by
   rw [show (31 : Int) * (hsh s i : Int) + ((byteAt s i).toNat : Int) = ((31 * hsh s i + (byteAt s i).toNat : Nat) : Int) by omega]
   exact tmodN' _ _
  subst hs'
  refine Split.mk fun t ht => ?_
  cases t
  ·simp at ht; omega
  refine Num.mk ((31 : Int) * (hsh s i : Int)) (wrapI (by omega) (by omega)) ?_
  refine Need.mk ⟨by omega, by omega⟩ ?_
  refine Num.mk (((byteAt s i).toNat : Nat) : Int) (by rw [IntKind.wrap_i64]; omega) ?_
  refine Num.mk ((31 : Int) * (hsh s i : Int) + ((byteAt s i).toNat : Int)) (wrapI (by omega) (by omega)) ?_
  refine Need.mk (by decide) ?_
  refine Num.mk _ (wrapS (by omega)) ?_
  exact ⟨s.size - (i + 1), _, by omega, Weak.nrm [true, false, true, true, false, false, true, true] [] rfl rfl rfl, i + 1, by omega, rfl, by rw [← h4]; rfl⟩
theorem impl_inOrder (xs : List Ent) (hx : OkE xs) (hxl : xs.length ≤ 1099511627776) : AFn Tryz.prog 99 [sl (xs.map Ent.enc)] [] (rb (ordOk xs)) [] := by
 refine AFn.introX (E := En 0 md0) (en_ok 0 md0) Tryz.func99 rfl rfl rfl fun _ _ => ?_
 have fin : ∀ {c : Bool}, c = ordOk xs → rb c = rb (ordOk xs) := fun h => by rw [h]
 refine ALoop.mk (fun m s => ∃ i : Nat, i ≤ xs.length ∧ m = xs.length - i ∧ (∀ (j : Nat) (h : j < xs.length), j < i → entOk xs[j] = true ∧ (∀ k (hk : k + 1 = j), eLess (xs[k]'(by omega)) xs[j] = true)) ∧
   s = ⟨some (sl (xs.map Ent.enc)) :: none :: some (av (.bool false)) :: none :: none :: some (sl (xs.map Ent.enc)) :: some (av (.int .i64 xs.length)) :: some (av (.int .i64 i)) :: List.replicate 22 none, List.replicate 30 absent⟩)
  ⟨xs.length, _, Weak.nrm [true, false, true, false, false, true, true, true] [] rfl rfl rfl, 0, Nat.zero_le _, rfl, by intro j h hj; omega, by rw [show ((xs.length : Nat) : Int) = ((xs.map Ent.enc).length : Nat) by rw [List.length_map]]; rfl⟩ ?_
 rintro m s ⟨i, hi, rfl, hall, rfl⟩
 refine Split.mk fun t ht => ?_
 cases t
 ·have hin : i = xs.length := by simp at ht; omega
  subst hin
  exact Need.mk ⟨[], _, .same, fin ((ordOk_iff xs).2 fun j h => hall j h h).symm, rfl⟩ trivial
 have hia : i < xs.length := by simpa using ht
 refine nd ?_
 refine Row.mk _ (map_get _ xs i hia) ?_
 refine ACall.mk _ _ (impl_EntryOk xs[i] (hx _ (List.getElem_mem _))) ?_
 refine Split.mk fun t h1 => ?_
 cases t
 ·refine Need.mk rfl ?_
  exact Need.mk ⟨[], _, .same, fin (ordOk_bad hia (.inl h1)).symm, rfl⟩ trivial
 refine Split.mk fun t h2 => ?_
 cases t
 ·have h0 : i = 0 := by simp at h2; omega
  refine Need.mk rfl ?_
  refine Num.mk _ (wrapS (by omega)) ?_
  refine ⟨xs.length - (i + 1), _, by omega, Weak.nrm [true, false, true, false, false, true, true, true] [] rfl rfl rfl, i + 1, by omega, rfl, fun j h hj => ?_, rfl⟩
  have : j = i := by omega
  subst this
  exact ⟨h1, fun k hk => by omega⟩
 ·have h0 : 0 < i := by simp at h2; omega
  refine Num.mk ((i - 1 : Nat) : Int) (wrapI' (by omega) (by omega)) ?_
  refine nd ?_
  refine Row.mk _ (map_get _ xs (i - 1) (by omega)) ?_
  refine ACall.mk _ _ (impl_EntryLess (xs[i - 1]'(by omega)) xs[i]) ?_
  refine Split.mk fun t h3 => ?_
  cases t
  ·refine Need.mk rfl ?_
   exact Need.mk ⟨[], _, .same, fin (ordOk_bad hia (.inr ⟨i - 1, by omega, h3⟩)).symm, rfl⟩ trivial
  ·refine Need.mk rfl ?_
   refine Num.mk _ (wrapS (by omega)) ?_
   refine ⟨xs.length - (i + 1), _, by omega, Weak.nrm [true, false, true, false, false, true, true, true] [] rfl rfl rfl, i + 1, by omega, rfl, fun j h hj => ?_, rfl⟩
   by_cases hji : j = i
   ·subst hji
    refine ⟨h1, fun k hk => ?_⟩
    have : k = j - 1 := by omega
    subst this
    exact h3
   ·exact hall j h (by omega)
theorem spec_l4Right (xs : List Ent) (hx : OkE xs) (hxl : xs.length ≤ 1099511627776) : AFn Tryz.prog 107 [sl (xs.map Ent.enc)] [] (rb (ordOk xs)) [] := by
 refine AFn.introX (E := En 0 md0) (en_ok 0 md0) Tryz.func107 rfl rfl rfl fun _ _ => ?_
 have fin : ∀ {c : Bool}, c = ordOk xs → rb c = rb (ordOk xs) := fun h => by rw [h]
 have hn : (xs.map Ent.enc).length = xs.length := List.length_map ..
 refine ALoop.mk (fun m s => ∃ i : Nat, i ≤ xs.length ∧ m = xs.length - i ∧ (∀ (j : Nat) (h : j < xs.length), j < i → entOk xs[j] = true ∧ (∀ k (hk : k + 1 = j), eLess (xs[k]'(by omega)) xs[j] = true)) ∧
   s = ⟨some (sl (xs.map Ent.enc)) :: none :: some (av (.bool false)) :: some (av (.int .i64 i)) :: List.replicate 29 none, List.replicate 33 absent⟩)
  ⟨xs.length, _, Weak.nrm [true, false, true, true] [] rfl rfl rfl, 0, Nat.zero_le _, rfl, by intro j h hj; omega, rfl⟩ ?_
 rintro m s ⟨i, hi, rfl, hall, rfl⟩
 refine Split.mk fun t ht => ?_
 rw [hn] at ht
 cases t
 ·have hin : i = xs.length := by simp at ht; omega
  subst hin
  exact Need.mk ⟨[], _, .same, fin ((ordOk_iff xs).2 fun j h => hall j h h).symm, rfl⟩ trivial
 have hia : i < xs.length := by simpa using ht
 refine nd ?_
 refine Row.mk _ (map_get _ xs i hia) ?_
 refine ACall.mk _ _ (spec_EntryOk xs[i] (hx _ (List.getElem_mem _))) ?_
 refine Split.mk fun t h1 => ?_
 cases t
 ·refine Need.mk rfl ?_
  exact Need.mk ⟨[], _, .same, fin (ordOk_bad hia (.inl h1)).symm, rfl⟩ trivial
 refine Split.mk fun t h2 => ?_
 cases t
 ·have h0 : i = 0 := by simp at h2; omega
  refine Need.mk rfl ?_
  refine Num.mk _ (wrapS (by omega)) ?_
  refine ⟨xs.length - (i + 1), _, by omega, Weak.nrm [true, false, true, true] [] rfl rfl rfl, i + 1, by omega, rfl, fun j h hj => ?_, rfl⟩
  have : j = i := by omega
  subst this
  exact ⟨h1, fun k hk => by omega⟩
 ·have h0 : 0 < i := by simp at h2; omega
  refine Num.mk ((i - 1 : Nat) : Int) (wrapI' (by omega) (by omega)) ?_
  refine nd ?_
  refine Row.mk _ (map_get _ xs (i - 1) (by omega)) ?_
  refine nd ?_
  refine Row.mk _ (map_get _ xs i hia) ?_
  refine ACall.mk _ _ (spec_EntryLess (xs[i - 1]'(by omega)) xs[i]) ?_
  refine Split.mk fun t h3 => ?_
  cases t
  ·refine Need.mk rfl ?_
   exact Need.mk ⟨[], _, .same, fin (ordOk_bad hia (.inr ⟨i - 1, by omega, h3⟩)).symm, rfl⟩ trivial
  ·refine Need.mk rfl ?_
   refine Num.mk _ (wrapS (by omega)) ?_
   refine ⟨xs.length - (i + 1), _, by omega, Weak.nrm [true, false, true, true] [] rfl rfl rfl, i + 1, by omega, rfl, fun j h hj => ?_, rfl⟩
   by_cases hji : j = i
   ·subst hji
    refine ⟨h1, fun k hk => ?_⟩
    have : k = j - 1 := by omega
    subst this
    exact h3
   ·exact hall j h (by omega)
theorem impl_RunOf_bad (xs : List Ent) (hx : OkE xs) (hg : good xs = false) : AFn Tryz.prog 179 [sl (xs.map Ent.enc)] [] (.tup [.agg [.us 83 [], vi 0], .one (vb false)]) [] := by
 refine AFn.introX (E := En 0 (md1 [105])) (en_ok 0 _) Tryz.func179 rfl rfl rfl fun _ _ => ?_
 have hn : (xs.map Ent.enc).length = xs.length := List.length_map ..
 have hO : OkE (isort eLess xs) := fun e he => hx e ((isort_mem _ _ _).1 he)
 refine Split.mk fun t h1 => ?_
 rw [hn] at h1
 cases t
 case true => exact Need.mk ⟨[], _, .same, rfl, rfl⟩ trivial
 refine Split.mk fun t h2 => ?_
 rw [hn] at h2
 cases t
 case true => exact Need.mk ⟨[], _, .same, rfl, rfl⟩ trivial
 have hl : 1 ≤ xs.length ∧ xs.length ≤ 150 := by simp at h1 h2; omega
 have ho : ordOk (isort eLess xs) = false := by simpa [good, hl] using hg
 refine Need.mk ⟨plainE xs, lenE xs⟩ ?_
 refine Need.mk ⟨by simp only [hn, List.length_nil]; omega, by simp only [hn, List.length_nil, maxLen]; omega⟩ ?_
 refine ACall.mk _ _ (slices_SortStable 106 eLess eLess_wk entryOrder_ok xs (by omega)) ?_
 refine Fz.mk _ (frzE (isort eLess xs)) ?_
 refine ACall.mk _ _ (impl_inOrder (isort eLess xs) hO (by rw [isort_len]; omega)) ?_
 refine Need.mk ⟨closed_v, no_objs⟩ ?_
 refine Split.mk fun t h3 => ?_
 cases t
 ·exact Need.mk ⟨[], _, .same, rfl, rfl⟩ trivial
 ·rw [ho] at h3; cases h3
theorem impl_RunOf_ok (xs : List Ent) (hx : OkE xs) (hg : good xs = true) : AFn Tryz.prog 179 [sl (xs.map Ent.enc)] [] (.tup [.agg [.us 83 ((isort eLess xs).map Ent.enc), vi (rmask (isort eLess xs) : Nat)], .one (vb true)]) [] := by
 refine AFn.introX (E := En 0 (md1 [105])) (en_ok 0 _) Tryz.func179 rfl rfl rfl fun _ _ => ?_
 have hn : (xs.map Ent.enc).length = xs.length := List.length_map ..
 have hO : OkE (isort eLess xs) := fun e he => hx e ((isort_mem _ _ _).1 he)
 have hl : 1 ≤ xs.length ∧ xs.length ≤ 150 ∧ ordOk (isort eLess xs) = true := by simpa [good] using hg
 refine Split.mk fun t h1 => ?_
 rw [hn] at h1
 cases t
 case true => simp at h1; omega
 refine Split.mk fun t h2 => ?_
 rw [hn] at h2
 cases t
 case true => simp at h2; omega
 refine Need.mk ⟨plainE xs, lenE xs⟩ ?_
 refine Need.mk ⟨by simp only [hn, List.length_nil]; omega, by simp only [hn, List.length_nil, maxLen]; omega⟩ ?_
 refine ACall.mk _ _ (slices_SortStable 106 eLess eLess_wk entryOrder_ok xs (by omega)) ?_
 refine Fz.mk _ (frzE (isort eLess xs)) ?_
 refine ACall.mk _ _ (impl_inOrder (isort eLess xs) hO (by rw [isort_len]; omega)) ?_
 refine Need.mk ⟨closed_v, no_objs⟩ ?_
 refine Split.mk fun t h3 => ?_
 cases t
 case false => rw [hl.2.2] at h3; cases h3
 have hex := exq (isort eLess xs)
 obtain ⟨ys, hy⟩ := hex
 have hyl : ys.length ≤ 150 := by rw [← hy, isort_len]; omega
 have hyO : OkE ys := by rw [← hy]; exact hO
 let S : Nat → Int → St := fun i mm => ⟨none :: none :: some (.bx 2 0) :: some (av (.bool false)) :: some (.one (.ref 4 0 (.cell 0))) :: some (av (.int .i64 mm)) :: none :: none :: none :: none :: none :: none :: none :: none :: none :: none :: none :: none :: none :: none :: none :: none :: none :: none :: none :: some (.one (.ref 4 0 (.cell 0))) :: some (av (.int .i64 ((ys.map Ent.enc).length : Nat))) :: some (av (.int .i64 i)) :: List.replicate 12 none, absent :: absent :: ⟨0, 0, some [.us 83 [], vi 0]⟩ :: absent :: ⟨0, 1, some [.us 83 (ys.map Ent.enc)]⟩ :: List.replicate 35 absent⟩
 refine ALoop.mk (fun m s => ∃ i : Nat, i ≤ ys.length ∧ m = ys.length - i ∧ s = S i (rmask (ys.take i) : Nat))
  ⟨ys.length, _, Weak.nrm [false, false, true, true, true, true, false, false, false, false, false, false, false, false, false, false, false, false, false, false, false, false, false, false, false, true, true, true] [(2, 2), (18, 4)] rfl rfl rfl, 0, Nat.zero_le _, rfl, ?_⟩ ?_
 ·subst hy
  rfl
 rintro m s ⟨i, hi, rfl, hs⟩
 by_cases hin : i = ys.length
 ·subst hin
  rw [List.take_length] at hs
  subst hs
  refine Split.mk fun t ht => ?_
  cases t
  ·exact Need.mk ⟨[], _, .same, by rw [hy]; rfl, rfl⟩ trivial
  ·rw [List.length_map] at ht; simp at ht
 ·have hia : i < ys.length := by omega
  have he := rmask_snoc (ys.take i) ys[i]
  rw [← List.take_succ_eq_append_getElem hia] at he
  have hor : IntKind.i64.wrap (((BitVec.ofInt IntKind.i64.bits ((rmask (ys.take i) : Nat) : Int) ||| BitVec.ofInt IntKind.i64.bits ((kmask ys[i].key : Nat) : Int)).toNat : Nat) : Int) = ((rmask (ys.take (i + 1)) : Nat) : Int) := by
   rw [he]; exact orN (rmask_lt _) (kmask_lt _)
  subst hs
  refine Split.mk fun t ht => ?_
  rw [List.length_map] at ht
  cases t
  ·simp at ht; omega
  refine Need.mk ⟨by omega, by rw [List.length_map]; omega⟩ ?_
  refine Row.mk _ (map_get _ ys i hia) ?_
  refine ACall.mk _ _ (impl_KeyMask ys[i].key (hyO _ (List.getElem_mem _)).1) ?_
  refine Num.mk _ (wrapS (by omega)) ?_
  exact ⟨ys.length - (i + 1), _, by omega, Weak.nrm [false, false, true, true, true, true, false, false, false, false, false, false, false, false, false, false, false, false, false, false, false, false, false, false, false, true, true, true] [(2, 2), (4, 4)] rfl rfl rfl, i + 1, by omega, rfl, congrArg (S (i + 1)) hor⟩
theorem spec_l4Mask (xs : List Ent) (hx : OkE xs) (hxl : xs.length ≤ 1099511627776) : AFn Tryz.prog 188 [sl (xs.map Ent.enc)] [] (.one (vi (rmask xs : Nat))) [] := by
 refine AFn.introX (E := En 0 md0) (en_ok 0 md0) Tryz.func188 rfl rfl rfl fun _ _ => ?_
 have hn : (xs.map Ent.enc).length = xs.length := List.length_map ..
 refine ALoop.mk (fun m s => ∃ i : Nat, i ≤ xs.length ∧ m = xs.length - i ∧ s = ⟨some (sl (xs.map Ent.enc)) :: none :: some (av (.int .i64 0)) :: some (av (.int .i64 (rmask (xs.take i) : Nat))) :: some (av (.int .i64 i)) :: List.replicate 15 none, List.replicate 20 absent⟩)
  ⟨xs.length, _, Weak.nrm [true, false, true, true, true] [] rfl rfl rfl, 0, Nat.zero_le _, rfl, rfl⟩ ?_
 rintro m s ⟨i, hi, rfl, hs⟩
 by_cases hin : i = xs.length
 ·subst hin
  rw [List.take_length] at hs
  subst hs
  refine Split.mk fun t ht => ?_
  rw [hn] at ht
  cases t
  ·exact Need.mk ⟨[], _, .same, rfl, rfl⟩ trivial
  ·simp at ht
 ·have hia : i < xs.length := by omega
  have he := rmask_snoc (xs.take i) xs[i]
  rw [← List.take_succ_eq_append_getElem hia] at he
  subst hs
  refine Split.mk fun t ht => ?_
  rw [hn] at ht
  cases t
  ·simp at ht; omega
  refine nd ?_
  refine Row.mk _ (map_get _ xs i hia) ?_
  refine ACall.mk _ _ (spec_KeyMask xs[i].key (hx _ (List.getElem_mem _)).1) ?_
  refine ACall.mk _ _ (spec_l4Or (rmask (xs.take i)) (kmask xs[i].key) (rmask_lt _) (kmask_lt _)) ?_
  refine Num.mk _ (wrapS (by omega)) ?_
  exact ⟨xs.length - (i + 1), _, by omega, Weak.nrm [true, false, true, true, true] [] rfl rfl rfl, i + 1, by omega, rfl, by rw [he]; rfl⟩
theorem slices_EqualE (a b : List Ent) : AFn Tryz.prog 58 [sl (a.map Ent.enc), sl (b.map Ent.enc)] [] (rb (decide (a = b))) [] := by
 refine AFn.introX (E := En 0 md0) (en_ok 0 md0) Tryz.func58 rfl rfl rfl fun hs _ => ?_
 have ha := Small.len (hs _ (List.mem_cons_self ..))
 rw [List.length_map] at ha
 have fin : ∀ {c : Bool}, c = decide (a = b) → rb c = rb (decide (a = b)) := fun h => by rw [h]
 refine Split.mk fun t ht => ?_
 cases t
 ·have hl : a.length = b.length := Int.ofNat_inj.1 (by simpa using ht)
  refine ALoop.mk (fun n s => ∃ i : Nat, i ≤ a.length ∧ n = a.length - i ∧ a.take i = b.take i ∧
   s = ⟨some (sl (a.map Ent.enc)) :: some (sl (b.map Ent.enc)) :: none :: none :: some (av (.bool false)) :: none :: none :: none :: none :: none :: none :: none :: some (av (.int .i64 a.length)) :: some (av (.int .i64 i)) :: List.replicate 12 none, List.replicate 26 absent⟩)
   ⟨a.length, _, Weak.nrm [true, true, false, false, true, false, false, false, false, false, false, false, true, true] [] rfl rfl rfl, 0, Nat.zero_le _, rfl, rfl, by rw [show ((a.length : Nat) : Int) = ((a.map Ent.enc).length : Nat) by rw [List.length_map]]; rfl⟩ ?_
  rintro n s ⟨i, hi, rfl, hp, rfl⟩
  refine Split.mk fun t ht => ?_
  cases t
  ·have hia : i = a.length := by simp at ht; omega
   refine Need.mk ⟨[], _, .same, fin ?_, rfl⟩ trivial
   subst hia
   rw [List.take_length, hl, List.take_length] at hp
   simp [hp]
  ·have hia : i < a.length := by simpa using ht
   refine nd ?_
   refine Row.mk _ (map_get _ a i hia) ?_
   refine nd ?_
   refine Row.mk _ (map_get _ b i (by omega)) ?_
   refine Split.mk fun t ht2 => ?_
   have ht2 : (!decide (a[i] = b[i]'(by omega))) = t := by rw [← ent_beq]; exact ht2
   cases t
   ·refine Need.mk rfl ?_
    refine Num.mk _ (wrapS (by omega)) ?_
    refine ⟨a.length - (i + 1), _, by omega, Weak.nrm [true, true, false, false, true, false, false, false, false, false, false, false, true, true] [] rfl rfl rfl, i + 1, by omega, rfl, ?_, rfl⟩
    have : a[i] = b[i]'(by omega) := by simpa using ht2
    rw [List.take_succ_eq_append_getElem hia, List.take_succ_eq_append_getElem (by omega), hp, this]
   ·refine Need.mk rfl ?_
    refine Need.mk ⟨[], _, .same, fin ?_, rfl⟩ trivial
    have : a[i] ≠ b[i]'(by omega) := by simpa using ht2
    refine (decide_eq_false fun e => this ?_).symm
    subst e; rfl
 ·refine Need.mk ⟨[], _, .same, fin ?_, rfl⟩ trivial
  have : a.length ≠ b.length := by
   intro e; simp [e] at ht
  exact (decide_eq_false fun e => this (by rw [e])).symm
theorem impl_RunSame (a b : Rn) : AFn Tryz.prog 95 [.agg (a.enc.map .c), .agg (b.enc.map .c)] [] (rb (decide (a = b))) [] := by
 refine AFn.introX (E := En 0 md0) (en_ok 0 md0) Tryz.func95 rfl rfl rfl fun _ _ => ?_
 have fin : ∀ {c : Bool}, c = decide (a = b) → rb c = rb (decide (a = b)) := fun h => by rw [h]
 refine Split.mk fun t ht => ?_
 cases t
 ·exact Need.mk ⟨[], _, .same, fin (by cases a; cases b; simp_all), rfl⟩ trivial
 ·refine ACall.mk _ _ (slices_EqualE a.ents b.ents) ?_
  refine Split.mk fun t ht1 => ?_
  exact Need.mk ⟨[], _, .same, fin (by cases a; cases b; simp_all), rfl⟩ trivial
theorem impl_RunOk (r : Rn) (hr : OkE r.ents) : AFn Tryz.prog 142 [.agg (r.enc.map .c)] [] (rb (runOk r)) [] := by
 refine AFn.introX (E := En 0 md0) (en_ok 0 _) Tryz.func142 rfl rfl rfl fun _ _ => ?_
 have heq := runOk_eq r
 have fin : ∀ {c : Bool}, c = runOk r → rb c = rb (runOk r) := fun h => by rw [h]
 by_cases hg : good r.ents = true
 ·rw [hg, Bool.true_and] at heq
  refine ACall.mk _ _ (impl_RunOf_ok r.ents hr hg) ?_
  refine sp1 ?_
  refine Fz.mk _ (frzE (isort eLess r.ents)) ?_
  refine ACall.mk _ _ (impl_RunSame ⟨isort eLess r.ents, (rmask (isort eLess r.ents) : Nat)⟩ r) ?_
  refine Need.mk ⟨closed_v, no_objs⟩ ?_
  refine Split.mk fun t ht2 => ?_
  exact Need.mk ⟨[], _, .same, fin (ht2.symm.trans heq.symm), rfl⟩ trivial
 ·have hg : good r.ents = false := by simpa using hg
  rw [hg, Bool.false_and] at heq
  refine ACall.mk _ _ (impl_RunOf_bad r.ents hr hg) ?_
  refine Split.mk fun t ht => ?_
  cases t
  ·exact Need.mk ⟨[], _, .same, fin heq.symm, rfl⟩ trivial
  ·cases ht
theorem spec_RunOk (r : Rn) (hr : OkE r.ents) (hx : r.ents.length ≤ 1099511627776) : AFn Tryz.prog 154 [.agg (r.enc.map .c)] [] (rb (runOk r)) [] := by
  refine AFn.introX (E := En 0 md0) (en_ok 0 _) Tryz.func154 rfl rfl rfl fun _ _ => ?_
  have fin : ∀ {c : Bool}, c = runOk r → rb c = rb (runOk r) := fun h => by rw [h]
  have hn : (r.ents.map Ent.enc).length = r.ents.length := List.length_map ..
  refine Split.mk fun t h1 => ?_
  rw [hn] at h1
  cases t
  · refine Need.mk rfl ?_
    exact Need.mk ⟨[], _, .same, fin (by have : decide (1 ≤ r.ents.length) = false := decide_eq_false (by have := of_decide_eq_false h1; omega)
                                         simp [runOk, this]), rfl⟩ trivial
  have e1 : decide (1 ≤ r.ents.length) = true := decide_eq_true (by have := of_decide_eq_true h1; omega)
  refine Split.mk fun t h2 => ?_
  rw [hn] at h2
  cases t
  · refine Need.mk rfl ?_
    exact Need.mk ⟨[], _, .same, fin (by have : decide (r.ents.length ≤ 150) = false := decide_eq_false (by have := of_decide_eq_false h2; omega)
                                         simp [runOk, this]), rfl⟩ trivial
  have e2 : decide (r.ents.length ≤ 150) = true := decide_eq_true (by have := of_decide_eq_true h2; omega)
  refine ACall.mk _ _ (spec_l4Right r.ents hr hx) ?_
  refine Split.mk fun t h3 => ?_
  cases t
  · refine Need.mk rfl ?_
    exact Need.mk ⟨[], _, .same, fin (by simp [runOk, h3]), rfl⟩ trivial
  refine ACall.mk _ _ (spec_l4Mask r.ents hr hx) ?_
  refine Split.mk fun t h4 => ?_
  refine Need.mk rfl ?_
  refine Need.mk ⟨[], _, .same, fin ?_, rfl⟩ trivial
  rw [← h4]
  simp only [runOk, e1, e2, h3, Bool.true_and]
  rw [Bool.eq_iff_iff]; simp
end Go.Proofs.YtpcimdalgpfkaaaGreatDoor
