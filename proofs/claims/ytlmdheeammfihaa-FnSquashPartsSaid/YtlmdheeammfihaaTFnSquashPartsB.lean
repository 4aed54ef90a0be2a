/-
  Contracts of functions, part 2.
-/
import Derived.Test.YtlmdheeammfihaaTFnSquashParts
namespace Go.Proofs.Ytlmdheeammfihaa
open Go Go.Proofs Ev
set_option maxRecDepth 100000
set_option linter.unusedSimpArgs false
set_option linter.unusedVariables false
open Go.RowKit Go.Shelf
attribute [local go_sem] Oper.semAt_some
set_option maxRecDepth 100000

theorem avr_v {P : Program} {w : World} {F : Frs} {L : Nat → Pl} {o : List Ob} {x v : Value} (h : AVR P w F L o (.one (.c (.v x))) v) : v = x := by
  cases h with
  | one h => cases h with
    | c h => cases h with
      | v _ => rfl
theorem avr_t {P : Program} {w : World} {F : Frs} {L : Nat → Pl} {o : List Ob} {v : Value} (h : AVR P w F L o (.tup []) v) : v = undef := by
  cases h with
  | @tup _ vs h _ =>
    have : vs = #[] := Array.eq_empty_of_size_eq_zero (by simpa using h.symm)
    subst this; rfl
theorem avr_ep {P : Program} {w : World} {F : Frs} {L : Nat → Pl} {o : List Ob} {row : List C} {b k off : Nat} {v : Value} (h : AVR P w F L o (.ep row off (some (b, k))) v) : v = .pointer (some ⟨b, k + off, none⟩) := by
  cases h with
  | ep had _ => have := had _ rfl; cases this; rfl
theorem consLen {α : Type} {l : List α} {n : Nat} (h : l.length = n + 1) : ∃ a t, l = a :: t ∧ t.length = n := by
  cases l with
  | nil => cases h
  | cons a t => exact ⟨a, t, rfl, by simpa using h⟩
theorem arr38 {t : Array Value} (h : t.size = 38) : ∃ v0 v1 v2 v3 v4 v5 v6 v7 v8 v9 v10 v11 v12 v13 v14 v15 v16 v17 v18 v19 v20 v21 v22 v23 v24 v25 v26 v27 v28 v29 v30 v31 v32 v33 v34 v35 v36 v37, t = #[v0, v1, v2, v3, v4, v5, v6, v7, v8, v9, v10, v11, v12, v13, v14, v15, v16, v17, v18, v19, v20, v21, v22, v23, v24, v25, v26, v27, v28, v29, v30, v31, v32, v33, v34, v35, v36, v37] := by
  obtain ⟨l⟩ := t
  simp only [List.size_toArray] at h
  obtain ⟨v0, l0, h0, k0⟩ := consLen h
  obtain ⟨v1, l1, h1, k1⟩ := consLen k0
  obtain ⟨v2, l2, h2, k2⟩ := consLen k1
  obtain ⟨v3, l3, h3, k3⟩ := consLen k2
  obtain ⟨v4, l4, h4, k4⟩ := consLen k3
  obtain ⟨v5, l5, h5, k5⟩ := consLen k4
  obtain ⟨v6, l6, h6, k6⟩ := consLen k5
  obtain ⟨v7, l7, h7, k7⟩ := consLen k6
  obtain ⟨v8, l8, h8, k8⟩ := consLen k7
  obtain ⟨v9, l9, h9, k9⟩ := consLen k8
  obtain ⟨v10, l10, h10, k10⟩ := consLen k9
  obtain ⟨v11, l11, h11, k11⟩ := consLen k10
  obtain ⟨v12, l12, h12, k12⟩ := consLen k11
  obtain ⟨v13, l13, h13, k13⟩ := consLen k12
  obtain ⟨v14, l14, h14, k14⟩ := consLen k13
  obtain ⟨v15, l15, h15, k15⟩ := consLen k14
  obtain ⟨v16, l16, h16, k16⟩ := consLen k15
  obtain ⟨v17, l17, h17, k17⟩ := consLen k16
  obtain ⟨v18, l18, h18, k18⟩ := consLen k17
  obtain ⟨v19, l19, h19, k19⟩ := consLen k18
  obtain ⟨v20, l20, h20, k20⟩ := consLen k19
  obtain ⟨v21, l21, h21, k21⟩ := consLen k20
  obtain ⟨v22, l22, h22, k22⟩ := consLen k21
  obtain ⟨v23, l23, h23, k23⟩ := consLen k22
  obtain ⟨v24, l24, h24, k24⟩ := consLen k23
  obtain ⟨v25, l25, h25, k25⟩ := consLen k24
  obtain ⟨v26, l26, h26, k26⟩ := consLen k25
  obtain ⟨v27, l27, h27, k27⟩ := consLen k26
  obtain ⟨v28, l28, h28, k28⟩ := consLen k27
  obtain ⟨v29, l29, h29, k29⟩ := consLen k28
  obtain ⟨v30, l30, h30, k30⟩ := consLen k29
  obtain ⟨v31, l31, h31, k31⟩ := consLen k30
  obtain ⟨v32, l32, h32, k32⟩ := consLen k31
  obtain ⟨v33, l33, h33, k33⟩ := consLen k32
  obtain ⟨v34, l34, h34, k34⟩ := consLen k33
  obtain ⟨v35, l35, h35, k35⟩ := consLen k34
  obtain ⟨v36, l36, h36, k36⟩ := consLen k35
  obtain ⟨v37, l37, h37, k37⟩ := consLen k36
  have e := List.eq_nil_of_length_eq_zero k37
  exact ⟨v0, v1, v2, v3, v4, v5, v6, v7, v8, v9, v10, v11, v12, v13, v14, v15, v16, v17, v18, v19, v20, v21, v22, v23, v24, v25, v26, v27, v28, v29, v30, v31, v32, v33, v34, v35, v36, v37, by rw [h0, h1, h2, h3, h4, h5, h6, h7, h8, h9, h10, h11, h12, h13, h14, h15, h16, h17, h18, h19, h20, h21, h22, h23, h24, h25, h26, h27, h28, h29, h30, h31, h32, h33, h34, h35, h36, h37, e]⟩
/-- The test of a round of classesOf's closure. -/
noncomputable def c1K (l b1 b2 : Nat) (st k : Nat) (R1 R2 : List (List C)) (t : Bool) : Exit → St → Prop := fun e s => e = .normal ∧ s.s.length = 38 ∧ s.s[0]? = some (some (.one (.c (.v (.func (.yield l) #[] #[]))))) ∧
  s.s[1]? = some (some (.ep [.sl R1] 0 (some (b1, 0)))) ∧ s.s[2]? = some (some (.ep [.sl R2] 0 (some (b2, 0)))) ∧ s.s[3]? = some (some (.tup [])) ∧ s.s[4]? = some (some (av (.int .i64 st))) ∧ s.s[5]? = some (some (av (.int .i64 k))) ∧ s.s[29]? = some (some (av (.bool t)))
noncomputable def c1S (l b1 b2 : Nat) (st k : Nat) (R1 R2 : List (List C)) : List (Option AV) :=
  some (.one (.c (.v (.func (.yield l) #[] #[])))) :: some (.ep [.sl R1] 0 (some (b1, 0))) :: some (.ep [.sl R2] 0 (some (b2, 0))) :: some (.tup []) :: some (av (.int .i64 st)) :: some (av (.int .i64 k)) :: List.replicate 32 none

def brkAt (snaps : List Int) (L : List Ent) (k : Nat) : Bool := if h : 0 < k ∧ k < L.length then partS snaps (L[k]'h.2).seq (L[k - 1]'(by omega)).seq else true
/-- What a round keeps. -/
def Keq (S : Nat → Prop) (A B : World) : Prop := A.heap.size ≤ B.heap.size ∧ ∀ k, S k → B.heap[k]? = A.heap[k]?
theorem Keq.refl (S : Nat → Prop) (A : World) : Keq S A A := ⟨Nat.le_refl _, fun _ _ => rfl⟩
theorem Keq.trans {S : Nat → Prop} {A B C : World} (h : Keq S A B) (k : Keq S B C) : Keq S A C := ⟨Nat.le_trans h.1 k.1, fun i hi => (k.2 i hi).trans (h.2 i hi)⟩
theorem groups_step {snaps : List Int} {L : List Ent} {st k : Nat} (h1 : st < k) (h2 : k ≤ L.length) (hno : ∀ j, st < j → j < k → brkAt snaps L j = false) (hb : (decide (k < L.length) && !brkAt snaps L k) = false) :
    groups (brS snaps) (L.drop st) = (L.take k).drop st :: groups (brS snaps) (L.drop k) := by
  have h := groups_split (br := brS snaps) (l := L.drop st) (k := k - st) (by omega) (by rw [List.length_drop]; omega) (fun j g1 g2 g3 => by
    have := hno (st + j) (by omega) (by omega)
    rw [brkAt, dif_pos ⟨by omega, by omega⟩] at this
    simp only [List.getElem_drop, brS]
    have e : st + (j - 1) = st + j - 1 := by omega
    simp only [e]
    exact this) (fun h3 => by
    rw [List.length_drop] at h3
    have hk : k < L.length := by omega
    rw [decide_eq_true hk, Bool.true_and, brkAt, dif_pos ⟨by omega, hk⟩] at hb
    simp only [List.getElem_drop, brS]
    have e : st + (k - st - 1) = k - 1 := by omega
    have e2 : st + (k - st) = k := by omega
    simp only [e, e2]
    simpa using hb)
  rw [h, List.drop_drop, List.drop_take]
  have e2 : st + (k - st) = k := by omega
  rw [e2]
set_option maxHeartbeats 4000000 in
theorem impl_classes1_in (n : Nat) (hn : 1 ≤ n) (l b1 b2 : Nat) (S : Nat → Prop) (L : List Ent) (snaps : List Int) (a1 a2 : Option Addr) (c1 k2 c2 : Nat) (hl : L.length ≤ 16777216) (hs0 : snaps.length ≤ 1099511627776) (J Jx : List (Nat × Nat) → World → Prop) (W : World)
    (hJ : AbidesFrom W.heap.size J) (hb1 : S b1) (hb2 : S b2) (hn₀ : ∀ k, S k → k < W.heap.size)
    (hc1 : W.cell? ⟨b1, 0, none⟩ = some (.slice a1 L.length c1)) (hc2 : W.cell? ⟨b2, 0, none⟩ = some (.slice a2 k2 c2))
    (hf1 : FR W S (.sl (L.map Ent.enc)) (.slice a1 L.length c1)) (hf2 : FR W S (.sl (snaps.map encI)) (.slice a2 k2 c2))
    (hY : ∀ pre x W1, J pre W1 → pre.length < L.length → YieldAt Fence.wide (n - 1) Try.prog l #[resliced (.slice a1 L.length c1) x.1 (x.2 - x.1) 5] W1 fun e W' =>
      (e = .returned (.bool true) ∧ J (pre ++ [x]) W' ∧ Keq S W1 W') ∨ (e = .returned (.bool false) ∧ Jx (pre ++ [x]) W')) (h0 : J [] W) :
    CallsIn Fence.wide n Try.prog 161 #[.func (.yield l) #[] #[], .pointer (some ⟨b1, 0, none⟩), .pointer (some ⟨b2, 0, none⟩)] W fun e W' => (∃ v, e = .returned v) ∧
      ((∃ xs, ((xs.map fun p => (L.take p.2).drop p.1) = groups (brS snaps) L ∧ ∀ p ∈ xs, p.1 < p.2 ∧ p.2 ≤ L.length) ∧ J xs W') ∨ (∃ pre, True ∧ Jx pre W')) := by
  refine callsIn_of_wp Try.func161 rfl trivial ?_ rfl
  simp only [Try.ntmps161, List.size_toArray, List.length_cons, List.length_nil, Nat.reduceAdd, Nat.reduceSub, Array.replicate_succ, Array.replicate_zero, List.push_toArray, List.append_toArray, List.nil_append, List.cons_append]
  gi_wp2
  have hcap : L.length ≤ c1 := by cases hf1 with | sl _ _ hc _ _ _ _ => exact hc
  gi_loopw [4, 5] (fun s i wr => ∃ (st k : Nat) (D : List (Nat × Nat)), s = .int .i64 st ∧ i = .int .i64 k ∧ k ≤ L.length + 1 ∧ (k ≤ L.length → st < k ∧ D.length ≤ st ∧ groups (brS snaps) L = (D.map fun p => (L.take p.2).drop p.1) ++ groups (brS snaps) (L.drop st) ∧ ∀ j, st < j → j < k → brkAt snaps L j = false) ∧
      (k = L.length + 1 → (D.map fun p => (L.take p.2).drop p.1) = groups (brS snaps) L) ∧ (∀ p ∈ D, p.1 < p.2 ∧ p.2 ≤ L.length) ∧ J D wr ∧ Keq S W wr)
    (fun s i _ => L.length + 1 - (intOf i).toNat)
  case atStart => exact ⟨0, 1, [], rfl, rfl, by omega, fun _ => ⟨by omega, Nat.le_refl _, rfl, fun j h1 h2 => by omega⟩, fun h => by
    have : L = [] := List.eq_nil_of_length_eq_zero (by omega)
    subst this; rfl, (fun p hp => nomatch hp), h0, Keq.refl _ _⟩
  case round =>
    obtain ⟨st, k, D, rfl, rfl, h2, hgo, hend, hDb, hJs, hnx⟩ := hrel
    have hcx1 : wr.cell? ⟨b1, 0, none⟩ = some (.slice a1 L.length c1) := (cell_of_heap (hnx.2 b1 hb1)).trans hc1
    have hcx2 : wr.cell? ⟨b2, 0, none⟩ = some (.slice a2 k2 c2) := (cell_of_heap (hnx.2 b2 hb2)).trans hc2
    by_cases hkl : k ≤ L.length
    · obtain ⟨h1, hDl, hG, hno⟩ := hgo hkl
      gi_wp2
      refine wpIn_wide.2 ?_
      refine wp_mono (ev_at (E := En 0 md0) (en_ok 0 _ _ _ _ _) rfl (F0 := S) (K := c1K l b1 b2 st k (L.map Ent.enc) (snaps.map encI) (decide (k < L.length) && !brkAt snaps L k)) (sl := c1S l b1 b2 st k (L.map Ent.enc) (snaps.map encI)) (k := 38) ?_ rfl ?_ ?_) ?_
      · intro q hq; exact Nat.lt_of_lt_of_le (hn₀ q hq) hnx.1
      · have hfr : ∀ q, S q → wr.heap[q]? = W.heap[q]? ∧ S q := fun q hq => ⟨hnx.2 q hq, hq⟩
        intro q av hq
        rcases q with _ | _ | _ | _ | _ | _ | q
        · injection hq with hq; injection hq with hq; subst hq
          exact ⟨_, rfl, .one (.c (.v rfl))⟩
        · injection hq with hq; injection hq with hq; subst hq
          refine ⟨_, rfl, AVR.ep (off := 0) (k := 0) (fun p hp => by cases hp; rfl) fun j c hj => ?_⟩
          rcases j with _ | j
          · injection hj with hj; subst hj
            exact ⟨hb1, _, hcx1, hf1.move hfr⟩
          · cases hj
        · injection hq with hq; injection hq with hq; subst hq
          refine ⟨_, rfl, AVR.ep (off := 0) (k := 0) (fun p hp => by cases hp; rfl) fun j c hj => ?_⟩
          rcases j with _ | j
          · injection hj with hj; subst hj
            exact ⟨hb2, _, hcx2, hf2.move hfr⟩
          · cases hj
        · injection hq with hq; injection hq with hq; subst hq
          exact ⟨_, rfl, .tup rfl (fun i s v h => nomatch h)⟩
        · injection hq with hq; injection hq with hq; subst hq
          exact ⟨_, rfl, .one (.c (.v rfl))⟩
        · injection hq with hq; injection hq with hq; subst hq
          exact ⟨_, rfl, .one (.c (.v rfl))⟩
        · have hq : (List.replicate 32 (none : Option AV))[q]? = some (some av) := hq
          rw [List.getElem?_replicate] at hq
          split at hq <;> cases hq
      · rw [← evX_eq]
        by_cases hlt : k < L.length
        · have hp := impl_parted (L[k - 1]'(by omega)) L[k] snaps hs0
          have hex : ∃ t, partS snaps L[k].seq (L[k - 1]'(by omega)).seq = t := ⟨_, rfl⟩
          obtain ⟨t0, ht0⟩ := hex
          have hbk : brkAt snaps L k = t0 := by rw [brkAt, dif_pos ⟨by omega, hlt⟩, ht0]
          have hres : (decide (k < L.length) && !brkAt snaps L k) = !t0 := by rw [hbk, decide_eq_true hlt, Bool.true_and]
          rw [hres]
          rw [ht0] at hp
          have hn : (L.map Ent.enc).length = L.length := List.length_map ..
          have hsub : IntKind.i64.wrap ((k : Int) - 1) = ((k - 1 : Nat) : Int) := wrapI' (by omega) (by omega)
          have hrow1 : (L.map Ent.enc)[k - 1]? = some (L[k - 1]'(by omega)).enc := by rw [List.getElem?_map, List.getElem?_eq_getElem (by omega)]; rfl
          have hrow2 : (L.map Ent.enc)[k]? = some (L[k]'(by omega)).enc := by rw [List.getElem?_map, List.getElem?_eq_getElem (by omega)]; rfl
          cases t0
          · refine Split.mk fun t h1 => ?_
            cases t
            case false => (exfalso; rw [decide_eq_false_iff_not, hn] at h1; omega)
            refine Num.mk _ hsub ?_
            refine Need.mk (by omega) ?_
            refine Row.mk _ hrow1 ?_
            refine Need.mk (by omega) ?_
            refine Row.mk _ hrow2 ?_
            refine ACall.mk _ _ hp ?_
            refine Split.mk fun t h2 => ?_
            cases t
            case true => cases h2
            exact Need.mk rfl ⟨rfl, rfl, rfl, rfl, rfl, rfl, rfl, rfl, rfl⟩
          · refine Split.mk fun t h1 => ?_
            cases t
            case false => (exfalso; rw [decide_eq_false_iff_not, hn] at h1; omega)
            refine Num.mk _ hsub ?_
            refine Need.mk (by omega) ?_
            refine Row.mk _ hrow1 ?_
            refine Need.mk (by omega) ?_
            refine Row.mk _ hrow2 ?_
            refine ACall.mk _ _ hp ?_
            refine Split.mk fun t h2 => ?_
            cases t
            case false => cases h2
            exact Need.mk rfl ⟨rfl, rfl, rfl, rfl, rfl, rfl, rfl, rfl, rfl⟩
        · have hkk : k = L.length := by omega
          have hn : (L.map Ent.enc).length = L.length := List.length_map ..
          rw [decide_eq_false hlt, Bool.false_and]
          refine Split.mk fun t h1 => ?_
          cases t
          case true => (exfalso; rw [decide_eq_true_iff, hn] at h1; omega)
          exact Need.mk rfl ⟨rfl, rfl, rfl, rfl, rfl, rfl, rfl, rfl, rfl⟩
      · rintro e a' w' ⟨sx, L', ow', ⟨rfl, hlen, hs0', hs1, hs2, hs3, hs4, hs5, hs29⟩, hR⟩
        have hsz : a'.tmps.size = 38 := by rw [← hR.len]; exact hlen
        have hdf := hR.defers
        have hk := hR.keeps
        obtain ⟨z0, e0, g0⟩ := hR.slots 0 _ hs0'
        obtain ⟨z1, e1, g1⟩ := hR.slots 1 _ hs1
        obtain ⟨z2, e2, g2⟩ := hR.slots 2 _ hs2
        obtain ⟨z3, e3, g3⟩ := hR.slots 3 _ hs3
        obtain ⟨z4, e4, g4⟩ := hR.slots 4 _ hs4
        obtain ⟨z5, e5, g5⟩ := hR.slots 5 _ hs5
        obtain ⟨z29, e29, g29⟩ := hR.slots 29 _ hs29
        clear hR
        obtain ⟨tm, df⟩ := a'
        simp only at hsz hdf e0 e1 e2 e3 e4 e5 e29
        subst hdf
        obtain ⟨v0, v1, v2, v3, v4, v5, v6, v7, v8, v9, v10, v11, v12, v13, v14, v15, v16, v17, v18, v19, v20, v21, v22, v23, v24, v25, v26, v27, v28, v29, v30, v31, v32, v33, v34, v35, v36, v37, rfl⟩ := arr38 hsz
        have q0 := avr_v g0
        have q1 := avr_ep g1
        have q2 := avr_ep g2
        have q3 := avr_t g3
        have q4 := avr_v g4
        have q5 := avr_v g5
        have q29 := avr_v g29
        subst q0 q1 q2 q3 q4 q5 q29
        injection e0 with e0
        injection e1 with e1
        injection e2 with e2
        injection e3 with e3
        injection e4 with e4
        injection e5 with e5
        injection e29 with e29
        subst e0 e1 e2 e3 e4 e5 e29
        clear g0 g1 g2 g3 g4 g5 g29
        have hB' : Keq S wr w' := ⟨hk.size, fun k hk' => hk.block k (Nat.lt_of_lt_of_le (hn₀ k hk') hnx.1) rfl⟩
        have hJ' : J D w' := hJ D wr w' none hJs hk.grown (fun _ e => by cases e)
        have hcx1 : w'.cell? ⟨b1, 0, none⟩ = some (.slice a1 L.length c1) := (cell_of_heap (hB'.2 b1 hb1)).trans hcx1
        have hcx2 : w'.cell? ⟨b2, 0, none⟩ = some (.slice a2 k2 c2) := (cell_of_heap (hB'.2 b2 hb2)).trans hcx2
        have hnx' := hnx.trans hB'
        obtain ⟨t, ht⟩ : ∃ t, (decide (k < L.length) && !brkAt snaps L k) = t := ⟨_, rfl⟩
        rw [ht]
        have hcs : ¬ c1 = st := by omega
        have HG : Hid _ := hG
        have HN : Hid _ := hno
        have HT : Hid _ := ht
        have HD : Hid _ := hDb
        clear hDb
        clear hgo hend hG hno ht hnx hJs hB'
        cases t
        · obtain ⟨fn, tmps, assign, body, hy, hR⟩ := hY D (st, k) w' hJ' (by omega)
          dsimp only [resliced] at hy
          rw [if_neg hcs] at hy
          gi_wp2
          refine hR.mono ?_
          rintro e W3 (⟨rfl, hJ3, hk3⟩ | ⟨rfl, hJx3⟩)
          · have hst := groups_step h1 hkl HN.out HT.out
            have HS : Hid _ := hst
            have hnx3 := hnx'.trans hk3
            clear hst
            gi_wp2
            go_roundw
            case rel =>
              refine ⟨k, k + 1, D ++ [(st, k)], rfl, rfl, by omega, fun h => ⟨by omega, by simp; omega, ?_, fun j h1 h2 => by omega⟩, fun h => ?_, ?_, hJ3, hnx3⟩
              · rw [HG.out, HS.out]; simp
              · have hkL : k = L.length := by omega
                have hS := HS.out
                rw [HG.out, hS, hkL, List.drop_length]; simp [groups]
              · intro p hp
                rcases List.mem_append.1 hp with hp | hp
                · exact HD.out p hp
                · obtain rfl := List.mem_singleton.1 hp
                  exact ⟨h1, hkl⟩
            case measure => simp [intOf]; omega
          · gi_wp2
            refine bodyPost_ret (results_none rfl _ _ _) rfl ?_
            exact ⟨⟨_, rfl⟩, .inr ⟨_, trivial, hJx3⟩⟩
        · gi_wp2
          have hT := HT.out
          rw [Bool.and_eq_true] at hT
          have hk2 := of_decide_eq_true hT.1
          have hbr : brkAt snaps L k = false := by simpa using hT.2
          refine ⟨⟨st, rfl, k + 1, rfl, by omega, D, fun h => ⟨by omega, hDl, HG.out, fun j g1 g2 => ?_⟩, fun h => by omega, fun a b hp => HD.out (a, b) hp, hJ'⟩, ?_⟩
          · by_cases hjk : j = k
            · subst hjk; exact hbr
            · exact HN.out j g1 (by omega)
          · simp [intOf]; omega
    · have hk' : k = L.length + 1 := by omega
      have hE := hend hk'
      have HE : Hid _ := hE
      have HD : Hid _ := hDb
      clear hend hgo hE hDb
      gi_wp2
      go_end0
      exact ⟨⟨_, rfl⟩, .inl ⟨D, ⟨HE.out, HD.out⟩, hJs⟩⟩
end Go.Proofs.Ytlmdheeammfihaa

namespace Go.Proofs.Ytlmdheeammfihaa
open Go Go.Proofs Ev
set_option maxRecDepth 100000
set_option linter.unusedSimpArgs false
set_option linter.unusedVariables false
set_option maxHeartbeats 4000000
def growE_ren : Go.Shelf.Ren := ⟨fun | 4 => 164 | n => n, fun | 22 => 23 | 25 => 32 | n => n, fun | n => n⟩
theorem growE_lays : Go.Proofs.Lays8.n4 Try.prog growE_ren := {
  mixed := by kernel_rfl
  f4 := ⟨Try.f164.name, by decide, Try.func164.trans (congrArg some (by kernel_rfl))⟩
  t0 := Try.underlying0
  a0 := Try.isAgg0
  z0 := Try.sizeOf0
  v0 := Try.zeroValue0
  t3 := Try.underlying3
  a3 := Try.isAgg3
  z3 := Try.sizeOf3
  v3 := Try.zeroValue3
  t4 := Try.underlying4
  a4 := Try.isAgg4
  z4 := Try.sizeOf4
  v4 := Try.zeroValue4
  t9 := Try.underlying9
  a9 := Try.isAgg9
  z9 := Try.sizeOf9
  v9 := Try.zeroValue9
  t20 := Try.underlying20
  a20 := Try.isAgg20
  z20 := Try.sizeOf20
  v20 := Try.zeroValue20
  t22 := Try.underlying23
  a22 := Try.isAgg23
  z22 := Try.sizeOf23
  v22 := Try.zeroValue23 }
theorem growE_info : (Try.prog.info? 32).map (fun i => (i.zero, i.size, i.bytes)) = some (some (.agg #[.string ⟨#[]⟩, .int .i64 0, .int .i64 0, .string ⟨#[]⟩, .int .i64 0]), 5, 56) := by kernel_rfl
theorem slices_GrowE (n : Nat) (hn : n ≤ 1099511627776) : AFn Try.prog 164 [.one (.c (.v nilV)), av (.int .i64 n)] [] (.one (.us 32 [])) [] := by
  cases hi : Try.prog.info? 32 with
  | none => have h := growE_info; rw [hi] at h; cases h
  | some i0 =>
    have h := growE_info
    rw [hi] at h
    simp only [Option.map_some, Option.some.injEq, Prod.mk.injEq] at h
    obtain ⟨h1, h2, h3⟩ := h
    exact grow_ok growE_lays rfl rfl hi h1 (by omega) (by kernel_rfl) (pos_of tab_ok (t := 32) rfl) n (by rw [h3]; omega) (by omega)
theorem slices_ConcatE (L : List (List Ent)) (hL : L.length ≤ 1000000) (hl : ∀ l ∈ L, l.length ≤ 1000000) (hf : L.flatten.length ≤ 1000000) : AFn Try.prog 134 [sl (L.map encX)] [] (.one (.us 32 (L.flatten.map Ent.enc))) [] := by
  have hn : (L.map encX).length = L.length := List.length_map ..
  have hsum : ∀ i, (L.take i).flatten.length ≤ 1000000 := fun i => Nat.le_trans (flat_take_le L i) hf
  refine AFn.introX (E := En 0 (fun f => if f = 164 then 3 else 0)) (en_ok 0 _) Try.func134 rfl rfl rfl fun _ _ => ?_
  let S : Nat → Nat → St := fun n i => ⟨some (sl (L.map encX)) :: none :: none :: some (av (.int .i64 n)) :: none :: none :: none :: none :: none :: some (sl (L.map encX)) :: some (av (.int .i64 (L.map encX).length)) :: some (av (.int .i64 i)) :: List.replicate 24 none, List.replicate 36 absent⟩
  refine ALoop.mk (fun m s => ∃ i : Nat, i ≤ L.length ∧ m = L.length - i ∧ s = S (L.take i).flatten.length i)
    ⟨_, _, Weak.nrm [true, false, false, true, false, false, false, false, false, true, true, true] [] rfl rfl rfl, 0, Nat.zero_le _, rfl, rfl⟩ ?_
  rintro m s ⟨i, hi, rfl, hs⟩
  by_cases hin : i = L.length
  · rw [hin, List.take_length] at hs
    have hG := slices_GrowE L.flatten.length (by omega)
    have hex : ∃ n, L.flatten.length = n := ⟨_, rfl⟩
    obtain ⟨n, hN⟩ := hex
    rw [hN] at hs hG
    subst hs
    refine Split.mk fun t h1 => ?_
    cases t
    case true => (exfalso; rw [decide_eq_true_iff] at h1; omega)
    rw [decide_eq_false_iff_not] at h1
    refine ACall.mk _ _ hG ?_
    let S2 : List (List C) → Nat → St := fun R i => ⟨none :: none :: none :: none :: none :: none :: some (.one (.ref 6 0 (.cell 0))) :: none :: none :: none :: none :: none :: none :: none :: none :: none :: none :: none :: none :: none :: none :: none :: none :: none :: none :: some (sl (L.map encX)) :: some (av (.int .i64 (L.map encX).length)) :: some (av (.int .i64 i)) :: List.replicate 8 none, absent :: absent :: absent :: absent :: absent :: absent :: ⟨0, 1, some [.us 32 R]⟩ :: List.replicate 29 absent⟩
    refine ALoop.mk (fun m s => ∃ i : Nat, i ≤ L.length ∧ m = L.length - i ∧ s = S2 ((L.take i).flatten.map Ent.enc) i)
      ⟨_, _, Weak.nrm [false, false, false, false, false, false, true, false, false, false, false, false, false, false, false, false, false, false, false, false, false, false, false, false, false, true, true, true] [(24, 6)] rfl rfl rfl, 0, Nat.zero_le _, rfl, rfl⟩ ?_
    rintro m s ⟨i, hi, hm2, hs⟩
    by_cases hin : i = L.length
    · rw [hin, List.take_length] at hs
      subst hs
      refine Split.mk fun t h1 => ?_
      cases t
      case true => (exfalso; rw [decide_eq_true_iff] at h1; omega)
      rw [decide_eq_false_iff_not] at h1
      exact Need.mk ⟨[], _, .same, rfl, rfl⟩ trivial
    · have hia : i < L.length := by omega
      have hft := flat_take L hia
      have hs1 := hsum i
      have hx := hl _ (List.getElem_mem hia)
      have hex : ∃ xs, L[i] = xs := ⟨_, rfl⟩
      obtain ⟨xs, hxs⟩ := hex
      have hrow : (L.map encX)[i]? = some (encX xs) := by rw [map_get _ L i hia, hxs]
      rw [hxs] at hft hx
      have hex : ∃ G, (L.take i).flatten = G := ⟨_, rfl⟩
      obtain ⟨G, hG2⟩ := hex
      rw [hG2] at hs hs1 hft
      subst hs
      refine Split.mk fun t h1 => ?_
      cases t
      case false => (exfalso; rw [decide_eq_false_iff_not] at h1; omega)
      rw [decide_eq_true_iff] at h1
      refine Need.mk (by omega) ?_
      refine Row.mk _ hrow ?_
      refine Need.mk (⟨(plainE _), (lenE _)⟩) ?_
      refine Need.mk (appEq (A' := _) (B' := _) rfl rfl (by simp only [List.length_append, List.length_map, List.length_take, List.length_drop, List.length_cons, List.length_nil, List.length_reverse, List.length_replicate, List.length_set]; omega) (by decide)) ?_
      refine Num.mk _ (wrapS (by omega)) ?_
      exact ⟨_, _, by omega, Weak.nrm [false, false, false, false, false, false, true, false, false, false, false, false, false, false, false, false, false, false, false, false, false, false, false, false, false, true, true, true] [(33, 6)] rfl rfl rfl, i + 1, by omega, rfl, Eq.trans (b := S2 (G.map Ent.enc ++ xs.map Ent.enc) (i + 1)) rfl (by rw [hft, List.map_append])⟩
  · have hia : i < L.length := by omega
    have hft := flat_take L hia
    have hs1 := hsum i
    have hx := hl _ (List.getElem_mem hia)
    have hex : ∃ xs, L[i] = xs := ⟨_, rfl⟩
    obtain ⟨xs, hxs⟩ := hex
    have hrow : (L.map encX)[i]? = some (encX xs) := by rw [map_get _ L i hia, hxs]
    rw [hxs] at hft hx
    have hfl : (L.take (i + 1)).flatten.length = (L.take i).flatten.length + xs.length := by rw [hft, List.length_append]
    have hxn : (xs.map Ent.enc).length = xs.length := List.length_map ..
    have hex : ∃ n, (L.take i).flatten.length = n := ⟨_, rfl⟩
    obtain ⟨n, hN⟩ := hex
    rw [hN] at hs hs1 hfl
    have hwr : IntKind.i64.wrap ((n : Int) + ((xs.map Ent.enc).length : Nat)) = ((n + xs.length : Nat) : Int) := wrapI' (by omega) (by omega)
    subst hs
    refine Split.mk fun t h1 => ?_
    cases t
    case false => (exfalso; rw [decide_eq_false_iff_not] at h1; omega)
    rw [decide_eq_true_iff] at h1
    refine Need.mk (by omega) ?_
    refine Row.mk _ hrow ?_
    refine Num.mk _ hwr ?_
    refine Split.mk fun t h2 => ?_
    cases t
    case true => cases h2
    refine Num.mk _ (wrapS (by omega)) ?_
    exact ⟨_, _, by omega, Weak.nrm [true, false, false, true, false, false, false, false, false, true, true, true] [] rfl rfl rfl, i + 1, by omega, rfl, Eq.trans (b := S (n + xs.length) (i + 1)) rfl (by rw [hfl])⟩
end Go.Proofs.Ytlmdheeammfihaa

namespace Go.Proofs.Ytlmdheeammfihaa
open Go Go.Proofs Ev
set_option maxRecDepth 100000
set_option linter.unusedSimpArgs false
set_option linter.unusedVariables false
theorem spec_l4Bit (n : Nat) (hn : n < 16) : AFn Try.prog 119 [av (.int .i64 n)] [] (.one (vi ((2 ^ n : Nat) : Int))) [] := by
  refine AFn.introX (E := En 0 md0) (en_ok 0 md0) Try.func119 rfl rfl rfl fun _ _ => ?_
  refine ALoop.mk (fun m s => ∃ i : Nat, i ≤ n ∧ m = n - i ∧ s = ⟨some (av (.int .i64 n)) :: none :: some (av (.int .i64 0)) :: some (av (.int .i64 ((2 ^ i : Nat) : Int))) :: some (av (.int .i64 i)) :: List.replicate 8 none, List.replicate 13 absent⟩)
    ⟨n, _, Weak.nrm [true, false, true, true, true] [] rfl rfl rfl, 0, Nat.zero_le _, rfl, rfl⟩ ?_
  rintro m s ⟨i, hi, rfl, rfl⟩
  refine Split.mk fun t ht => ?_
  cases t
  · have hin : i = n := by simp at ht; omega
    subst hin
    exact Need.mk ⟨[], _, .same, rfl, rfl⟩ trivial
  · have hia : i < n := by simpa using ht
    have hp : 2 ^ i < 65536 := Nat.pow_lt_pow_right (a := 2) (by decide) (show i < 16 by omega)
    refine Num.mk ((2 ^ (i + 1) : Nat) : Int) (wrapI' (by rw [Nat.pow_succ]; omega) (by rw [Nat.pow_succ]; omega)) ?_
    refine Num.mk _ (wrapS (by omega)) ?_
    exact ⟨n - (i + 1), _, by omega, Weak.nrm [true, false, true, true, true] [] rfl rfl rfl, i + 1, by omega, rfl, rfl⟩
theorem spec_l4Or (a b : Nat) (ha : a < 65536) (hb : b < 65536) : AFn Try.prog 60 [av (.int .i64 a), av (.int .i64 b)] [] (.one (vi ((a ||| b : Nat) : Int))) [] := by
  refine AFn.introX (E := En 0 md0) (en_ok 0 md0) Try.func60 rfl rfl rfl fun _ _ => ?_
  have hlt : a ||| b < 65536 := Nat.or_lt_two_pow (n := 16) ha hb
  let S : Int → Nat → St := fun i o => ⟨some (av (.int .i64 a)) :: some (av (.int .i64 b)) :: none :: none :: some (av (.int .i64 0)) :: some (av (.int .i64 o)) :: some (av (.int .i64 i)) :: List.replicate 23 none, List.replicate 30 absent⟩
  refine ALoop.mk (fun m s => ∃ k : Nat, k ≤ 16 ∧ m = k ∧ s = S ((k : Int) - 1) ((a ||| b) / 2 ^ k))
    ⟨16, _, Weak.nrm [true, true, false, false, true, true, true] [] rfl rfl rfl, 16, Nat.le_refl _, rfl, by rw [show (a ||| b) / 2 ^ 16 = 0 from Nat.div_eq_of_lt hlt]; rfl⟩ ?_
  rintro m s ⟨k, hk, rfl, hs⟩
  by_cases h0 : m = 0
  · subst h0
    rw [Nat.pow_zero, Nat.div_one] at hs
    subst hs
    refine Split.mk fun t ht => ?_
    cases t
    · exact Need.mk ⟨[], _, .same, rfl, rfl⟩ trivial
    · simp at ht
  · have hex : ∃ i, m = i + 1 := ⟨m - 1, by omega⟩
    obtain ⟨i, hmi⟩ := hex
    subst hmi
    have hpos : 0 < 2 ^ i := Nat.pow_pos (by decide)
    have hstep : (a ||| b) / 2 ^ i = 2 * ((a ||| b) / 2 ^ (i + 1)) + (a ||| b) / 2 ^ i % 2 := bit_step
    have hor := or_bit (a := a) (b := b) (i := i)
    have hle : (a ||| b) / 2 ^ i ≤ a ||| b := Nat.div_le_self _ _
    have hda : a / 2 ^ i ≤ a := Nat.div_le_self _ _
    have hdb : b / 2 ^ i ≤ b := Nat.div_le_self _ _
    have hii : (((i + 1 : Nat) : Int) - 1) = (i : Int) := by omega
    rw [hii] at hs
    subst hs
    refine Split.mk fun t ht => ?_
    cases t
    · simp at ht <;> omega
    refine Num.mk ((2 * ((a ||| b) / 2 ^ (i + 1)) : Nat) : Int) (wrapI' (by omega) (by omega)) ?_
    refine ACall.mk _ _ (spec_l4Bit i (by omega)) ?_
    refine Need.mk (by omega) ?_
    refine Num.mk ((a / 2 ^ i : Nat) : Int) (wrapI' (tdivN' _ _) (by omega)) ?_
    refine Need.mk (by decide) ?_
    refine Split.mk fun t h1 => ?_
    have h1 : ((((a / 2 ^ i % 2 : Nat) : Int) == 1)) = t := h1
    cases t
    · refine ACall.mk _ _ (spec_l4Bit i (by omega)) ?_
      refine Need.mk (by omega) ?_
      refine Num.mk ((b / 2 ^ i : Nat) : Int) (wrapI' (tdivN' _ _) (by omega)) ?_
      refine Need.mk (by decide) ?_
      refine Split.mk fun t h2 => ?_
      have h2 : ((((b / 2 ^ i % 2 : Nat) : Int) == 1)) = t := h2
      cases t
      · have e : (a ||| b) / 2 ^ i % 2 = 0 := by rw [hor, if_neg (fun h => h.elim (fun e => by rw [e] at h1; cases h1) (fun e => by rw [e] at h2; cases h2))]
        refine Num.mk ((i : Int) - 1) (wrapI (by omega) (by omega)) ?_
        exact ⟨i, _, by omega, Weak.nrm [true, true, false, false, true, true, true] [] rfl rfl rfl, i, by omega, rfl, by rw [hstep, e, Nat.add_zero]; rfl⟩
      · have e : (a ||| b) / 2 ^ i % 2 = 1 := by rw [hor, if_pos (.inr (Int.ofNat_inj.1 (beq_iff_eq.1 h2)))]
        refine Num.mk ((2 * ((a ||| b) / 2 ^ (i + 1)) + 1 : Nat) : Int) (wrapI' (by omega) (by omega)) ?_
        refine Num.mk ((i : Int) - 1) (wrapI (by omega) (by omega)) ?_
        exact ⟨i, _, by omega, Weak.nrm [true, true, false, false, true, true, true] [] rfl rfl rfl, i, by omega, rfl, by rw [hstep, e]; rfl⟩
    · have e : (a ||| b) / 2 ^ i % 2 = 1 := by rw [hor, if_pos (.inl (Int.ofNat_inj.1 (beq_iff_eq.1 h1)))]
      refine Num.mk ((2 * ((a ||| b) / 2 ^ (i + 1)) + 1 : Nat) : Int) (wrapI' (by omega) (by omega)) ?_
      refine Num.mk ((i : Int) - 1) (wrapI (by omega) (by omega)) ?_
      exact ⟨i, _, by omega, Weak.nrm [true, true, false, false, true, true, true] [] rfl rfl rfl, i, by omega, rfl, by rw [hstep, e]; rfl⟩
theorem spec_KeyMask (s : ByteArray) (hs : s.size ≤ maxLen) : AFn Try.prog 61 [av (.string s)] [] (.one (vi (kmask s : Nat))) [] := by
  refine AFn.introX (E := En 0 md0) (en_ok 0 md0) Try.func61 rfl rfl rfl fun _ _ => ?_
  unfold maxLen at hs
  refine ALoop.mk (fun m s' => ∃ i : Nat, i ≤ s.size ∧ m = s.size - i ∧ s' = ⟨some (av (.string s)) :: none :: some (av (.int .i64 0)) :: some (av (.int .i64 (hsh s i : Nat))) :: some (av (.int .i64 i)) :: List.replicate 22 none, List.replicate 27 absent⟩)
    ⟨s.size, _, Weak.nrm [true, false, true, true, true] [] rfl rfl rfl, 0, Nat.zero_le _, rfl, rfl⟩ ?_
  rintro m s' ⟨i, hi, rfl, hs'⟩
  by_cases hin : i = s.size
  · subst hin
    have h1 := hsh_lt s s.size
    subst hs'
    refine Split.mk fun t ht => ?_
    cases t
    · refine Need.mk (by decide) ?_
      refine ACall.mk _ _ (spec_l4Bit (hsh s s.size % 16) (Nat.mod_lt _ (by decide))) ?_
      refine Need.mk (by decide) ?_
      refine Num.mk ((hsh s s.size / 16 : Nat) : Int) (wrapI' (tdivN' _ _) (by omega)) ?_
      refine Need.mk (by decide) ?_
      refine ACall.mk _ _ (spec_l4Bit (hsh s s.size / 16 % 16) (Nat.mod_lt _ (by decide))) ?_
      refine ACall.mk _ _ (spec_l4Or (2 ^ (hsh s s.size % 16)) (2 ^ (hsh s s.size / 16 % 16)) (p16_lt _) (p16_lt _)) ?_
      exact Need.mk ⟨[], _, .same, rfl, rfl⟩ trivial
    · simp at ht
  · have hia : i < s.size := by omega
    have h1 := hsh_lt s i
    have h2 := byteAt_lt s i
    have h3 : byteAt s i = (((byteAt s i).toNat : Nat) : Int) := by omega
    have h4 : ((hsh s i : Int) * 31 + ((byteAt s i).toNat : Int)).tmod 65521 = ((hsh s (i + 1) : Nat) : Int) := by
      rw [show (hsh s i : Int) * 31 + ((byteAt s i).toNat : Int) = ((31 * hsh s i + (byteAt s i).toNat : Nat) : Int) by omega]
      exact tmodN' _ _
    subst hs'
    refine Split.mk fun t ht => ?_
    cases t
    · simp at ht; omega
    refine Num.mk ((hsh s i : Int) * 31) (wrapI (by omega) (by omega)) ?_
    refine Need.mk ⟨by omega, by omega⟩ ?_
    refine Num.mk (((byteAt s i).toNat : Nat) : Int) (by rw [IntKind.wrap_i64]; omega) ?_
    refine Num.mk ((hsh s i : Int) * 31 + ((byteAt s i).toNat : Int)) (wrapI (by omega) (by omega)) ?_
    refine Need.mk (by decide) ?_
    refine Num.mk _ (wrapS (by omega)) ?_
    exact ⟨s.size - (i + 1), _, by omega, Weak.nrm [true, false, true, true, true] [] rfl rfl rfl, i + 1, by omega, rfl, by rw [← h4]; rfl⟩
theorem impl_KeyMask (s : ByteArray) (hs : s.size ≤ maxLen) : AFn Try.prog 59 [av (.string s)] [] (.one (vi (kmask s : Nat))) [] := by
  refine AFn.introX (E := En 0 md0) (en_ok 0 md0) Try.func59 rfl rfl rfl fun _ _ => ?_
  unfold maxLen at hs
  refine ALoop.mk (fun m s' => ∃ i : Nat, i ≤ s.size ∧ m = s.size - i ∧ s' = ⟨some (av (.string s)) :: none :: some (av (.int .i64 0)) :: some (av (.int .i64 (hsh s i : Nat))) :: none :: none :: some (av (.int .i64 s.size)) :: some (av (.int .i64 i)) :: List.replicate 19 none, List.replicate 27 absent⟩)
    ⟨s.size, _, Weak.nrm [true, false, true, true, false, false, true, true] [] rfl rfl rfl, 0, Nat.zero_le _, rfl, rfl⟩ ?_
  rintro m s' ⟨i, hi, rfl, hs'⟩
  by_cases hin : i = s.size
  · subst hin
    have h1 := hsh_lt s s.size
    have p1 := p16_lt (hsh s s.size)
    have p2 := p16_lt (hsh s s.size / 16)
    have sh : ∀ k : Nat, k < 16 → IntKind.i64.wrap ((1 : Int) * 2 ^ (min (k : Int).toNat IntKind.i64.bits)) = ((2 ^ k : Nat) : Int) := fun k hk => by
      have hp : 2 ^ k < 65536 := Nat.pow_lt_pow_right (a := 2) (by decide) hk
      have hb : IntKind.i64.bits = 64 := rfl
      refine wrapI' ?_ (by omega)
      rw [Int.toNat_natCast, Nat.min_eq_left (by rw [hb]; omega), Int.one_mul]
      simp
    subst hs'
    refine Split.mk fun t ht => ?_
    cases t
    · refine Need.mk (by decide) ?_
      refine Need.mk (Int.natCast_nonneg (hsh s s.size % 16)) ?_
      refine Num.mk _ (sh (hsh s s.size % 16) (Nat.mod_lt _ (by decide))) ?_
      refine Need.mk (by decide) ?_
      refine Num.mk ((hsh s s.size / 16 : Nat) : Int) (wrapI' (tdivN' _ _) (by omega)) ?_
      refine Need.mk (by decide) ?_
      refine Need.mk (Int.natCast_nonneg (hsh s s.size / 16 % 16)) ?_
      refine Num.mk _ (sh (hsh s s.size / 16 % 16) (Nat.mod_lt _ (by decide))) ?_
      refine Need.mk rfl ?_
      refine Need.mk ⟨[], _, .same, ?_, rfl⟩ trivial
      exact congrArg (fun z => RV.one (vi z)) (orN p1 p2)
    · simp at ht
  · have hia : i < s.size := by omega
    have h1 := hsh_lt s i
    have h2 := byteAt_lt s i
    have h4 : ((31 : Int) * (hsh s i : Int) + ((byteAt s i).toNat : Int)).tmod 65521 = ((hsh s (i + 1) : Nat) : Int) := by
      rw [show (31 : Int) * (hsh s i : Int) + ((byteAt s i).toNat : Int) = ((31 * hsh s i + (byteAt s i).toNat : Nat) : Int) by omega]
      exact tmodN' _ _
    subst hs'
    refine Split.mk fun t ht => ?_
    cases t
    · simp at ht; omega
    refine Num.mk ((31 : Int) * (hsh s i : Int)) (wrapI (by omega) (by omega)) ?_
    refine Need.mk ⟨by omega, by omega⟩ ?_
    refine Num.mk (((byteAt s i).toNat : Nat) : Int) (by rw [IntKind.wrap_i64]; omega) ?_
    refine Num.mk ((31 : Int) * (hsh s i : Int) + ((byteAt s i).toNat : Int)) (wrapI (by omega) (by omega)) ?_
    refine Need.mk (by decide) ?_
    refine Num.mk _ (wrapS (by omega)) ?_
    exact ⟨s.size - (i + 1), _, by omega, Weak.nrm [true, false, true, true, false, false, true, true] [] rfl rfl rfl, i + 1, by omega, rfl, by rw [← h4]; rfl⟩
end Go.Proofs.Ytlmdheeammfihaa

namespace Go.Proofs.Ytlmdheeammfihaa
open Go Go.Proofs Ev
set_option maxRecDepth 100000
set_option linter.unusedSimpArgs false
set_option linter.unusedVariables false
theorem spec_l4Mask (xs : List Ent) (hx : OkE xs) (hxl : xs.length ≤ 1099511627776) : AFn Try.prog 70 [sl (xs.map Ent.enc)] [] (.one (vi (rmask xs : Nat))) [] := by
  refine AFn.introX (E := En 0 md0) (en_ok 0 md0) Try.func70 rfl rfl rfl fun _ _ => ?_
  have hn : (xs.map Ent.enc).length = xs.length := List.length_map ..
  refine ALoop.mk (fun m s => ∃ i : Nat, i ≤ xs.length ∧ m = xs.length - i ∧ s = ⟨some (sl (xs.map Ent.enc)) :: none :: some (av (.int .i64 0)) :: some (av (.int .i64 (rmask (xs.take i) : Nat))) :: some (av (.int .i64 i)) :: List.replicate 15 none, List.replicate 20 absent⟩)
    ⟨xs.length, _, Weak.nrm [true, false, true, true, true] [] rfl rfl rfl, 0, Nat.zero_le _, rfl, rfl⟩ ?_
  rintro m s ⟨i, hi, rfl, hs⟩
  by_cases hin : i = xs.length
  · subst hin
    rw [List.take_length] at hs
    subst hs
    refine Split.mk fun t ht => ?_
    rw [hn] at ht
    cases t
    · exact Need.mk ⟨[], _, .same, rfl, rfl⟩ trivial
    · simp at ht
  · have hia : i < xs.length := by omega
    have he := rmask_snoc (xs.take i) xs[i]
    rw [← List.take_succ_eq_append_getElem hia] at he
    subst hs
    refine Split.mk fun t ht => ?_
    rw [hn] at ht
    cases t
    · simp at ht; omega
    refine Need.mk (by omega) ?_
    refine Row.mk _ (map_get _ xs i hia) ?_
    refine ACall.mk _ _ (spec_KeyMask xs[i].key (hx _ (List.getElem_mem _)).1) ?_
    refine ACall.mk _ _ (spec_l4Or (rmask (xs.take i)) (kmask xs[i].key) (rmask_lt _) (kmask_lt _)) ?_
    refine Num.mk _ (wrapS (by omega)) ?_
    exact ⟨xs.length - (i + 1), _, by omega, Weak.nrm [true, false, true, true, true] [] rfl rfl rfl, i + 1, by omega, rfl, by rw [he]; rfl⟩
end Go.Proofs.Ytlmdheeammfihaa

namespace Go.Proofs.Ytlmdheeammfihaa
open Go Go.Proofs Ev
set_option maxRecDepth 100000
set_option linter.unusedSimpArgs false
set_option linter.unusedVariables false
def encO (r : Rn) : List C := [.us 32 (r.ents.map Ent.enc), vi r.mask]
def encLO (l : List Rn) : List C := [.us 25 (l.map encO)]
theorem clO (xs : List Rn) : ∀ r ∈ xs.map encO, ClL r := cl_map (f := encO) (fun l => .us (clE l.ents) (.v .nil)) xs
theorem clLO (xs : List (List Rn)) : ∀ r ∈ xs.map encLO, ClL r := cl_map (f := encLO) (fun l => .us (clO l) .nil) xs
end Go.Proofs.Ytlmdheeammfihaa

namespace Go.Proofs.Ytlmdheeammfihaa
open Go Go.Proofs Ev
set_option maxRecDepth 100000
set_option linter.unusedSimpArgs false
set_option linter.unusedVariables false
theorem frzR (xs : List Rn) : Frz (.us 25 (xs.map encO)) (.sl (xs.map Rn.enc)) := frz_map fun r _ => .cons (frzE r.ents) (.cons .v .nil)
theorem frzRR (xs : List (List Rn)) : Frz (.us 112 (xs.map encLO)) (.sl (xs.map encL)) := frz_map fun r _ => .cons (frzR r) .nil
end Go.Proofs.Ytlmdheeammfihaa

namespace Go.Proofs.Ytlmdheeammfihaa
open Go Go.Proofs Ev
set_option maxRecDepth 100000
set_option linter.unusedSimpArgs false
set_option linter.unusedVariables false
set_option maxHeartbeats 4000000
theorem closedE (e : TypeId) (xs : List Ent) : Closed (.us e (xs.map Ent.enc)) := by
  refine .us fun r hr c hc => ?_
  obtain ⟨x, _, rfl⟩ := List.mem_map.1 hr
  simp only [Ent.enc, List.mem_cons, List.not_mem_nil, or_false] at hc
  rcases hc with h | h | h | h | h <;> subst h <;> exact .v
theorem closed_rof (e : TypeId) (xs : List Ent) (v w : Value) : ∀ c ∈ ([C.us e (xs.map Ent.enc), .v v, .v w] : List C), Closed c := fun c hc => by
  simp only [List.mem_cons, List.not_mem_nil, or_false] at hc
  rcases hc with h | h | h <;> subst h
  · exact closedE e xs
  · exact .v
  · exact .v
theorem rowsOk (R : List (List C)) (ys : List Ent) (h : R = ys.map Ent.enc) : Plain R ∧ ∀ r ∈ R, r.length = 5 := by
  subst h; exact ⟨plainE ys, lenE ys⟩
theorem sizeOk (a b : List (List C)) (ys zs : List Ent) (ha : a = ys.map Ent.enc) (hb : b = zs.map Ent.enc) (h : ys.length + zs.length ≤ 2000000) : (a.length + b.length) * 56 ≤ 140737488355328 ∧ a.length + b.length ≤ maxLen := by
  subst ha; subst hb
  rw [List.length_map, List.length_map]
  exact ⟨by omega, Nat.le_trans h (by decide)⟩
theorem spec_l4Put (xs : List Ent) (e : Ent) (hx : xs.length ≤ 1048576) : AFn Try.prog 75 [sl (xs.map Ent.enc), .agg (e.enc.map .c)] [] (.one (.us 32 ((ins eLess xs e).map Ent.enc))) [] := by
  refine AFn.introX (E := En 0 md0) (en_ok 0 _) Try.func75 rfl rfl rfl fun _ _ => ?_
  have hn : (xs.map Ent.enc).length = xs.length := List.length_map ..
  let S : Int → St := fun k => ⟨some (sl (xs.map Ent.enc)) :: none :: none :: some (.bx 3 0) :: none :: some (av (.int .i64 k)) :: List.replicate 31 none, absent :: absent :: absent :: ⟨0, 0, some e.enc⟩ :: List.replicate 33 absent⟩
  refine ALoop.mk (fun m s => ∃ k : Nat, k ≤ xs.length ∧ m = k ∧ ins eLess xs e = ins eLess (xs.take k) e ++ xs.drop k ∧ s = S (k : Int))
    ⟨xs.length, _, Weak.nrm [true, false, false, true, false, true] [(3, 3)] rfl rfl rfl, xs.length, Nat.le_refl _, rfl, by simp, congrArg S (show (((xs.map Ent.enc).length : Nat) : Int) = ((xs.length : Nat) : Int) by rw [hn])⟩ ?_
  rintro m s ⟨k, hk, rfl, hins, hs⟩
  have plain : ∀ ys : List Ent, Plain (ys.map Ent.enc) := plainE
  by_cases hstop : m = 0 ∨ ∃ h : 0 < m, eLess e (xs[m - 1]'(by omega)) = false
  · have hfin : ins eLess xs e = xs.take m ++ [e] ++ xs.drop m := by
      rw [hins]
      congr 1
      rcases hstop with h | ⟨h, hl⟩
      · subst h; rfl
      · have e1 : xs.take m = xs.take (m - 1) ++ [xs[m - 1]'(by omega)] := by
          conv => lhs; rw [show m = m - 1 + 1 by omega]
          exact List.take_succ_eq_append_getElem (by omega)
        rw [e1]; exact ins_stop eLess e _ _ hl
    have d1 : ((xs.map Ent.enc).drop (m : Int).toNat).take (((xs.map Ent.enc).length : Int) - (m : Int)).toNat = (xs.drop m).map Ent.enc := by
      rw [Int.toNat_natCast, ← List.map_drop]
      exact List.take_of_length_le (by rw [List.length_map, List.length_drop, hn]; omega)
    have d2 : ((xs.map Ent.enc).drop (0 : Int).toNat).take ((m : Int) - 0).toNat = (xs.take m).map Ent.enc := by
      rw [show (0 : Int).toNat = 0 from rfl, List.drop_zero, Int.sub_zero, Int.toNat_natCast, ← List.map_take]
    have d3 : ((xs.map Ent.enc).drop (0 : Int).toNat).take ((m : Int) - 0).toNat ++ [e.enc] = (xs.take m ++ [e]).map Ent.enc := by
      rw [d2, List.map_append]; rfl
    have d4 : ((xs.map Ent.enc).drop (0 : Int).toNat).take ((m : Int) - 0).toNat ++ [e.enc] ++ ((xs.map Ent.enc).drop (m : Int).toNat).take (((xs.map Ent.enc).length : Int) - (m : Int)).toNat = (xs.take m ++ [e] ++ xs.drop m).map Ent.enc := by
      rw [d3, d1, ← List.map_append]
    have l1 : ((xs.drop m).map Ent.enc).length = xs.length - m := by rw [List.length_map, List.length_drop]
    have l2 : ((xs.take m).map Ent.enc).length = m := by rw [List.length_map, List.length_take]; omega
    have fin : ∀ rows : List (List C), rows = (xs.take m ++ [e] ++ xs.drop m).map Ent.enc → RV.one (.us 32 rows) = .one (.us 32 ((ins eLess xs e).map Ent.enc)) := fun rows h => by rw [h, hfin]
    rcases Nat.eq_zero_or_pos m with h0 | h0
    · subst hs
      refine Split.mk fun t ht => ?_
      cases t
      case true => simp at ht; omega
      refine Need.mk rfl ?_
      refine Need.mk ⟨by omega, by omega, by omega, lenE xs⟩ ?_
      refine Need.mk (rowsOk _ _ d1) ?_
      refine Need.mk (sizeOk _ _ [] (xs.drop m) rfl d1 (by rw [List.length_drop]; simp; omega)) ?_
      refine Need.mk ⟨by omega, by omega, by omega, lenE xs⟩ ?_
      refine Need.mk (rowsOk _ _ d2) ?_
      refine Need.mk (sizeOk _ _ [] (xs.take m) rfl d2 (by rw [List.length_take]; simp; omega)) ?_
      refine Need.mk (sizeOk _ _ (xs.take m) [e] d2 rfl (by rw [List.length_take]; simp; omega)) ?_
      refine Need.mk (rowsOk _ _ d1).1 ?_
      refine Need.mk (sizeOk _ _ (xs.take m ++ [e]) (xs.drop m) d3 d1 (by rw [List.length_append, List.length_take, List.length_drop]; simp; omega)) ?_
      refine Need.mk rfl ?_
      exact Need.mk ⟨[], _, .same, fin _ d4, rfl⟩ trivial
    · have hl : eLess e (xs[m - 1]'(by omega)) = false := by
        refine hstop.elim (fun h => absurd h (by omega)) fun h => ?_
        exact h.2
      subst hs
      refine Split.mk fun t ht => ?_
      cases t
      · simp at ht; omega
      refine Num.mk ((m - 1 : Nat) : Int) (wrapI' (by omega) (by omega)) ?_
      refine Need.mk (by omega) ?_
      refine Row.mk _ (map_get _ xs (m - 1) (by omega)) ?_
      refine ACall.mk _ _ (spec_EntryLess e (xs[m - 1]'(by omega))) ?_
      refine Split.mk fun t ht2 => ?_
      cases t
      case true => rw [hl] at ht2; cases ht2
      refine Need.mk rfl ?_
      refine Need.mk ⟨by omega, by omega, by omega, lenE xs⟩ ?_
      refine Need.mk (rowsOk _ _ d1) ?_
      refine Need.mk (sizeOk _ _ [] (xs.drop m) rfl d1 (by rw [List.length_drop]; simp; omega)) ?_
      refine Need.mk ⟨by omega, by omega, by omega, lenE xs⟩ ?_
      refine Need.mk (rowsOk _ _ d2) ?_
      refine Need.mk (sizeOk _ _ [] (xs.take m) rfl d2 (by rw [List.length_take]; simp; omega)) ?_
      refine Need.mk (sizeOk _ _ (xs.take m) [e] d2 rfl (by rw [List.length_take]; simp; omega)) ?_
      refine Need.mk (rowsOk _ _ d1).1 ?_
      refine Need.mk (sizeOk _ _ (xs.take m ++ [e]) (xs.drop m) d3 d1 (by rw [List.length_append, List.length_take, List.length_drop]; simp; omega)) ?_
      refine Need.mk rfl ?_
      exact Need.mk ⟨[], _, .same, fin _ d4, rfl⟩ trivial
  · have h0 : 0 < m := Nat.pos_of_ne_zero fun h => hstop (.inl h)
    have hl : eLess e (xs[m - 1]'(by omega)) = true := by
      cases hx : eLess e (xs[m - 1]'(by omega)) with
      | true => rfl
      | false => exact absurd (.inr ⟨h0, hx⟩) hstop
    have e1 : xs.take m = xs.take (m - 1) ++ [xs[m - 1]'(by omega)] := by
      conv => lhs; rw [show m = m - 1 + 1 by omega]
      exact List.take_succ_eq_append_getElem (by omega)
    have hins' : ins eLess xs e = ins eLess (xs.take (m - 1)) e ++ xs.drop (m - 1) := by
      rw [hins, e1, ins_step eLess e _ _ hl, List.append_assoc]
      congr 1
      conv => rhs; rw [List.drop_eq_getElem_cons (show m - 1 < xs.length by omega)]
      rw [show m - 1 + 1 = m by omega]; rfl
    subst hs
    refine Split.mk fun t ht => ?_
    cases t
    · simp at ht; omega
    refine Num.mk ((m - 1 : Nat) : Int) (wrapI' (by omega) (by omega)) ?_
    refine Need.mk (by omega) ?_
    refine Row.mk _ (map_get _ xs (m - 1) (by omega)) ?_
    refine ACall.mk _ _ (spec_EntryLess e (xs[m - 1]'(by omega))) ?_
    refine Split.mk fun t ht2 => ?_
    cases t
    · rw [hl] at ht2; cases ht2
    refine Need.mk rfl ?_
    refine Num.mk ((m - 1 : Nat) : Int) (wrapI' (by omega) (by omega)) ?_
    exact ⟨m - 1, _, by omega, Weak.nrm [true, false, false, true, false, true] [(3, 3)] rfl rfl rfl, m - 1, by omega, rfl, hins', rfl⟩
end Go.Proofs.Ytlmdheeammfihaa

namespace Go.Proofs.Ytlmdheeammfihaa
open Go Go.Proofs Ev
set_option maxRecDepth 100000
set_option linter.unusedSimpArgs false
set_option linter.unusedVariables false
set_option maxHeartbeats 1000000
theorem closed_us (e : TypeId) (xs : List Ent) : ∀ c : C, c ∈ [C.us e (xs.map Ent.enc)] → Closed c := fun c hc => by
  rw [List.mem_singleton] at hc; subst hc; exact closedE e xs
theorem spec_l4Sort (xs : List Ent) (hx : xs.length ≤ 1048576) : AFn Try.prog 131 [sl (xs.map Ent.enc)] [] (.one (.us 32 ((isort eLess xs).map Ent.enc))) [] := by
  refine AFn.introX (E := En 0 md0) (en_ok 0 _) Try.func131 rfl rfl rfl fun _ _ => ?_
  have hn : (xs.map Ent.enc).length = xs.length := List.length_map ..
  let S : Nat → List Ent → Nat → St := fun kd ys i => ⟨some (sl (xs.map Ent.enc)) :: none :: none :: some (.one (.ref 3 0 (.cell 0))) :: some (av (.int .i64 i)) :: List.replicate 14 none, absent :: absent :: absent :: ⟨0, kd, some [.us 32 (ys.map Ent.enc)]⟩ :: List.replicate 15 absent⟩
  refine ALoop.mk (fun m s => ∃ i kd : Nat, i ≤ xs.length ∧ m = xs.length - i ∧ (kd = 1 ∨ kd = 2) ∧ s = S kd (isort eLess (xs.take i)) i)
    ⟨xs.length, _, Weak.nrm [true, false, false, true, true] [(5, 3)] rfl rfl rfl, 0, 2, Nat.zero_le _, rfl, .inr rfl, rfl⟩ ?_
  rintro m s ⟨i, kd, hi, rfl, hkd, hs⟩
  by_cases hin : i = xs.length
  · subst hin
    rw [List.take_length] at hs
    subst hs
    refine Split.mk fun t ht => ?_
    rw [hn] at ht
    cases t
    · exact Need.mk ⟨[], _, .same, rfl, rfl⟩ trivial
    · simp at ht
  · have hia : i < xs.length := by omega
    have he : isort eLess (xs.take (i + 1)) = ins eLess (isort eLess (xs.take i)) xs[i] := by
      rw [List.take_succ_eq_append_getElem hia, isort_snoc]
    have hlen : (isort eLess (xs.take i)).length ≤ 1048576 := by rw [isort_len, List.length_take]; omega
    have hex : ∃ ys, isort eLess (xs.take i) = ys := ⟨_, rfl⟩
    obtain ⟨ys, hy⟩ := hex
    rw [hy] at he hlen hs
    rcases hkd with rfl | rfl
    all_goals
      subst hs
      refine Split.mk fun t ht => ?_
      rw [hn] at ht
      cases t
      · simp at ht; omega
      refine Need.mk (by omega) ?_
      refine Row.mk _ (map_get _ xs i hia) ?_
      refine Fz.mk _ (frzE ys) ?_
      refine ACall.mk _ _ (spec_l4Put ys xs[i] hlen) ?_
      refine Need.mk ⟨closed_us _ _, no_objs⟩ ?_
      refine Num.mk _ (wrapS (by omega)) ?_
      refine ⟨xs.length - (i + 1), _, by omega, Weak.nrm [true, false, false, true, true] [(17, 3)] rfl rfl rfl, i + 1, 1, by omega, rfl, .inl rfl, ?_⟩
      exact congrArg (fun l => S 1 l (i + 1)) he.symm
end Go.Proofs.Ytlmdheeammfihaa

namespace Go.Proofs.Ytlmdheeammfihaa
open Go Go.Proofs Ev
set_option maxRecDepth 100000
set_option linter.unusedSimpArgs false
set_option linter.unusedVariables false
def CmpOk (f : FuncId) (lt : Ent → Ent → Bool) : Prop := ∃ ord : Ent → Ent → Int, (∀ x y, decide (ord x y < 0) = lt x y) ∧ ∀ x y, AFn Try.prog f [.agg (x.enc.map .c), .agg (y.enc.map .c)] [] (.one (vi (ord x y))) []
theorem slices_insertionSort (f : FuncId) (lt : Ent → Ent → Bool) (hf : CmpOk f lt) (xs : List Ent) (a b : Nat) (hab : a ≤ b) (hb : b ≤ xs.length) (hx : xs.length ≤ 1099511627776) :
    AFn Try.prog 155 [.one (.ref 0 0 (.cell 0)), av (.int .i64 a), av (.int .i64 b), av (.func (.func f) #[] #[])] [[.us 32 (xs.map Ent.enc)]] (.tup []) [[.us 32 ((sortRange lt xs a b).map Ent.enc)]] := by
  obtain ⟨ord, hord, hfn⟩ := hf
  refine AFn.introX (E := En 1 md0) (en_ok 1 _) Try.func155 rfl rfl rfl fun _ hs => ?_
  let S : List Ent → Nat → Option AV → St := fun ys i j => ⟨some (.one (.ref 0 0 (.cell 0))) :: some (av (.int .i64 a)) :: some (av (.int .i64 b)) :: some (av (.func (.func f) #[] #[])) :: none :: none :: none :: none :: some (av (.int .i64 i)) :: j :: List.replicate 43 none, ⟨0, 1, some [.us 32 (ys.map Ent.enc)]⟩ :: List.replicate 53 absent⟩
  refine Num.mk _ (wrapS (by omega)) ?_
  refine ALoop.mk (fun n s => ∃ i : Nat, n = b - i ∧ a < i ∧ (i ≤ b ∨ i = a + 1) ∧ s = S (sortRange lt xs a (min i b)) i none)
    ⟨b - (a + 1), _, Weak.nrm [true, true, true, true, false, false, false, false, true] [(0, 0)] rfl rfl rfl, a + 1, rfl, by omega, .inr rfl, ?_⟩ ?_
  · have : sortRange lt xs a (min (a + 1) b) = xs := by
      by_cases h : a < b
      · rw [Nat.min_eq_left (by omega), sortRange_one lt (by omega)]
      · rw [Nat.min_eq_right (by omega), show b = a by omega, sortRange_self]
    rw [this]; rfl
  rintro n s ⟨i, rfl, hai, hib, hs⟩
  by_cases hi : b ≤ i
  · rw [Nat.min_eq_right hi] at hs
    subst hs
    refine Split.mk fun t ht => ?_
    cases t
    · exact Need.mk ⟨[], _, .same, rfl, rfl⟩ trivial
    · simp at ht; omega
  · have hix : i < xs.length := by omega
    rw [Nat.min_eq_left (by omega), sortRange_split lt hix] at hs
    have hex : ∃ acc, isort lt ((xs.drop a).take (i - a)) = acc := ⟨_, rfl⟩
    obtain ⟨acc, hacc⟩ := hex
    rw [hacc] at hs
    subst hs
    have hal : acc.length = i - a := by rw [← hacc, isort_len, List.length_take, List.length_drop]; omega
    have hpl : (xs.take a).length = a := by rw [List.length_take]; omega
    refine Split.mk fun t ht => ?_
    cases t
    · simp at ht; omega
    refine ALoop.mk (fun n s => ∃ (u v : List Ent), n = u.length ∧ u.length + v.length = i - a ∧ ins lt u xs[i] ++ v = ins lt acc xs[i] ∧ s = S (xs.take a ++ u ++ xs[i] :: (v ++ xs.drop (i + 1))) i (some (av (.int .i64 ((a + u.length : Nat) : Int)))))
      ⟨acc.length, _, Weak.nrm [true, true, true, true, false, false, false, false, true, true] [(0, 0)] rfl rfl rfl, acc, [], rfl, by simp [hal], by simp, ?_⟩ ?_
    · rw [show a + acc.length = i by omega]; rfl
    rintro n s ⟨u, v, rfl, hl, hins, hs⟩
    have stop : ins lt u xs[i] = u ++ [xs[i]] → xs.take a ++ u ++ xs[i] :: (v ++ xs.drop (i + 1)) = sortRange lt xs a (min (i + 1) b) := fun h => by
      rw [Nat.min_eq_left (by omega), sortRange_succ lt (by omega) hix, hacc, ← hins, h]; simp
    by_cases hu : u = []
    · rw [stop (by rw [hu]; rfl), hu] at hs
      clear stop hins hl hacc hal hpl
      subst hs
      refine Split.mk fun t ht2 => ?_
      cases t
      · refine Need.mk rfl ?_
        refine Num.mk _ (wrapS (by omega)) ?_
        exact ⟨b - (i + 1), _, by omega, Weak.nrm [true, true, true, true, false, false, false, false, true] [(0, 0)] rfl rfl rfl, i + 1, rfl, by omega, .inl (by omega), rfl⟩
      · simp at ht2
    · have hsn := snoc_of (List.length_pos_iff.2 hu)
      obtain ⟨u', x, hu⟩ := hsn
      subst hu
      have hul : (u' ++ [x]).length = u'.length + 1 := by simp
      by_cases hlt : lt xs[i] x = false
      · skip
        have g1 : ((sortRange lt xs a (min (i + 1) b)).map Ent.enc)[a + (u' ++ [x]).length]? = some xs[i].enc := by
          rw [← stop (ins_stop lt _ _ _ hlt), List.getElem?_map, get_mid (by rw [hpl])]; rfl
        have g2 : ((sortRange lt xs a (min (i + 1) b)).map Ent.enc)[a + u'.length]? = some x.enc := by
          rw [← stop (ins_stop lt _ _ _ hlt), show xs.take a ++ (u' ++ [x]) ++ xs[i] :: (v ++ xs.drop (i + 1)) = xs.take a ++ u' ++ x :: (xs[i] :: (v ++ xs.drop (i + 1))) by simp, List.getElem?_map, get_mid (by rw [hpl])]; rfl
        rw [stop (ins_stop lt _ _ _ hlt)] at hs
        have hlen : ((sortRange lt xs a (min (i + 1) b)).map Ent.enc).length = xs.length := by rw [List.length_map, sortRange_len lt (by omega) (by omega)]
        clear stop hins hacc
        subst hs
        refine Split.mk fun t ht2 => ?_
        cases t
        · simp at ht2; omega
        refine Need.mk ⟨by omega, by rw [hlen]; omega⟩ ?_
        refine Row.mk _ g1 ?_
        refine Num.mk ((a + u'.length : Nat) : Int) (by rw [IntKind.wrap_i64]; omega) ?_
        refine Need.mk ⟨by omega, by rw [hlen]; omega⟩ ?_
        refine Row.mk _ g2 ?_
        refine ACall.mk _ _ (hfn xs[i] x) ?_
        refine Split.mk fun t ht3 => ?_
        rw [hord, hlt] at ht3
        subst ht3
        refine Need.mk rfl ?_
        refine Num.mk _ (wrapS (by omega)) ?_
        exact ⟨b - (i + 1), _, by omega, Weak.nrm [true, true, true, true, false, false, false, false, true] [(0, 0)] rfl rfl rfl, i + 1, rfl, by omega, .inl (by omega), rfl⟩
      · have hlt : lt xs[i] x = true := by simpa using hlt
        clear stop
        have hins' : ins lt u' xs[i] ++ (x :: v) = ins lt acc xs[i] := by rw [← hins, ins_step lt _ _ _ hlt]; simp
        clear hins hacc
        have hex : ∃ ys, xs.take a ++ (u' ++ [x]) ++ xs[i] :: (v ++ xs.drop (i + 1)) = ys := ⟨_, rfl⟩
        obtain ⟨ys, hys⟩ := hex
        rw [hys] at hs
        have e1 : xs.take a ++ u' ++ x :: (xs[i] :: (v ++ xs.drop (i + 1))) = ys := by rw [← hys]; simp
        have g1 : (ys.map Ent.enc)[a + (u' ++ [x]).length]? = some xs[i].enc := by
          rw [← hys, List.getElem?_map, get_mid (by rw [hpl])]; rfl
        have g2 : (ys.map Ent.enc)[a + u'.length]? = some x.enc := by
          rw [← e1, List.getElem?_map, get_mid (by rw [hpl])]; rfl
        have hlen : (ys.map Ent.enc).length = xs.length := by rw [← hys]; simp at hl ⊢; omega
        have e2 : ((ys.map Ent.enc).set (a + (u' ++ [x]).length) x.enc).set (a + u'.length) xs[i].enc = (xs.take a ++ u' ++ xs[i] :: (x :: v ++ xs.drop (i + 1))).map Ent.enc := by
          rw [← List.map_set, ← List.map_set, ← hys, set_mid (by rw [hpl]), show xs.take a ++ (u' ++ [x]) ++ x :: (v ++ xs.drop (i + 1)) = xs.take a ++ u' ++ x :: (x :: (v ++ xs.drop (i + 1))) by simp, set_mid (by rw [hpl])]; rfl
        have g3 : ((ys.map Ent.enc).set (a + (u' ++ [x]).length) x.enc)[a + u'.length]? = some x.enc := by
          rw [List.getElem?_set_ne (by omega)]; exact g2
        have hlen2 : ((ys.map Ent.enc).set (a + (u' ++ [x]).length) x.enc).length = xs.length := by rw [List.length_set, hlen]
        clear hys e1
        subst hs
        refine Split.mk fun t ht2 => ?_
        cases t
        · simp at ht2; omega
        refine Need.mk ⟨by omega, by rw [hlen]; omega⟩ ?_
        refine Row.mk _ g1 ?_
        refine Num.mk ((a + u'.length : Nat) : Int) (by rw [IntKind.wrap_i64]; omega) ?_
        refine Need.mk ⟨by omega, by rw [hlen]; omega⟩ ?_
        refine Row.mk _ g2 ?_
        refine ACall.mk _ _ (hfn xs[i] x) ?_
        refine Split.mk fun t ht3 => ?_
        rw [hord, hlt] at ht3
        subst ht3
        refine Need.mk rfl ?_
        have hnum : IntKind.i64.wrap (((a + (u' ++ [x]).length : Nat) : Int) - 1) = ((a + u'.length : Nat) : Int) := by rw [IntKind.wrap_i64]; omega
        refine Num.mk _ hnum ?_
        refine Num.mk _ hnum ?_
        refine Need.mk ⟨by omega, by rw [hlen]; omega⟩ ?_
        refine Row.mk _ g2 ?_
        refine Need.mk ⟨by omega, by rw [hlen]; omega⟩ ?_
        refine Row.mk _ g1 ?_
        refine Need.mk ⟨by omega, by rw [hlen]; omega⟩ ?_
        refine Row.mk _ g1 ?_
        refine Need.mk ⟨by omega, show ((a + u'.length : Nat) : Int) < ((((ys.map Ent.enc).set (a + (u' ++ [x]).length) x.enc).length : Nat) : Int) from by rw [hlen2]; omega⟩ ?_
        refine Row.mk _ g3 ?_
        refine Need.mk rfl ?_
        refine Num.mk _ hnum ?_
        refine ⟨u'.length, _, by omega, Weak.nrm [true, true, true, true, false, false, false, false, true, true] [(0, 0)] rfl rfl rfl, u', x :: v, rfl, by simp at hl ⊢; omega, hins', ?_⟩
        refine Eq.trans (b := ⟨some (.one (.ref 0 0 (.cell 0))) :: some (av (.int .i64 a)) :: some (av (.int .i64 b)) :: some (av (.func (.func f) #[] #[])) :: none :: none :: none :: none :: some (av (.int .i64 i)) :: some (av (.int .i64 ((a + u'.length : Nat) : Int))) :: List.replicate 43 none, ⟨0, 1, some [.us 32 (((ys.map Ent.enc).set (a + (u' ++ [x]).length) x.enc).set (a + u'.length) xs[i].enc)]⟩ :: List.replicate 53 absent⟩) rfl ?_
        rw [e2]
end Go.Proofs.Ytlmdheeammfihaa

namespace Go.Proofs.Ytlmdheeammfihaa
open Go Go.Proofs Ev
set_option maxRecDepth 100000
set_option linter.unusedSimpArgs false
set_option linter.unusedVariables false
theorem slices_swapRange (f : FuncId) (x p m q y : List Ent) (h : p.length = q.length) (hx : x.length + p.length + m.length + q.length + y.length ≤ 1099511627776) :
    AFn Try.prog 174 [.one (.ref 0 0 (.cell 0)), av (.int .i64 x.length), av (.int .i64 ((x.length + p.length + m.length : Nat) : Int)), av (.int .i64 p.length), av (.func (.func f) #[] #[])] [[.us 32 ((x ++ p ++ m ++ q ++ y).map Ent.enc)]] (.tup []) [[.us 32 ((x ++ q ++ m ++ p ++ y).map Ent.enc)]] := by
  refine AFn.introX (E := En 1 md0) (en_ok 1 _) Try.func174 rfl rfl rfl fun _ hs => ?_
  let S : List (List C) → Nat → St := fun rows i => ⟨some (.one (.ref 0 0 (.cell 0))) :: some (av (.int .i64 x.length)) :: some (av (.int .i64 ((x.length + p.length + m.length : Nat) : Int))) :: some (av (.int .i64 p.length)) :: none :: none :: none :: none :: none :: none :: some (av (.int .i64 i)) :: List.replicate 27 none, ⟨0, 1, some [.us 32 rows]⟩ :: List.replicate 38 absent⟩
  refine ALoop.mk (fun n s => ∃ i : Nat, i ≤ p.length ∧ n = p.length - i ∧ s = S ((swZ x p m q y i).map Ent.enc) i)
    ⟨p.length, _, Weak.nrm [true, true, true, true, false, false, false, false, false, false, true] [(0, 0)] rfl rfl rfl, 0, Nat.zero_le _, rfl, ?_⟩ ?_
  · rw [swZ_zero]; rfl
  rintro n s ⟨i, hi, rfl, hs⟩
  by_cases hia : i = p.length
  · subst hia
    rw [swZ_end x p m q y h] at hs
    subst hs
    refine Split.mk fun t ht => ?_
    cases t
    · exact Need.mk ⟨[], _, .same, rfl, rfl⟩ trivial
    · simp at ht
  · have hil : i < p.length := by omega
    have g1 : ((swZ x p m q y i).map Ent.enc)[x.length + i]? = some p[i].enc := by rw [List.getElem?_map, swZ_get1 h hil]; rfl
    have g2 : ((swZ x p m q y i).map Ent.enc)[x.length + p.length + m.length + i]? = some (q[i]'(by omega)).enc := by rw [List.getElem?_map, swZ_get2 h hil]; rfl
    have g3 : (((swZ x p m q y i).map Ent.enc).set (x.length + i) (q[i]'(by omega)).enc)[x.length + p.length + m.length + i]? = some (q[i]'(by omega)).enc := by rw [← List.map_set, List.getElem?_map, swZ_get3 h hil]; rfl
    have e2 : (((swZ x p m q y i).map Ent.enc).set (x.length + i) (q[i]'(by omega)).enc).set (x.length + p.length + m.length + i) p[i].enc = (swZ x p m q y (i + 1)).map Ent.enc := by rw [← List.map_set, ← List.map_set, swZ_set2 h hil]
    have hlen : ((swZ x p m q y i).map Ent.enc).length = x.length + p.length + m.length + q.length + y.length := by rw [List.length_map, swZ_len _ _ _ _ _ _ h]
    have hlen2 : (((swZ x p m q y i).map Ent.enc).set (x.length + i) (q[i]'(by omega)).enc).length = x.length + p.length + m.length + q.length + y.length := by rw [List.length_set, hlen]
    have n1 : IntKind.i64.wrap ((x.length : Int) + (i : Int)) = ((x.length + i : Nat) : Int) := by rw [IntKind.wrap_i64]; omega
    have n2 : IntKind.i64.wrap (((x.length + p.length + m.length : Nat) : Int) + (i : Int)) = ((x.length + p.length + m.length + i : Nat) : Int) := by rw [IntKind.wrap_i64]; omega
    subst hs
    refine Split.mk fun t ht => ?_
    cases t
    · simp at ht; omega
    refine Num.mk _ n1 ?_
    refine Num.mk _ n2 ?_
    refine Num.mk _ n2 ?_
    refine Need.mk ⟨by omega, by rw [hlen]; omega⟩ ?_
    refine Row.mk _ g2 ?_
    refine Num.mk _ n1 ?_
    refine Need.mk ⟨by omega, by rw [hlen]; omega⟩ ?_
    refine Row.mk _ g1 ?_
    refine Need.mk ⟨by omega, by rw [hlen]; omega⟩ ?_
    refine Row.mk _ g1 ?_
    refine Need.mk ⟨by omega, show ((x.length + p.length + m.length + i : Nat) : Int) < (((((swZ x p m q y i).map Ent.enc).set (x.length + i) (q[i]'(by omega)).enc).length : Nat) : Int) from by rw [hlen2]; omega⟩ ?_
    refine Row.mk _ g3 ?_
    refine Need.mk rfl ?_
    refine Num.mk _ (wrapS (by omega)) ?_
    refine ⟨p.length - (i + 1), _, by omega, Weak.nrm [true, true, true, true, false, false, false, false, false, false, true] [(0, 0)] rfl rfl rfl, i + 1, by omega, rfl, ?_⟩
    refine Eq.trans (b := S ((((swZ x p m q y i).map Ent.enc).set (x.length + i) (q[i]'(by omega)).enc).set (x.length + p.length + m.length + i) p[i].enc) (i + 1)) rfl ?_
    rw [e2]
theorem slices_swapRange' (f : FuncId) (x p m q y : List Ent) (l r : List Ent) (a b n : Nat) (hl : l = x ++ p ++ m ++ q ++ y) (hr : r = x ++ q ++ m ++ p ++ y) (ha : a = x.length) (hb : b = x.length + p.length + m.length) (hn : n = p.length) (h : p.length = q.length) (hx : l.length ≤ 1099511627776) :
    AFn Try.prog 174 [.one (.ref 0 0 (.cell 0)), av (.int .i64 a), av (.int .i64 b), av (.int .i64 n), av (.func (.func f) #[] #[])] [[.us 32 (l.map Ent.enc)]] (.tup []) [[.us 32 (r.map Ent.enc)]] := by
  subst hl hr ha hb hn
  exact slices_swapRange f x p m q y h (by simpa [Nat.add_assoc] using hx)
end Go.Proofs.Ytlmdheeammfihaa

namespace Go.Proofs.Ytlmdheeammfihaa
open Go Go.Proofs Ev
set_option maxRecDepth 100000
set_option linter.unusedSimpArgs false
set_option linter.unusedVariables false
theorem slices_rotate (f : FuncId) (x u v y l r : List Ent) (a m b : Nat) (hl : l = x ++ u ++ v ++ y) (hr : r = x ++ v ++ u ++ y) (ha : a = x.length) (hm : m = x.length + u.length) (hb : b = x.length + u.length + v.length) (hu : 0 < u.length) (hv : 0 < v.length) (hx : l.length ≤ 1099511627776) :
    AFn Try.prog 172 [.one (.ref 0 0 (.cell 0)), av (.int .i64 a), av (.int .i64 m), av (.int .i64 b), av (.func (.func f) #[] #[])] [[.us 32 (l.map Ent.enc)]] (.tup []) [[.us 32 (r.map Ent.enc)]] := by
  have hll : l.length = x.length + u.length + v.length + y.length := by rw [hl]; simp; omega
  refine AFn.introX (E := En 1 (md1 [174])) (en_ok 1 _) Try.func172 rfl rfl rfl fun _ hs => ?_
  let S : List Ent → Nat → Nat → St := fun ys i j => ⟨some (.one (.ref 0 0 (.cell 0))) :: some (av (.int .i64 a)) :: some (av (.int .i64 m)) :: some (av (.int .i64 b)) :: some (av (.func (.func f) #[] #[])) :: none :: none :: none :: none :: none :: some (av (.int .i64 i)) :: some (av (.int .i64 j)) :: List.replicate 46 none, ⟨0, 1, some [.us 32 (ys.map Ent.enc)]⟩ :: List.replicate 58 absent⟩
  refine Num.mk (u.length : Int) (by rw [IntKind.wrap_i64]; omega) ?_
  refine Num.mk (v.length : Int) (by rw [IntKind.wrap_i64]; omega) ?_
  refine ALoop.mk (fun n s => ∃ (x' u' v' y' : List Ent) (i j : Nat), n = i + j ∧ i = u'.length ∧ j = v'.length ∧ 0 < i ∧ 0 < j ∧ x'.length + i = m ∧ x'.length + i + j + y'.length = l.length ∧ x' ++ v' ++ u' ++ y' = r ∧ s = S (x' ++ u' ++ v' ++ y') i j)
    ⟨u.length + v.length, _, Weak.nrm [true, true, true, true, true, false, false, false, false, false, true, true] [(0, 0)] rfl rfl rfl, x, u, v, y, u.length, v.length, rfl, rfl, rfl, hu, hv, by omega, by omega, hr.symm, by rw [← hl]; rfl⟩ ?_
  rintro n s ⟨x', u', v', y', i, j, rfl, hi, hj, hi0, hj0, hmm, htot, htar, hs⟩
  have hlen' : (x' ++ u' ++ v' ++ y').length ≤ 1099511627776 := by simp; omega
  by_cases hij : i = j
  · have hcall := slices_swapRange' f x' u' [] v' y' (x' ++ u' ++ v' ++ y') r (m - i) m i (by simp) (by rw [← htar]; simp) (by omega) (by simp; omega) hi (by omega) hlen'
    subst hs
    refine Split.mk fun t ht => ?_
    cases t
    · refine Num.mk ((m - i : Nat) : Int) (by rw [IntKind.wrap_i64]; omega) ?_
      refine ACall.mk _ _ hcall ?_
      exact Need.mk ⟨[], _, .same, rfl, rfl⟩ trivial
    · simp at ht; omega
  · by_cases hgt : j < i
    · have e1 : u' = u'.take j ++ u'.drop j := (List.take_append_drop j u').symm
      have l1 : (u'.take j).length = j := by rw [List.length_take]; omega
      have l2 : (u'.drop j).length = i - j := by rw [List.length_drop]; omega
      have hcall := slices_swapRange' f x' (u'.take j) (u'.drop j) v' y' (x' ++ u' ++ v' ++ y') (x' ++ v' ++ u'.drop j ++ u'.take j ++ y') (m - i) m j (by rw [List.append_assoc x' (u'.take j), List.take_append_drop]) rfl (by omega) (by omega) l1.symm (by omega) hlen'
      have htar2 : x' ++ v' ++ u'.take j ++ u'.drop j ++ y' = r := by rw [List.append_assoc (x' ++ v') (u'.take j), List.take_append_drop, htar]
      subst hs
      refine Split.mk fun t ht => ?_
      cases t
      · simp at ht; omega
      refine Split.mk fun t ht2 => ?_
      cases t
      · simp at ht2; omega
      refine Num.mk ((m - i : Nat) : Int) (by rw [IntKind.wrap_i64]; omega) ?_
      refine ACall.mk _ _ hcall ?_
      refine Num.mk ((i - j : Nat) : Int) (by rw [IntKind.wrap_i64]; omega) ?_
      exact ⟨i - j + j, _, by omega, Weak.nrm [true, true, true, true, true, false, false, false, false, false, true, true] [(0, 0)] rfl rfl rfl, x' ++ v', u'.drop j, u'.take j, y', i - j, j, rfl, l2.symm, l1.symm, by omega, by omega, by simp; omega, by simp; omega, htar2, rfl⟩
    · have l1 : (v'.take (j - i)).length = j - i := by rw [List.length_take]; omega
      have l2 : (v'.drop (j - i)).length = i := by rw [List.length_drop]; omega
      have hcall := slices_swapRange' f x' u' (v'.take (j - i)) (v'.drop (j - i)) y' (x' ++ u' ++ v' ++ y') (x' ++ v'.drop (j - i) ++ v'.take (j - i) ++ (u' ++ y')) (m - i) (m + j - i) i (by rw [List.append_assoc (x' ++ u') (v'.take (j - i)), List.take_append_drop]) (by simp) (by omega) (by omega) hi (by omega) hlen'
      have htar2 : x' ++ v'.take (j - i) ++ v'.drop (j - i) ++ (u' ++ y') = r := by rw [List.append_assoc x' (v'.take (j - i)), List.take_append_drop, ← List.append_assoc, htar]
      subst hs
      refine Split.mk fun t ht => ?_
      cases t
      · simp at ht; omega
      refine Split.mk fun t ht2 => ?_
      cases t
      · refine Num.mk ((m - i : Nat) : Int) (by rw [IntKind.wrap_i64]; omega) ?_
        refine Num.mk ((m + j : Nat) : Int) (by rw [IntKind.wrap_i64]; omega) ?_
        refine Num.mk ((m + j - i : Nat) : Int) (by rw [IntKind.wrap_i64]; omega) ?_
        refine ACall.mk _ _ hcall ?_
        refine Num.mk ((j - i : Nat) : Int) (by rw [IntKind.wrap_i64]; omega) ?_
        exact ⟨i + (j - i), _, by omega, Weak.nrm [true, true, true, true, true, false, false, false, false, false, true, true] [(0, 0)] rfl rfl rfl, x', v'.drop (j - i), v'.take (j - i), u' ++ y', i, j - i, rfl, l2.symm, l1.symm, by omega, by omega, by omega, by simp; omega, htar2, rfl⟩
      · simp at ht2; omega
end Go.Proofs.Ytlmdheeammfihaa

namespace Go.Proofs.Ytlmdheeammfihaa
open Go Go.Proofs Ev
set_option maxRecDepth 100000
set_option linter.unusedSimpArgs false
set_option linter.unusedVariables false
def SymM (f : FuncId) (lt : Ent → Ent → Bool) (n : Nat) : Prop := ∀ (x c d y l r : List Ent) (a m b : Nat), l = x ++ c ++ d ++ y → r = x ++ mrg lt c d ++ y → a = x.length → m = x.length + c.length → b = x.length + c.length + d.length → 0 < c.length → 0 < d.length → Srt lt c → Srt lt d → c.length + d.length ≤ n → l.length ≤ 1099511627776 →
    AFn Try.prog 156 [.one (.ref 0 0 (.cell 0)), av (.int .i64 a), av (.int .i64 m), av (.int .i64 b), av (.func (.func f) #[] #[])] [[.us 32 (l.map Ent.enc)]] (.tup []) [[.us 32 (r.map Ent.enc)]]
set_option maxHeartbeats 4000000
theorem symMerge_left (f : FuncId) (lt : Ent → Ent → Bool) (hw : Wk lt) (hf : CmpOk f lt) (x c d y l r : List Ent) (a m b : Nat) (hl : l = x ++ c ++ d ++ y) (hr : r = x ++ mrg lt c d ++ y) (ha : a = x.length) (hm : m = x.length + c.length) (hb : b = x.length + c.length + d.length) (hc : c.length = 1) (hd : 0 < d.length) (sd : Srt lt d) (hx : l.length ≤ 1099511627776) :
    AFn Try.prog 156 [.one (.ref 0 0 (.cell 0)), av (.int .i64 a), av (.int .i64 m), av (.int .i64 b), av (.func (.func f) #[] #[])] [[.us 32 (l.map Ent.enc)]] (.tup []) [[.us 32 (r.map Ent.enc)]] := by
  obtain ⟨ord, hord, hfn⟩ := hf
  have hll : l.length = x.length + c.length + d.length + y.length := by rw [hl]; simp; omega
  refine AFn.introX (E := En 1 (md1 [156, 172])) (en_ok 1 _) Try.func156 rfl rfl rfl fun _ hs => ?_
  have hlm : (l.map Ent.enc).length = l.length := List.length_map ..
  have gd : ∀ k (hk : k < d.length), (l.map Ent.enc)[m + k]? = some d[k].enc := fun k hk => by rw [List.getElem?_map, hl, get_r (i := k) (by omega) hk]; rfl
  have gc : ∀ k (hk : k < c.length), (l.map Ent.enc)[a + k]? = some c[k].enc := fun k hk => by rw [List.getElem?_map, hl, get_l (i := k) (by omega) hk]; rfl
  refine Num.mk ((c.length : Nat) : Int) (wrapI' (by omega) (by omega)) ?_
  refine Split.mk fun t ht => ?_
  cases t
  · simp at ht; omega
  have he : ∃ e, c = [e] := by
    match c, hc with
    | [e], _ => exact ⟨e, rfl⟩
  obtain ⟨e, he⟩ := he
  subst he
  have ge : (l.map Ent.enc)[a]? = some e.enc := gc 0 (by simp)
  let S : Nat → Nat → St := fun i j => ⟨some (.one (.ref 0 0 (.cell 0))) :: some (av (.int .i64 a)) :: some (av (.int .i64 m)) :: some (av (.int .i64 b)) :: some (av (.func (.func f) #[] #[])) :: none :: none :: none :: none :: none :: some (av (.int .i64 i)) :: some (av (.int .i64 j)) :: List.replicate 208 none, ⟨0, 1, some [.us 32 (l.map Ent.enc)]⟩ :: List.replicate 220 absent⟩
  refine ALoop.mk (fun n s => ∃ p q : Nat, p ≤ q ∧ q ≤ d.length ∧ n = q - p ∧ (∀ k (hk : k < d.length), k < p → lt d[k] e = true) ∧ (∀ k (hk : k < d.length), q ≤ k → lt d[k] e = false) ∧ s = S (m + p) (m + q))
    ⟨d.length, _, Weak.nrm [true, true, true, true, true, false, false, false, false, false, true, true] [(0, 0)] rfl rfl rfl, 0, d.length, Nat.zero_le _, Nat.le_refl _, rfl, by intro k hk h; omega, by intro k hk h; omega, by rw [show m + d.length = b by omega]; rfl⟩ ?_
  rintro n s ⟨p, q, hpq, hq, rfl, h1, h2, hs⟩
  by_cases hlt : p < q
  · have hk : (p + q) / 2 < d.length := by omega
    by_cases hcmp : lt (d[(p + q) / 2]) e = true
    · have h1' : ∀ k (hk : k < d.length), k < (p + q) / 2 + 1 → lt d[k] e = true := fun k hk' hle => by
        cases hx' : lt d[k] e with
        | true => rfl
        | false => have := hw.nt _ _ _ (srt_get hw sd (i := k) (j := (p + q) / 2) (by omega) hk) hx'; rw [hcmp] at this; cases this
      subst hs
      refine Split.mk fun t ht => ?_
      cases t
      · simp at ht; omega
      refine Num.mk ((m + p + (m + q) : Nat) : Int) (wrapI' (by omega) (by omega)) ?_
      refine Num.mk _ (wrapU (by omega)) ?_
      refine Need.mk (by decide) ?_
      refine Num.mk _ (half (by omega)) ?_
      have hh : (m + p + (m + q)) / 2 = m + (p + q) / 2 := by omega
      refine Need.mk ⟨by omega, by rw [hlm]; omega⟩ ?_
      refine Row.mk _ (by show (l.map Ent.enc)[(m + p + (m + q)) / 2]? = _; rw [hh]; exact gd _ hk) ?_
      refine Need.mk ⟨by omega, by rw [hlm]; omega⟩ ?_
      refine Row.mk _ ge ?_
      refine ACall.mk _ _ (hfn _ e) ?_
      refine Split.mk fun t ht3 => ?_
      rw [hord, hcmp] at ht3
      subst ht3
      refine Need.mk rfl ?_
      refine Num.mk _ (wrapS (by omega)) ?_
      refine ⟨q - ((p + q) / 2 + 1), _, by omega, Weak.nrm [true, true, true, true, true, false, false, false, false, false, true, true] [(0, 0)] rfl rfl rfl, (p + q) / 2 + 1, q, by omega, hq, rfl, h1', h2, ?_⟩
      rw [show m + ((p + q) / 2 + 1) = (m + p + (m + q)) / 2 + 1 by omega]; rfl
    · have hcmp : lt (d[(p + q) / 2]) e = false := by simpa using hcmp
      have h2' : ∀ k (hk : k < d.length), (p + q) / 2 ≤ k → lt d[k] e = false := fun k hk' hle => hw.nt _ _ _ (srt_get hw sd (i := (p + q) / 2) (j := k) hle hk') hcmp
      subst hs
      refine Split.mk fun t ht => ?_
      cases t
      · simp at ht; omega
      refine Num.mk ((m + p + (m + q) : Nat) : Int) (wrapI' (by omega) (by omega)) ?_
      refine Num.mk _ (wrapU (by omega)) ?_
      refine Need.mk (by decide) ?_
      refine Num.mk _ (half (by omega)) ?_
      have hh : (m + p + (m + q)) / 2 = m + (p + q) / 2 := by omega
      refine Need.mk ⟨by omega, by rw [hlm]; omega⟩ ?_
      refine Row.mk _ (by show (l.map Ent.enc)[(m + p + (m + q)) / 2]? = _; rw [hh]; exact gd _ hk) ?_
      refine Need.mk ⟨by omega, by rw [hlm]; omega⟩ ?_
      refine Row.mk _ ge ?_
      refine ACall.mk _ _ (hfn _ e) ?_
      refine Split.mk fun t ht3 => ?_
      rw [hord, hcmp] at ht3
      subst ht3
      refine Need.mk rfl ?_
      refine ⟨(p + q) / 2 - p, _, by omega, Weak.nrm [true, true, true, true, true, false, false, false, false, false, true, true] [(0, 0)] rfl rfl rfl, p, (p + q) / 2, by omega, by omega, rfl, h1, h2', ?_⟩
      rw [← hh]; rfl
  · have hpq : q = p := by omega
    subst hpq
    have hfin : r = x ++ d.take q ++ e :: (d.drop q ++ y) := by rw [hr, mrg_one_l h1 h2]; simp
    have h0 : l = x ++ d.take 0 ++ e :: (d.drop 0 ++ y) := by rw [hl]; simp
    subst hs
    refine Split.mk fun t ht => ?_
    cases t
    · let S2 : List Ent → Nat → Nat → St := fun ys p k => ⟨some (.one (.ref 0 0 (.cell 0))) :: some (av (.int .i64 a)) :: some (av (.int .i64 m)) :: some (av (.int .i64 b)) :: some (av (.func (.func f) #[] #[])) :: none :: none :: none :: none :: none :: some (av (.int .i64 ((m + p : Nat) : Int))) :: none :: none :: some (av (.int .i64 k)) :: List.replicate 206 none, ⟨0, 1, some [.us 32 (ys.map Ent.enc)]⟩ :: List.replicate 220 absent⟩
      refine ALoop.mk (fun n s => ∃ t : Nat, t ≤ q ∧ n = q - t ∧ s = S2 (x ++ d.take t ++ e :: (d.drop t ++ y)) q (a + t))
        ⟨q, _, Weak.nrm [true, true, true, true, true, false, false, false, false, false, true, false, false, true] [(0, 0)] rfl rfl rfl, 0, Nat.zero_le _, rfl, by rw [← h0]; rfl⟩ ?_
      rintro n s ⟨t, ht, rfl, hs⟩
      by_cases htq : t = q
      · subst htq
        rw [← hfin] at hs
        subst hs
        refine Num.mk ((a + t : Nat) : Int) (wrapI' (by simp at hm; omega) (by omega)) ?_
        refine Split.mk fun t ht => ?_
        cases t
        · exact Need.mk ⟨[], _, .same, rfl, rfl⟩ trivial
        · simp at ht
      · have htd : t < d.length := by omega
        have hys : x ++ d.take t ++ e :: (d.drop t ++ y) = x ++ d.take t ++ e :: d[t] :: (d.drop (t + 1) ++ y) := by rw [List.drop_eq_getElem_cons htd]; rfl
        have hys2 : x ++ d.take t ++ d[t] :: e :: (d.drop (t + 1) ++ y) = x ++ d.take (t + 1) ++ e :: (d.drop (t + 1) ++ y) := by rw [List.take_succ_eq_append_getElem htd]; simp only [List.append_assoc, List.cons_append, List.nil_append]
        have hadj := adj Ent.enc (x ++ d.take t) (d.drop (t + 1) ++ y) e d[t] (k := a + t) (by simp; omega)
        obtain ⟨g0, g1, g2, g3, _, _⟩ := hadj
        have hln : ((x ++ d.take t ++ e :: d[t] :: (d.drop (t + 1) ++ y)).map Ent.enc).length = l.length := by rw [List.length_map, ← hys]; simp at hll ⊢; omega
        have hln2 : (((x ++ d.take t ++ e :: d[t] :: (d.drop (t + 1) ++ y)).map Ent.enc).set (a + t) d[t].enc).length = l.length := by rw [List.length_set, hln]
        have hm1 : m = a + 1 := by simp at hm; omega
        rw [hys] at hs
        have hex : ∃ ys, x ++ d.take t ++ e :: d[t] :: (d.drop (t + 1) ++ y) = ys := ⟨_, rfl⟩
        obtain ⟨ys, hyy⟩ := hex
        rw [hyy] at hs g0 g1 g2 g3 hln hln2
        rw [hys2] at g3
        subst hs
        refine Num.mk ((a + q : Nat) : Int) (wrapI' (by omega) (by omega)) ?_
        refine Split.mk fun t' ht' => ?_
        cases t'
        · simp at ht'; omega
        refine Num.mk ((a + t + 1 : Nat) : Int) (wrapI' (by omega) (by omega)) ?_
        refine Num.mk ((a + t + 1 : Nat) : Int) (wrapI' (by omega) (by omega)) ?_
        refine Need.mk ⟨by omega, by rw [hln]; omega⟩ ?_
        refine Row.mk _ g1 ?_
        refine Need.mk ⟨by omega, by rw [hln]; omega⟩ ?_
        refine Row.mk _ g0 ?_
        refine Need.mk ⟨by omega, by rw [hln]; omega⟩ ?_
        refine Row.mk _ g0 ?_
        refine Need.mk ⟨by omega, show ((a + t + 1 : Nat) : Int) < ((((ys.map Ent.enc).set (a + t) d[t].enc).length : Nat) : Int) from by rw [hln2]; omega⟩ ?_
        refine Row.mk _ g2 ?_
        refine Need.mk rfl ?_
        refine Num.mk ((a + t + 1 : Nat) : Int) (wrapI' (by omega) (by omega)) ?_
        refine ⟨q - (t + 1), _, by omega, Weak.nrm [true, true, true, true, true, false, false, false, false, false, true, false, false, true] [(0, 0)] rfl rfl rfl, t + 1, by omega, rfl, ?_⟩
        refine Eq.trans (b := ⟨some (.one (.ref 0 0 (.cell 0))) :: some (av (.int .i64 a)) :: some (av (.int .i64 m)) :: some (av (.int .i64 b)) :: some (av (.func (.func f) #[] #[])) :: none :: none :: none :: none :: none :: some (av (.int .i64 ((m + q : Nat) : Int))) :: none :: none :: some (av (.int .i64 ((a + t + 1 : Nat) : Int))) :: List.replicate 206 none, ⟨0, 1, some [.us 32 (((ys.map Ent.enc).set (a + t) d[t].enc).set (a + t + 1) e.enc)]⟩ :: List.replicate 220 absent⟩) rfl ?_
        rw [g3]; rfl
    · simp at ht
end Go.Proofs.Ytlmdheeammfihaa

namespace Go.Proofs.Ytlmdheeammfihaa
open Go Go.Proofs Ev
set_option maxRecDepth 100000
set_option linter.unusedSimpArgs false
set_option linter.unusedVariables false
set_option maxHeartbeats 4000000
theorem symMerge_right (f : FuncId) (lt : Ent → Ent → Bool) (hw : Wk lt) (hf : CmpOk f lt) (x c d y l r : List Ent) (a m b : Nat) (hl : l = x ++ c ++ d ++ y) (hr : r = x ++ mrg lt c d ++ y) (ha : a = x.length) (hm : m = x.length + c.length) (hb : b = x.length + c.length + d.length) (hc : 1 < c.length) (hd : d.length = 1) (sc : Srt lt c) (hx : l.length ≤ 1099511627776) :
    AFn Try.prog 156 [.one (.ref 0 0 (.cell 0)), av (.int .i64 a), av (.int .i64 m), av (.int .i64 b), av (.func (.func f) #[] #[])] [[.us 32 (l.map Ent.enc)]] (.tup []) [[.us 32 (r.map Ent.enc)]] := by
  obtain ⟨ord, hord, hfn⟩ := hf
  have hll : l.length = x.length + c.length + d.length + y.length := by rw [hl]; simp; omega
  refine AFn.introX (E := En 1 (md1 [156, 172])) (en_ok 1 _) Try.func156 rfl rfl rfl fun _ hs => ?_
  have hlm : (l.map Ent.enc).length = l.length := List.length_map ..
  have gd : ∀ k (hk : k < d.length), (l.map Ent.enc)[m + k]? = some d[k].enc := fun k hk => by rw [List.getElem?_map, hl, get_r (i := k) (by omega) hk]; rfl
  have gc : ∀ k (hk : k < c.length), (l.map Ent.enc)[a + k]? = some c[k].enc := fun k hk => by rw [List.getElem?_map, hl, get_l (i := k) (by omega) hk]; rfl
  refine Num.mk ((c.length : Nat) : Int) (wrapI' (by omega) (by omega)) ?_
  refine Split.mk fun t ht => ?_
  cases t
  case true => simp at ht; omega
  refine Num.mk ((d.length : Nat) : Int) (wrapI' (by omega) (by omega)) ?_
  refine Split.mk fun t ht => ?_
  cases t
  · simp at ht; omega
  have he : ∃ e, d = [e] := by
    match d, hd with
    | [e], _ => exact ⟨e, rfl⟩
  obtain ⟨e, he⟩ := he
  subst he
  have ge : (l.map Ent.enc)[m]? = some e.enc := gd 0 (by simp)
  let S : Nat → Nat → St := fun i j => ⟨some (.one (.ref 0 0 (.cell 0))) :: some (av (.int .i64 a)) :: some (av (.int .i64 m)) :: some (av (.int .i64 b)) :: some (av (.func (.func f) #[] #[])) :: none :: none :: none :: none :: none :: none :: none :: none :: none :: some (av (.int .i64 i)) :: some (av (.int .i64 j)) :: List.replicate 204 none, ⟨0, 1, some [.us 32 (l.map Ent.enc)]⟩ :: List.replicate 220 absent⟩
  refine ALoop.mk (fun n s => ∃ p q : Nat, p ≤ q ∧ q ≤ c.length ∧ n = q - p ∧ (∀ k (hk : k < c.length), k < p → lt e c[k] = false) ∧ (∀ k (hk : k < c.length), q ≤ k → lt e c[k] = true) ∧ s = S (a + p) (a + q))
    ⟨c.length, _, Weak.nrm [true, true, true, true, true, false, false, false, false, false, false, false, false, false, true, true] [(0, 0)] rfl rfl rfl, 0, c.length, Nat.zero_le _, Nat.le_refl _, rfl, by intro k hk h; omega, by intro k hk h; omega, by rw [show a + c.length = m by omega]; rfl⟩ ?_
  rintro n s ⟨p, q, hpq, hq, rfl, h1, h2, hs⟩
  by_cases hlt : p < q
  · have hk : (p + q) / 2 < c.length := by omega
    by_cases hcmp : lt e (c[(p + q) / 2]) = false
    · have h1' : ∀ k (hk : k < c.length), k < (p + q) / 2 + 1 → lt e c[k] = false := fun k hk' hle => hw.nt _ _ _ hcmp (srt_get hw sc (i := k) (j := (p + q) / 2) (by omega) hk)
      subst hs
      refine Split.mk fun t ht => ?_
      cases t
      · simp at ht; omega
      refine Num.mk ((a + p + (a + q) : Nat) : Int) (wrapI' (by omega) (by omega)) ?_
      refine Num.mk _ (wrapU (by omega)) ?_
      refine Need.mk (by decide) ?_
      refine Num.mk _ (half (by omega)) ?_
      have hh : (a + p + (a + q)) / 2 = a + (p + q) / 2 := by omega
      refine Need.mk ⟨by omega, by rw [hlm]; omega⟩ ?_
      refine Row.mk _ ge ?_
      refine Need.mk ⟨by omega, by rw [hlm]; omega⟩ ?_
      refine Row.mk _ (by show (l.map Ent.enc)[(a + p + (a + q)) / 2]? = _; rw [hh]; exact gc _ hk) ?_
      refine ACall.mk _ _ (hfn e _) ?_
      refine Split.mk fun t ht3 => ?_
      rw [hord, hcmp] at ht3
      subst ht3
      refine Need.mk rfl ?_
      refine Num.mk _ (wrapS (by omega)) ?_
      refine ⟨q - ((p + q) / 2 + 1), _, by omega, Weak.nrm [true, true, true, true, true, false, false, false, false, false, false, false, false, false, true, true] [(0, 0)] rfl rfl rfl, (p + q) / 2 + 1, q, by omega, hq, rfl, h1', h2, ?_⟩
      rw [show a + ((p + q) / 2 + 1) = (a + p + (a + q)) / 2 + 1 by omega]; rfl
    · have hcmp : lt e (c[(p + q) / 2]) = true := by simpa using hcmp
      have h2' : ∀ k (hk : k < c.length), (p + q) / 2 ≤ k → lt e c[k] = true := fun k hk' hle => by
        cases hx' : lt e c[k] with
        | true => rfl
        | false => have := hw.nt _ _ _ hx' (srt_get hw sc (i := (p + q) / 2) (j := k) hle hk'); rw [hcmp] at this; cases this
      subst hs
      refine Split.mk fun t ht => ?_
      cases t
      · simp at ht; omega
      refine Num.mk ((a + p + (a + q) : Nat) : Int) (wrapI' (by omega) (by omega)) ?_
      refine Num.mk _ (wrapU (by omega)) ?_
      refine Need.mk (by decide) ?_
      refine Num.mk _ (half (by omega)) ?_
      have hh : (a + p + (a + q)) / 2 = a + (p + q) / 2 := by omega
      refine Need.mk ⟨by omega, by rw [hlm]; omega⟩ ?_
      refine Row.mk _ ge ?_
      refine Need.mk ⟨by omega, by rw [hlm]; omega⟩ ?_
      refine Row.mk _ (by show (l.map Ent.enc)[(a + p + (a + q)) / 2]? = _; rw [hh]; exact gc _ hk) ?_
      refine ACall.mk _ _ (hfn e _) ?_
      refine Split.mk fun t ht3 => ?_
      rw [hord, hcmp] at ht3
      subst ht3
      refine Need.mk rfl ?_
      refine ⟨(p + q) / 2 - p, _, by omega, Weak.nrm [true, true, true, true, true, false, false, false, false, false, false, false, false, false, true, true] [(0, 0)] rfl rfl rfl, p, (p + q) / 2, by omega, by omega, rfl, h1, h2', ?_⟩
      rw [← hh]; rfl
  · have hpq : q = p := by omega
    subst hpq
    have hfin : r = x ++ c.take q ++ e :: (c.drop q ++ y) := by rw [hr, mrg_one_r h1 h2]; simp
    have h0 : l = x ++ c.take c.length ++ e :: (c.drop c.length ++ y) := by rw [hl]; simp
    subst hs
    refine Split.mk fun t ht => ?_
    cases t
    · let S2 : List Ent → Nat → Nat → St := fun ys p k => ⟨some (.one (.ref 0 0 (.cell 0))) :: some (av (.int .i64 a)) :: some (av (.int .i64 m)) :: some (av (.int .i64 b)) :: some (av (.func (.func f) #[] #[])) :: none :: none :: none :: none :: none :: none :: none :: none :: none :: some (av (.int .i64 ((a + p : Nat) : Int))) :: none :: none :: some (av (.int .i64 k)) :: List.replicate 202 none, ⟨0, 1, some [.us 32 (ys.map Ent.enc)]⟩ :: List.replicate 220 absent⟩
      refine ALoop.mk (fun n s => ∃ t : Nat, q ≤ t ∧ t ≤ c.length ∧ n = t - q ∧ s = S2 (x ++ c.take t ++ e :: (c.drop t ++ y)) q (a + t))
        ⟨c.length - q, _, Weak.nrm [true, true, true, true, true, false, false, false, false, false, false, false, false, false, true, false, false, true] [(0, 0)] rfl rfl rfl, c.length, hq, Nat.le_refl _, rfl, by rw [← h0, show a + c.length = m by omega]; rfl⟩ ?_
      rintro n s ⟨t, htq0, ht, rfl, hs⟩
      by_cases htq : t = q
      · subst htq
        rw [← hfin] at hs
        subst hs
        refine Split.mk fun t ht => ?_
        cases t
        · exact Need.mk ⟨[], _, .same, rfl, rfl⟩ trivial
        · simp at ht
      · have hexu : ∃ u, t = u + 1 := ⟨t - 1, by omega⟩
        obtain ⟨u, hu⟩ := hexu
        subst hu
        have htd : u < c.length := by omega
        have hys : x ++ c.take (u + 1) ++ e :: (c.drop (u + 1) ++ y) = x ++ c.take u ++ c[u] :: e :: (c.drop (u + 1) ++ y) := by rw [List.take_succ_eq_append_getElem htd]; simp only [List.append_assoc, List.cons_append, List.nil_append]
        have hys2 : x ++ c.take u ++ e :: c[u] :: (c.drop (u + 1) ++ y) = x ++ c.take u ++ e :: (c.drop u ++ y) := by rw [List.drop_eq_getElem_cons htd]; rfl
        have hadj := adj Ent.enc (x ++ c.take u) (c.drop (u + 1) ++ y) c[u] e (k := a + u) (by simp; omega)
        obtain ⟨g0, g1, _, _, g2, g3⟩ := hadj
        have hln : ((x ++ c.take u ++ c[u] :: e :: (c.drop (u + 1) ++ y)).map Ent.enc).length = l.length := by rw [List.length_map, ← hys]; simp at hll ⊢; omega
        have hln2 : (((x ++ c.take u ++ c[u] :: e :: (c.drop (u + 1) ++ y)).map Ent.enc).set (a + u + 1) c[u].enc).length = l.length := by rw [List.length_set, hln]
        rw [hys] at hs
        have hex : ∃ ys, x ++ c.take u ++ c[u] :: e :: (c.drop (u + 1) ++ y) = ys := ⟨_, rfl⟩
        obtain ⟨ys, hyy⟩ := hex
        rw [hyy] at hs g0 g1 g2 g3 hln hln2
        rw [hys2] at g3
        subst hs
        refine Split.mk fun t' ht' => ?_
        cases t'
        · simp at ht'; omega
        have hnum : IntKind.i64.wrap (((a + (u + 1) : Nat) : Int) - 1) = ((a + u : Nat) : Int) := wrapI' (by omega) (by omega)
        refine Num.mk _ hnum ?_
        refine Num.mk _ hnum ?_
        refine Need.mk ⟨by omega, by rw [hln]; omega⟩ ?_
        refine Row.mk _ g0 ?_
        refine Need.mk ⟨by omega, by rw [hln]; omega⟩ ?_
        refine Row.mk _ g1 ?_
        refine Need.mk ⟨by omega, by rw [hln]; omega⟩ ?_
        refine Row.mk _ g1 ?_
        refine Need.mk ⟨by omega, show ((a + u : Nat) : Int) < ((((ys.map Ent.enc).set (a + u + 1) c[u].enc).length : Nat) : Int) from by rw [hln2]; omega⟩ ?_
        refine Row.mk _ g2 ?_
        refine Need.mk rfl ?_
        refine Num.mk _ hnum ?_
        refine ⟨u - q, _, by omega, Weak.nrm [true, true, true, true, true, false, false, false, false, false, false, false, false, false, true, false, false, true] [(0, 0)] rfl rfl rfl, u, by omega, by omega, rfl, ?_⟩
        refine Eq.trans (b := ⟨some (.one (.ref 0 0 (.cell 0))) :: some (av (.int .i64 a)) :: some (av (.int .i64 m)) :: some (av (.int .i64 b)) :: some (av (.func (.func f) #[] #[])) :: none :: none :: none :: none :: none :: none :: none :: none :: none :: some (av (.int .i64 ((a + q : Nat) : Int))) :: none :: none :: some (av (.int .i64 ((a + u : Nat) : Int))) :: List.replicate 202 none, ⟨0, 1, some [.us 32 (((ys.map Ent.enc).set (a + u + 1) c[u].enc).set (a + u) e.enc)]⟩ :: List.replicate 220 absent⟩) rfl ?_
        rw [g3]
    · simp at ht
end Go.Proofs.Ytlmdheeammfihaa
