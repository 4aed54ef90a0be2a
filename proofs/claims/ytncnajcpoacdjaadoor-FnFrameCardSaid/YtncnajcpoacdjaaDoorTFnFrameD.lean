/-
  Contracts of functions, part 4.
-/
import Derived.Test.YtncnajcpoacdjaaDoorTFnFrameC
set_option linter.unusedVariables false
set_option linter.unusedSimpArgs false
namespace Go.Proofs.YtncnajcpoacdjaaDoor
open Go Go.Proofs Ev
set_option maxRecDepth 100000
set_option maxHeartbeats 40000000
set_option linter.unusedSimpArgs false
set_option linter.unusedVariables false
theorem stop_at (P : Nat → Prop) (h0 : P 0) : ∀ n : Nat, ∃ k, k ≤ n ∧ P k ∧ (k < n → ¬ P (k + 1)) ∧ ∀ j, j < k → P (j + 1)
  | 0 => ⟨0, Nat.le_refl _, h0, fun h => absurd h (by omega), fun j h => absurd h (by omega)⟩
  | n + 1 => by
    obtain ⟨k, h1, h2, h3, h4⟩ := stop_at P h0 n
    by_cases hk : k < n
    · exact ⟨k, by omega, h2, fun _ => h3 hk, h4⟩
    · have hkn : k = n := by omega
      subst hkn
      by_cases hp : P (k + 1)
      · refine ⟨k + 1, Nat.le_refl _, hp, fun h => absurd h (by omega), fun j hj => ?_⟩
        by_cases hjk : j < k
        · exact h4 j hjk
        · have : j = k := by omega
          subst this; exact hp
      · exact ⟨k, by omega, h2, fun _ => hp, h4⟩
/-- What the law reads of a log. -/
theorem frm_facts (s2 : ByteArray) (R : List (List Ent)) (r : Bs) (hs2 : s2.size ≤ 10000) (hR : readD (tb s2) = (R, r)) (n : Nat) : ∃ (ft bk : Nat → ByteArray) (sz : Nat → Nat) (c k : Nat),
    (∀ i (h : i < R.length), AFn Tryd.prog 9 [sl ((R[i]'h).map Ent.enc)] [] (.one (vs (ft i))) [] ∧ AFn Tryd.prog 17 [sl ((R[i]'h).map Ent.enc), sl ((R[i]'h).map Ent.enc)] [] (rb true) [] ∧
      bk i ++ ft i = bk (i + 1) ∧ sz i + (ft i).size = sz (i + 1) ∧ (ft i).size ≤ 1300) ∧
    (∀ i, i ≤ R.length → (bk i).size ≤ 10000 ∧ sz i ≤ sz R.length) ∧ bk 0 = ⟨#[]⟩ ∧ sz 0 = 0 ∧ sz R.length ≤ s2.size ∧ (s2.size : Int) - r.length = ((sz R.length : Nat) : Int) ∧ bk R.length = s2.extract 0 (sz R.length) ∧
    c = n % (sz R.length + 1) ∧ c ≤ sz R.length ∧ k ≤ R.length ∧ sz k ≤ c ∧ (k < R.length → c < sz k + (ft k).size) ∧ (∀ j, j < k → sz j + (ft j).size ≤ c) ∧
    ∃ r2 : Bs, readD (tb (s2.extract 0 c)) = (R.take k, r2) ∧ ((s2.extract 0 c).size : Int) - r2.length = ((sz k : Nat) : Int) := by
  obtain ⟨e1, e2, e3, hok⟩ := readD_ents hR
  rw [tb_len] at e1 e2 e3
  have hinv := (readD_inv (tb s2)).2.1
  rw [hR] at hinv
  simp only at hinv
  have hlen := congrArg List.length hinv
  rw [List.length_append, tb_len] at hlen
  have hmono : ∀ i, (logT (R.take i)).length ≤ (logT R).length := fun i => by
    have : logT R = logT (R.take i) ++ logT (R.drop i) := by rw [← logT_app, List.take_append_drop]
    rw [this, List.length_append]; omega
  have hstep : ∀ i (h : i < R.length), logT (R.take (i + 1)) = logT (R.take i) ++ frameT (R[i]'h) := fun i h => logT_step (List.getElem?_eq_getElem h)
  have hgd : ∀ i (h : i < R.length), R.getD i [] = R[i]'h := fun i h => by simp [List.getD, h]
  have hall : R.take R.length = R := List.take_length
  have hc : n % ((logT R).length + 1) ≤ (logT R).length := by have := Nat.mod_lt n (y := (logT R).length + 1) (by omega); omega
  have hex : ∃ x, n % ((logT R).length + 1) = x := ⟨_, rfl⟩
  obtain ⟨c, hcx⟩ := hex
  rw [hcx] at hc
  obtain ⟨k, k1, k2, k3, k4⟩ := stop_at (fun i => (logT (R.take i)).length ≤ c) (by simp [logT]) R.length
  have hext : ∀ m, tb (s2.extract 0 m) = (tb s2).take m := fun m => by rw [extract_tb, tb_bt, List.drop_zero, Nat.sub_zero]
  refine ⟨fun i => bt (frameT (R.getD i [])), fun i => bt (logT (R.take i)), fun i => (logT (R.take i)).length, c, k, ?_, ?_, rfl, rfl, ?_, ?_, ?_, ?_, ?_, k1, k2, ?_, ?_, ?_⟩
  · intro i h
    have hOk : OkE (R[i]'h) := fun e he => by
      have hb := batOk_p (hok _ (List.getElem_mem h))
      have hp := entOk_p (hb.2.2.1 e he)
      have hk := (keyOk_no32 hp.1).2
      rw [tb_len] at hk
      have hm : 60 ≤ maxLen := by decide
      exact ⟨by omega, by omega⟩
    have hl : (R[i]'h).length ≤ 12 := (batOk_p (hok _ (List.getElem_mem h))).2.1
    have hW := laws_wpEnts (R[i]'h) (R[i]'h) (by omega)
    rw [decide_eq_true rfl] at hW
    have hst := hstep i h
    refine ⟨?_, hW, ?_, ?_, ?_⟩
    · show AFn _ _ _ _ (.one (vs (bt (frameT (R.getD i []))))) _
      rw [hgd i h]; exact impl_FrameText _ hOk (by omega)
    · show bt _ ++ bt (frameT (R.getD i [])) = bt _
      rw [hgd i h, hst]; exact ByteArray.ext (by rw [ByteArray.data_append]; simp [bt])
    · show (logT (R.take i)).length + (bt (frameT (R.getD i []))).size = (logT (R.take (i + 1))).length
      rw [hgd i h, hst, bt_size, List.length_append]
    · show (bt (frameT (R.getD i []))).size ≤ 1300
      rw [bt_size]; exact frameT_max _
  · intro i _
    have := hmono i
    show (bt (logT (R.take i))).size ≤ 10000 ∧ (logT (R.take i)).length ≤ (logT (R.take R.length)).length
    rw [bt_size, hall]
    exact ⟨by omega, this⟩
  · show (logT (R.take R.length)).length ≤ s2.size
    rw [hall]; omega
  · show _ = (((logT (R.take R.length)).length : Nat) : Int)
    rw [hall]; omega
  · show bt (logT (R.take R.length)) = s2.extract 0 (logT (R.take R.length)).length
    rw [hall, ← bt_tb (s2.extract 0 _), hext, hinv, List.take_left]
  · show c = n % ((logT (R.take R.length)).length + 1)
    rw [hall, hcx]
  · show c ≤ (logT (R.take R.length)).length
    rw [hall]; exact hc
  · intro hk
    have := k3 hk
    show c < (logT (R.take k)).length + (bt (frameT (R.getD k []))).size
    rw [hgd k hk, bt_size]
    simp only [hstep k hk, List.length_append] at this
    omega
  · intro j hj
    have := k4 j hj
    have hjl : j < R.length := by omega
    show (logT (R.take j)).length + (bt (frameT (R.getD j []))).size ≤ c
    rw [hgd j hjl, bt_size]
    simp only [hstep j hjl, List.length_append] at this
    omega
  · have hcut := readD_cut hok k1 k2 (fun b hb => by
      obtain ⟨hk, he⟩ := List.getElem?_eq_some_iff.1 hb
      have := k3 hk
      simp only [hstep k hk, List.length_append] at this
      rw [he] at this
      omega) r hc
    refine ⟨_, by rw [hext, hinv]; exact hcut, ?_⟩
    show _ = (((logT (R.take k)).length : Nat) : Int)
    have hk2 := hmono k
    have hsz : (s2.extract 0 c).size = c := by rw [ByteArray.size_extract]; omega
    rw [hsz, List.length_take, List.length_drop]
    omega
theorem laws_FnFrame1 (cs ms : List Nat) (hc : ∀ b ∈ cs, b < 256) (hm : ∀ b ∈ ms, b < 256) (h1 : cs.length ≤ 1048576) (h2 : ms.length ≤ 1048576) (L : List Ent)
    (hD1 : AFn Tryd.prog 16 [sl (cs.map encB)] [] (.one (.us 43 (L.map Ent.enc))) []) (hO : OkE L) (hL : L.length ≤ 13) (hb : batOk L = true) : AFn Tryd.prog 5 [sl (cs.map encB), sl (ms.map encB)] [] (rb true) [] := by
  have hcl : (cs.map encB).length = cs.length := List.length_map ..
  have hml : (ms.map encB).length = ms.length := List.length_map ..
  have hT1 := impl_FrameText L hO (by omega)
  have hT2 := spec_FrameText L hO (by omega)
  have hs1 := frameT_max L
  have hs0 := frameT_len hb
  have hR1 := impl_FrameRead (bt (frameT L)) (by rw [bt_size]; omega) [L] [] (by rw [tb_bt, readD_frame, if_pos hb])
  have hW1 := laws_wpEnts L L (by omega)
  rw [decide_eq_true rfl] at hW1
  rw [← bt_size] at hs1 hs0
  rw [show ((bt (frameT L)).size : Int) - ([] : Bs).length = ((bt (frameT L)).size : Int) by simp] at hR1
  generalize bt (frameT L) = s1 at hT1 hT2 hs1 hs0 hR1
  have hR1 : AFn Tryd.prog 12 [av (.string s1)] [] (.tup [.one (.us 25 [[.us 43 (L.map Ent.enc)]]), .one (vi (s1.size : Int))]) [] := hR1
  have hne : s1 ≠ ⟨#[]⟩ := fun h => by rw [h] at hs0; exact absurd hs0 (by decide)
  obtain ⟨s2, hD2, hs2⟩ := Draw_FrameRead ms hm h2
  have hex : ∃ x, readD (tb s2) = x := ⟨_, rfl⟩
  obtain ⟨⟨R, r⟩, hR⟩ := hex
  have hRI := impl_FrameRead s2 (by omega) R r hR
  have hRS := spec_FrameRead s2 (by omega) R r hR
  have e2 := (readD_ents hR).2.1
  rw [tb_len] at e2
  obtain ⟨ft, bk, sz, c, k, q1, q2, q3, q4, q5, q6, q7, q8, q9, q10, q11, q12, q13, r2, q14, q15⟩ := frm_facts s2 R r hs2 hR cs.length
  have hRC := impl_FrameRead (s2.extract 0 c) (by rw [ByteArray.size_extract]; omega) (R.take k) r2 q14
  rw [q6] at hRI hRS
  rw [q15] at hRC
  have hRl : (R.map encX).length = R.length := List.length_map ..
  have hRl2 : (R.map encXO).length = R.length := List.length_map ..
  have hTl : ((R.take k).map encXO).length = k := by rw [List.length_map, List.length_take]; omega
  have hbkR := (q2 R.length (Nat.le_refl _)).1
  have hcmod : (((cs.length : Nat) : Int) % (((sz R.length : Nat) : Int) + 1)) = ((c : Nat) : Int) := by rw [q8]; push_cast; rfl
  have hcmod2 : Int.tmod ((cs.length : Nat) : Int) (((sz R.length : Nat) : Int) + 1) = ((c : Nat) : Int) := by rw [Int.tmod_eq_emod_of_nonneg (by omega)]; exact hcmod
  have hround : ∀ i (h : i < R.length), (R.map encX)[i]? = some [.sl ((R[i]'h).map Ent.enc)] := fun i h => map_get encX R i h
  have hrem : Int.tmod (((cs.map encB).length : Nat) : Int) ((sz R.length + 1 : Nat) : Int) = ((c : Nat) : Int) := by rw [hcl]; exact hcmod2
  have hRC : AFn Tryd.prog 12 [av (.string (s2.extract (Int.toNat 0) (Int.tmod (((cs.map encB).length : Nat) : Int) ((sz R.length + 1 : Nat) : Int)).toNat))] [] (.tup [.one (.us 25 ((R.take k).map encXO)), .one (vi ((sz k : Nat) : Int))]) [] := by rw [hrem]; exact hRC
  clear hR q14 q15 q6 hs1 hcmod hcmod2
  refine AFn.introX (E := En 0 md0 (fz := [5, 7, 10, 12])) (en_ok 0 _ _ _ _) Tryd.func5 rfl rfl rfl fun _ _ => ?_
  refine Split.mk fun t h1 => ?_
  cases t
  case true => (exfalso; rw [decide_eq_true_iff] at h1; omega)
  rw [decide_eq_false_iff_not] at h1
  refine Split.mk fun t h2 => ?_
  cases t
  case true => (exfalso; rw [decide_eq_true_iff] at h2; omega)
  rw [decide_eq_false_iff_not] at h2
  refine ACall.mk _ _ hD1 ?_
  refine Fz.mk _ (frzE _) ?_
  refine ACall.mk _ _ hT1 ?_
  refine ACall.mk _ _ hR1 ?_
  refine Fz.mk _ (FrzLL.frz (.cons (.cons (frzE _) .nil) .nil)) ?_
  refine ACall.mk _ _ hT2 ?_
  refine Split.mk fun t h3 => ?_
  cases t
  case true => (exfalso; rw [Bool.not_eq_true', bytes_beq, decide_eq_false_iff_not] at h3; contradiction)
  rw [Bool.not_eq_false', bytes_beq, decide_eq_true_iff] at h3
  refine Split.mk fun t h4 => ?_
  cases t
  case true => (exfalso; rw [bne_iff_ne] at h4; omega)
  rw [bne_eq_false_iff_eq] at h4
  refine Split.mk fun t h5 => ?_
  cases t
  case false => (exfalso; rw [Bool.not_eq_false', bytes_beq, decide_eq_true_iff] at h5; exact absurd h5 ‹_›)
  rw [Bool.not_eq_true', bytes_beq, decide_eq_false_iff_not] at h5
  refine Split.mk fun t h6 => ?_
  cases t
  case false => cases h6
  refine Split.mk fun t h7 => ?_
  cases t
  case true => cases h7
  refine Split.mk fun t h8 => ?_
  cases t
  case false => (exfalso; rw [Bool.not_eq_false', bytes_beq, decide_eq_true_iff] at h8; exact absurd h8 ‹_›)
  rw [Bool.not_eq_true', bytes_beq, decide_eq_false_iff_not] at h8
  refine Need.mk (by omega) ?_
  refine Row.mk _ rfl ?_
  refine ACall.mk _ _ hW1 ?_
  refine Split.mk fun t h9 => ?_
  cases t
  case false => cases h9
  refine ACall.mk _ _ hD2 ?_
  refine ACall.mk _ _ hRI ?_
  refine Fz.mk _ (frzX _) ?_
  refine ACall.mk _ _ hRS ?_
  refine Fz.mk _ (frzX _) ?_
  refine Split.mk fun t h10 => ?_
  cases t
  case true => (exfalso; rw [bne_iff_ne] at h10; omega)
  rw [bne_eq_false_iff_eq] at h10
  refine Split.mk fun t h11 => ?_
  cases t
  case true => (exfalso; rw [bne_iff_ne] at h11; omega)
  rw [bne_eq_false_iff_eq] at h11
  refine Split.mk fun t h12 => ?_
  cases t
  case true => cases h12
  refine Split.mk fun t h13 => ?_
  cases t
  case true => (exfalso; rw [decide_eq_true_iff] at h13; omega)
  rw [decide_eq_false_iff_not] at h13
  let S : Nat → ByteArray → St := fun i o => ⟨some (sl (List.map encB cs)) :: none :: none :: none :: none :: none :: none :: none :: none :: some (av (.string s2)) :: some (sl (List.map encX R)) :: some (av (.int .i64 (↑(sz R.length)))) :: some (sl (List.map encX R)) :: none :: some (av (.string o)) :: some (av (.int .i64 i)) :: List.replicate 159 none, List.replicate 175 absent⟩
  refine ALoop.mk (fun m s => ∃ (i : Nat) (o : ByteArray), (i ≤ R.length ∧ m = R.length - i) ∧ o = bk i ∧ s = S i o)
    ⟨_, _, Weak.nrm [true, false, false, false, false, false, false, false, false, true, true, true, true, false, true, true] [] rfl rfl rfl, 0, ⟨#[]⟩, ⟨Nat.zero_le _, rfl⟩, q3.symm, rfl⟩ ?_
  rintro m s ⟨i, o, ⟨hi, rfl⟩, ho, hs⟩
  subst ho
  have hbi := (q2 i hi).1
  by_cases hi2 : i < R.length
  · have hx := q1 i hi2
    have hF := hx.1
    have hW := hx.2.1
    have hb1 := hx.2.2.1
    have hfz := hx.2.2.2.2
    have hr := hround i hi2
    clear hx
    subst hs
    refine Split.mk fun t h1 => ?_
    cases t
    case false => (exfalso; rw [decide_eq_false_iff_not] at h1; omega)
    rw [decide_eq_true_iff] at h1
    refine Need.mk (by omega) ?_
    refine Row.mk _ hr ?_
    refine Need.mk (by omega) ?_
    refine Row.mk _ hr ?_
    refine ACall.mk _ _ hW ?_
    refine Split.mk fun t h2 => ?_
    cases t
    case false => cases h2
    refine Need.mk (rfl) ?_
    refine Need.mk (by omega) ?_
    refine Row.mk _ hr ?_
    refine ACall.mk _ _ hF ?_
    refine Need.mk (strFits (by omega)) ?_
    refine Num.mk _ (wrapS (by omega)) ?_
    exact ⟨R.length - (i + 1), _, by omega, Weak.nrm [true, false, false, false, false, false, false, false, false, true, true, true, true, false, true, true] [] rfl rfl rfl, i + 1, bk i ++ ft i, ⟨by omega, rfl⟩, hb1, rfl⟩
  · have hiR : i = R.length := by omega
    subst hiR
    have hq7 : bk R.length = s2.extract (Int.toNat 0) ((sz R.length : Nat) : Int).toNat := q7
    subst hs
    refine Split.mk fun t h1 => ?_
    cases t
    case true => (exfalso; rw [decide_eq_true_iff] at h1; omega)
    rw [decide_eq_false_iff_not] at h1
    refine Need.mk (by omega) ?_
    refine Split.mk fun t h2 => ?_
    cases t
    case true => (exfalso; rw [Bool.not_eq_true', bytes_beq, decide_eq_false_iff_not] at h2; exact absurd ‹_› h2)
    rw [Bool.not_eq_false', bytes_beq, decide_eq_true_iff] at h2
    refine Num.mk _ (wrapS (by omega)) ?_
    refine Need.mk (by omega) ?_
    refine Need.mk (by omega) ?_
    refine ACall.mk _ _ hRC ?_
    let S : Nat → Nat → St := fun j z => ⟨none :: none :: none :: none :: none :: none :: none :: none :: none :: none :: some (sl (List.map encX R)) :: none :: none :: none :: none :: none :: some (av (.int .i64 (Int.tmod (((cs.map encB).length : Nat) : Int) ((sz R.length + 1 : Nat) : Int)))) :: some (.one (.ref 17 0 (.cell 0))) :: some (av (.int .i64 (↑(sz k)))) :: some (av (.int .i64 (j : Nat))) :: some (av (.int .i64 (z : Nat))) :: List.replicate 154 none, absent :: absent :: absent :: absent :: absent :: absent :: absent :: absent :: absent :: absent :: absent :: absent :: absent :: absent :: absent :: absent :: absent :: ⟨0, 1, some [.us 25 (List.map encXO (List.take k R)), vi (↑(sz k))]⟩ :: List.replicate 157 absent⟩
    refine ALoop.mk (fun m s => ∃ (j z : Nat), (j ≤ k ∧ m = k - j) ∧ z = sz j ∧ s = S j z)
      ⟨_, _, Weak.nrm [false, false, false, false, false, false, false, false, false, false, true, false, false, false, false, false, true, true, true, true, true] [(137, 17)] rfl rfl rfl, 0, 0, ⟨Nat.zero_le _, rfl⟩, q4.symm, rfl⟩ ?_
    rintro m s ⟨j, z, ⟨hj, rfl⟩, hz, hs⟩
    subst hz
    have hzj := (q2 j (by omega)).2
    by_cases hj2 : j < k
    · have hjR : j < R.length := by omega
      have hx := q1 j hjR
      have hF := hx.1
      have hz1 := hx.2.2.2.1
      have hfz := hx.2.2.2.2
      have hlt := q13 j hj2
      have hr := hround j hjR
      clear hx
      subst hs
      refine Split.mk fun t h1 => ?_
      cases t
      case false => (exfalso; rw [decide_eq_false_iff_not] at h1; omega)
      rw [decide_eq_true_iff] at h1
      refine Need.mk (by omega) ?_
      refine Row.mk _ hr ?_
      refine ACall.mk _ _ hF ?_
      refine Num.mk _ (wrapI (by omega) (by omega)) ?_
      refine Split.mk fun t h2 => ?_
      cases t
      case false => (exfalso; rw [decide_eq_false_iff_not] at h2; omega)
      rw [decide_eq_true_iff] at h2
      refine Need.mk (by omega) ?_
      refine Row.mk _ hr ?_
      refine ACall.mk _ _ hF ?_
      refine Num.mk _ (wrapI (by omega) (by omega)) ?_
      refine Num.mk _ (wrapS (by omega)) ?_
      exact ⟨k - (j + 1), _, by omega, Weak.nrm [false, false, false, false, false, false, false, false, false, false, true, false, false, false, false, false, true, true, true, true, true] [(17, 17)] rfl rfl rfl, j + 1, sz j + (ft j).size, ⟨by omega, rfl⟩, hz1, rfl⟩
    · have hjk : j = k := by omega
      subst hjk
      by_cases hjR : j < R.length
      · have hx := q1 j hjR
        have hF := hx.1
        have hfz := hx.2.2.2.2
        have hlt := q12 hjR
        have hr := hround j hjR
        clear hx
        subst hs
        refine Split.mk fun t h1 => ?_
        cases t
        case false => (exfalso; rw [decide_eq_false_iff_not] at h1; omega)
        rw [decide_eq_true_iff] at h1
        refine Need.mk (by omega) ?_
        refine Row.mk _ hr ?_
        refine ACall.mk _ _ hF ?_
        refine Num.mk _ (wrapI (by omega) (by omega)) ?_
        refine Split.mk fun t h2 => ?_
        cases t
        case true => (exfalso; rw [decide_eq_true_iff] at h2; omega)
        rw [decide_eq_false_iff_not] at h2
        refine Split.mk fun t h3 => ?_
        cases t
        case false => (exfalso; rw [beq_eq_false_iff_ne] at h3; omega)
        rw [beq_iff_eq] at h3
        refine Split.mk fun t h4 => ?_
        cases t
        case false => (exfalso; rw [beq_eq_false_iff_ne] at h4; omega)
        rw [beq_iff_eq] at h4
        exact Need.mk ⟨[], _, .same, rfl, rfl⟩ trivial
      · have hjR2 : j = R.length := by omega
        subst hs
        refine Split.mk fun t h1 => ?_
        cases t
        case true => (exfalso; rw [decide_eq_true_iff] at h1; omega)
        rw [decide_eq_false_iff_not] at h1
        refine Split.mk fun t h2 => ?_
        cases t
        case false => (exfalso; rw [beq_eq_false_iff_ne] at h2; omega)
        rw [beq_iff_eq] at h2
        refine Split.mk fun t h3 => ?_
        cases t
        case false => (exfalso; rw [beq_eq_false_iff_ne] at h3; omega)
        rw [beq_iff_eq] at h3
        exact Need.mk ⟨[], _, .same, rfl, rfl⟩ trivial
theorem laws_FnFrame0 (cs ms : List Nat) (hc : ∀ b ∈ cs, b < 256) (hm : ∀ b ∈ ms, b < 256) (h1 : cs.length ≤ 1048576) (h2 : ms.length ≤ 1048576) (L : List Ent)
    (hD1 : AFn Tryd.prog 16 [sl (cs.map encB)] [] (.one (.us 43 (L.map Ent.enc))) []) (hO : OkE L) (hL : L.length ≤ 13) (hb : batOk L = false) : AFn Tryd.prog 5 [sl (cs.map encB), sl (ms.map encB)] [] (rb true) [] := by
  have hcl : (cs.map encB).length = cs.length := List.length_map ..
  have hml : (ms.map encB).length = ms.length := List.length_map ..
  have hT1 := impl_FrameText L hO (by omega)
  have hT2 := spec_FrameText L hO (by omega)
  have hf : bt (frameT L) = ⟨#[]⟩ := by rw [frameT_neg (by rw [hb]; decide)]; rfl
  have hR1 := impl_FrameRead (bt (frameT L)) (by rw [hf]; decide) [] [] (by rw [tb_bt, readD_frame, if_neg (by rw [hb]; decide)])
  rw [hf] at hT1 hT2 hR1
  have hR1 : AFn Tryd.prog 12 [av (.string ⟨#[]⟩)] [] (.tup [.one (.us 25 []), .one (vi 0)]) [] := hR1
  obtain ⟨s2, hD2, hs2⟩ := Draw_FrameRead ms hm h2
  have hex : ∃ x, readD (tb s2) = x := ⟨_, rfl⟩
  obtain ⟨⟨R, r⟩, hR⟩ := hex
  have hRI := impl_FrameRead s2 (by omega) R r hR
  have hRS := spec_FrameRead s2 (by omega) R r hR
  have e2 := (readD_ents hR).2.1
  rw [tb_len] at e2
  obtain ⟨ft, bk, sz, c, k, q1, q2, q3, q4, q5, q6, q7, q8, q9, q10, q11, q12, q13, r2, q14, q15⟩ := frm_facts s2 R r hs2 hR cs.length
  have hRC := impl_FrameRead (s2.extract 0 c) (by rw [ByteArray.size_extract]; omega) (R.take k) r2 q14
  rw [q6] at hRI hRS
  rw [q15] at hRC
  have hRl : (R.map encX).length = R.length := List.length_map ..
  have hRl2 : (R.map encXO).length = R.length := List.length_map ..
  have hTl : ((R.take k).map encXO).length = k := by rw [List.length_map, List.length_take]; omega
  have hbkR := (q2 R.length (Nat.le_refl _)).1
  have hcmod : (((cs.length : Nat) : Int) % (((sz R.length : Nat) : Int) + 1)) = ((c : Nat) : Int) := by rw [q8]; push_cast; rfl
  have hcmod2 : Int.tmod ((cs.length : Nat) : Int) (((sz R.length : Nat) : Int) + 1) = ((c : Nat) : Int) := by rw [Int.tmod_eq_emod_of_nonneg (by omega)]; exact hcmod
  have hround : ∀ i (h : i < R.length), (R.map encX)[i]? = some [.sl ((R[i]'h).map Ent.enc)] := fun i h => map_get encX R i h
  have hrem : Int.tmod (((cs.map encB).length : Nat) : Int) ((sz R.length + 1 : Nat) : Int) = ((c : Nat) : Int) := by rw [hcl]; exact hcmod2
  have hRC : AFn Tryd.prog 12 [av (.string (s2.extract (Int.toNat 0) (Int.tmod (((cs.map encB).length : Nat) : Int) ((sz R.length + 1 : Nat) : Int)).toNat))] [] (.tup [.one (.us 25 ((R.take k).map encXO)), .one (vi ((sz k : Nat) : Int))]) [] := by rw [hrem]; exact hRC
  clear hR q14 q15 q6 hcmod hcmod2
  refine AFn.introX (E := En 0 md0 (fz := [5, 7, 10, 12])) (en_ok 0 _ _ _ _) Tryd.func5 rfl rfl rfl fun _ _ => ?_
  refine Split.mk fun t h1 => ?_
  cases t
  case true => (exfalso; rw [decide_eq_true_iff] at h1; omega)
  rw [decide_eq_false_iff_not] at h1
  refine Split.mk fun t h2 => ?_
  cases t
  case true => (exfalso; rw [decide_eq_true_iff] at h2; omega)
  rw [decide_eq_false_iff_not] at h2
  refine ACall.mk _ _ hD1 ?_
  refine Fz.mk _ (frzE _) ?_
  refine ACall.mk _ _ hT1 ?_
  refine ACall.mk _ _ hR1 ?_
  refine Fz.mk _ (FrzLL.frz .nil) ?_
  refine ACall.mk _ _ hT2 ?_
  refine Split.mk fun t h3 => ?_
  cases t
  case true => (exfalso; rw [Bool.not_eq_true', bytes_beq, decide_eq_false_iff_not] at h3; contradiction)
  rw [Bool.not_eq_false', bytes_beq, decide_eq_true_iff] at h3
  refine Split.mk fun t h4 => ?_
  cases t
  case true => cases h4
  refine Split.mk fun t h5 => ?_
  cases t
  case true => (exfalso; rw [Bool.not_eq_true', bytes_beq, decide_eq_false_iff_not] at h5; exact absurd ‹_› h5)
  rw [Bool.not_eq_false', bytes_beq, decide_eq_true_iff] at h5
  refine Split.mk fun t h6 => ?_
  cases t
  case true => cases h6
  refine Split.mk fun t h7 => ?_
  cases t
  case true => cases h7
  refine Split.mk fun t h8 => ?_
  cases t
  case true => (exfalso; rw [Bool.not_eq_true', bytes_beq, decide_eq_false_iff_not] at h8; exact absurd ‹_› h8)
  rw [Bool.not_eq_false', bytes_beq, decide_eq_true_iff] at h8
  refine ACall.mk _ _ hD2 ?_
  refine ACall.mk _ _ hRI ?_
  refine Fz.mk _ (frzX _) ?_
  refine ACall.mk _ _ hRS ?_
  refine Fz.mk _ (frzX _) ?_
  refine Split.mk fun t h10 => ?_
  cases t
  case true => (exfalso; rw [bne_iff_ne] at h10; omega)
  rw [bne_eq_false_iff_eq] at h10
  refine Split.mk fun t h11 => ?_
  cases t
  case true => (exfalso; rw [bne_iff_ne] at h11; omega)
  rw [bne_eq_false_iff_eq] at h11
  refine Split.mk fun t h12 => ?_
  cases t
  case true => cases h12
  refine Split.mk fun t h13 => ?_
  cases t
  case true => (exfalso; rw [decide_eq_true_iff] at h13; omega)
  rw [decide_eq_false_iff_not] at h13
  let S : Nat → ByteArray → St := fun i o => ⟨some (sl (List.map encB cs)) :: none :: none :: none :: none :: none :: none :: none :: none :: some (av (.string s2)) :: some (sl (List.map encX R)) :: some (av (.int .i64 (↑(sz R.length)))) :: some (sl (List.map encX R)) :: none :: some (av (.string o)) :: some (av (.int .i64 i)) :: List.replicate 159 none, List.replicate 175 absent⟩
  refine ALoop.mk (fun m s => ∃ (i : Nat) (o : ByteArray), (i ≤ R.length ∧ m = R.length - i) ∧ o = bk i ∧ s = S i o)
    ⟨_, _, Weak.nrm [true, false, false, false, false, false, false, false, false, true, true, true, true, false, true, true] [] rfl rfl rfl, 0, ⟨#[]⟩, ⟨Nat.zero_le _, rfl⟩, q3.symm, rfl⟩ ?_
  rintro m s ⟨i, o, ⟨hi, rfl⟩, ho, hs⟩
  subst ho
  have hbi := (q2 i hi).1
  by_cases hi2 : i < R.length
  · have hx := q1 i hi2
    have hF := hx.1
    have hW := hx.2.1
    have hb1 := hx.2.2.1
    have hfz := hx.2.2.2.2
    have hr := hround i hi2
    clear hx
    subst hs
    refine Split.mk fun t h1 => ?_
    cases t
    case false => (exfalso; rw [decide_eq_false_iff_not] at h1; omega)
    rw [decide_eq_true_iff] at h1
    refine Need.mk (by omega) ?_
    refine Row.mk _ hr ?_
    refine Need.mk (by omega) ?_
    refine Row.mk _ hr ?_
    refine ACall.mk _ _ hW ?_
    refine Split.mk fun t h2 => ?_
    cases t
    case false => cases h2
    refine Need.mk (rfl) ?_
    refine Need.mk (by omega) ?_
    refine Row.mk _ hr ?_
    refine ACall.mk _ _ hF ?_
    refine Need.mk (strFits (by omega)) ?_
    refine Num.mk _ (wrapS (by omega)) ?_
    exact ⟨R.length - (i + 1), _, by omega, Weak.nrm [true, false, false, false, false, false, false, false, false, true, true, true, true, false, true, true] [] rfl rfl rfl, i + 1, bk i ++ ft i, ⟨by omega, rfl⟩, hb1, rfl⟩
  · have hiR : i = R.length := by omega
    subst hiR
    have hq7 : bk R.length = s2.extract (Int.toNat 0) ((sz R.length : Nat) : Int).toNat := q7
    subst hs
    refine Split.mk fun t h1 => ?_
    cases t
    case true => (exfalso; rw [decide_eq_true_iff] at h1; omega)
    rw [decide_eq_false_iff_not] at h1
    refine Need.mk (by omega) ?_
    refine Split.mk fun t h2 => ?_
    cases t
    case true => (exfalso; rw [Bool.not_eq_true', bytes_beq, decide_eq_false_iff_not] at h2; exact absurd ‹_› h2)
    rw [Bool.not_eq_false', bytes_beq, decide_eq_true_iff] at h2
    refine Num.mk _ (wrapS (by omega)) ?_
    refine Need.mk (by omega) ?_
    refine Need.mk (by omega) ?_
    refine ACall.mk _ _ hRC ?_
    let S : Nat → Nat → St := fun j z => ⟨none :: none :: none :: none :: none :: none :: none :: none :: none :: none :: some (sl (List.map encX R)) :: none :: none :: none :: none :: none :: some (av (.int .i64 (Int.tmod (((cs.map encB).length : Nat) : Int) ((sz R.length + 1 : Nat) : Int)))) :: some (.one (.ref 17 0 (.cell 0))) :: some (av (.int .i64 (↑(sz k)))) :: some (av (.int .i64 (j : Nat))) :: some (av (.int .i64 (z : Nat))) :: List.replicate 154 none, absent :: absent :: absent :: absent :: absent :: absent :: absent :: absent :: absent :: absent :: absent :: absent :: absent :: absent :: absent :: absent :: absent :: ⟨0, 1, some [.us 25 (List.map encXO (List.take k R)), vi (↑(sz k))]⟩ :: List.replicate 157 absent⟩
    refine ALoop.mk (fun m s => ∃ (j z : Nat), (j ≤ k ∧ m = k - j) ∧ z = sz j ∧ s = S j z)
      ⟨_, _, Weak.nrm [false, false, false, false, false, false, false, false, false, false, true, false, false, false, false, false, true, true, true, true, true] [(137, 17)] rfl rfl rfl, 0, 0, ⟨Nat.zero_le _, rfl⟩, q4.symm, rfl⟩ ?_
    rintro m s ⟨j, z, ⟨hj, rfl⟩, hz, hs⟩
    subst hz
    have hzj := (q2 j (by omega)).2
    by_cases hj2 : j < k
    · have hjR : j < R.length := by omega
      have hx := q1 j hjR
      have hF := hx.1
      have hz1 := hx.2.2.2.1
      have hfz := hx.2.2.2.2
      have hlt := q13 j hj2
      have hr := hround j hjR
      clear hx
      subst hs
      refine Split.mk fun t h1 => ?_
      cases t
      case false => (exfalso; rw [decide_eq_false_iff_not] at h1; omega)
      rw [decide_eq_true_iff] at h1
      refine Need.mk (by omega) ?_
      refine Row.mk _ hr ?_
      refine ACall.mk _ _ hF ?_
      refine Num.mk _ (wrapI (by omega) (by omega)) ?_
      refine Split.mk fun t h2 => ?_
      cases t
      case false => (exfalso; rw [decide_eq_false_iff_not] at h2; omega)
      rw [decide_eq_true_iff] at h2
      refine Need.mk (by omega) ?_
      refine Row.mk _ hr ?_
      refine ACall.mk _ _ hF ?_
      refine Num.mk _ (wrapI (by omega) (by omega)) ?_
      refine Num.mk _ (wrapS (by omega)) ?_
      exact ⟨k - (j + 1), _, by omega, Weak.nrm [false, false, false, false, false, false, false, false, false, false, true, false, false, false, false, false, true, true, true, true, true] [(17, 17)] rfl rfl rfl, j + 1, sz j + (ft j).size, ⟨by omega, rfl⟩, hz1, rfl⟩
    · have hjk : j = k := by omega
      subst hjk
      by_cases hjR : j < R.length
      · have hx := q1 j hjR
        have hF := hx.1
        have hfz := hx.2.2.2.2
        have hlt := q12 hjR
        have hr := hround j hjR
        clear hx
        subst hs
        refine Split.mk fun t h1 => ?_
        cases t
        case false => (exfalso; rw [decide_eq_false_iff_not] at h1; omega)
        rw [decide_eq_true_iff] at h1
        refine Need.mk (by omega) ?_
        refine Row.mk _ hr ?_
        refine ACall.mk _ _ hF ?_
        refine Num.mk _ (wrapI (by omega) (by omega)) ?_
        refine Split.mk fun t h2 => ?_
        cases t
        case true => (exfalso; rw [decide_eq_true_iff] at h2; omega)
        rw [decide_eq_false_iff_not] at h2
        refine Split.mk fun t h3 => ?_
        cases t
        case false => (exfalso; rw [beq_eq_false_iff_ne] at h3; omega)
        rw [beq_iff_eq] at h3
        refine Split.mk fun t h4 => ?_
        cases t
        case false => (exfalso; rw [beq_eq_false_iff_ne] at h4; omega)
        rw [beq_iff_eq] at h4
        exact Need.mk ⟨[], _, .same, rfl, rfl⟩ trivial
      · have hjR2 : j = R.length := by omega
        subst hs
        refine Split.mk fun t h1 => ?_
        cases t
        case true => (exfalso; rw [decide_eq_true_iff] at h1; omega)
        rw [decide_eq_false_iff_not] at h1
        refine Split.mk fun t h2 => ?_
        cases t
        case false => (exfalso; rw [beq_eq_false_iff_ne] at h2; omega)
        rw [beq_iff_eq] at h2
        refine Split.mk fun t h3 => ?_
        cases t
        case false => (exfalso; rw [beq_eq_false_iff_ne] at h3; omega)
        rw [beq_iff_eq] at h3
        exact Need.mk ⟨[], _, .same, rfl, rfl⟩ trivial
theorem laws_FnFrame (cs ms : List Nat) (hc : ∀ b ∈ cs, b < 256) (hm : ∀ b ∈ ms, b < 256) : AFn Tryd.prog 5 [sl (cs.map encB), sl (ms.map encB)] [] (rb true) [] := by
  have hcl : (cs.map encB).length = cs.length := List.length_map ..
  have hml : (ms.map encB).length = ms.length := List.length_map ..
  by_cases h1 : cs.length ≤ 1048576
  · by_cases h2 : ms.length ≤ 1048576
    · obtain ⟨L, hD1, hO, hL⟩ := Draw_FrameText cs hc h1
      cases hb : batOk L with
      | true => exact laws_FnFrame1 cs ms hc hm h1 h2 L hD1 hO hL hb
      | false => exact laws_FnFrame0 cs ms hc hm h1 h2 L hD1 hO hL hb
    · have h2n : 1048576 < ms.length := by omega
      refine AFn.introX (E := En 0 md0) (en_ok 0 _) Tryd.func5 rfl rfl rfl fun _ _ => ?_
      refine Split.mk fun t h1 => ?_
      cases t
      case true => (exfalso; rw [decide_eq_true_iff] at h1; omega)
      rw [decide_eq_false_iff_not] at h1
      refine Split.mk fun t h2 => ?_
      cases t
      case false => (exfalso; rw [decide_eq_false_iff_not] at h2; omega)
      rw [decide_eq_true_iff] at h2
      exact Need.mk ⟨[], _, .same, rfl, rfl⟩ trivial
  · have h1n : 1048576 < cs.length := by omega
    refine AFn.introX (E := En 0 md0) (en_ok 0 _) Tryd.func5 rfl rfl rfl fun _ _ => ?_
    refine Split.mk fun t h1 => ?_
    cases t
    case false => (exfalso; rw [decide_eq_false_iff_not] at h1; omega)
    rw [decide_eq_true_iff] at h1
    exact Need.mk ⟨[], _, .same, rfl, rfl⟩ trivial
theorem laws_FnFrame_any (c0 c1 : C) (h0 : Sh (.slice tyB) c0) (h1 : Sh (.slice tyB) c1) : AFn Tryd.prog 5 [.one (.c c0), .one (.c c1)] [] (rb true) [] := by
  obtain ⟨cs, rfl, hc⟩ := dec_bytes h0
  obtain ⟨ms, rfl, hm⟩ := dec_bytes h1
  exact laws_FnFrame cs ms hc hm
end Go.Proofs.YtncnajcpoacdjaaDoor
