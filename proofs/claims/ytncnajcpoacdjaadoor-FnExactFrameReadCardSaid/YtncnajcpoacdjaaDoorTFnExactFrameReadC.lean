/-
  Contracts of functions, part 3.
-/
import Derived.Test.YtncnajcpoacdjaaDoorTFnExactFrameReadB
set_option linter.unusedVariables false
set_option linter.unusedSimpArgs false
namespace Go.Proofs.YtncnajcpoacdjaaDoor
open Go Go.Proofs Ev
set_option maxRecDepth 100000
set_option maxHeartbeats 40000000
set_option linter.unusedSimpArgs false
set_option linter.unusedVariables false
def failB : RV := .tup [.one (.v nilV), .one (vb false)]
theorem reader_batch1 (s : ByteArray) (p : Nat) (hs : s.size ≤ 1048576) (hp : p ≤ s.size) (q : Nat) (hN : numB s p = (0, false, q)) : AFnK Tryd.prog 30 [.bx 0 0] [lrd s p] [0] failB [lrd s q] := by
  have hR := reader_number s p hs hp _ _ _ hN
  refine AFnK.introX (E := En 1 md0) (en_ok 1 md0) Tryd.func30 rfl rfl rfl fun _ _ => ?_
  refine ACall.mk _ _ hR ?_
  refine Split.mk fun t h1 => ?_
  cases t
  case true => cases h1
  exact Need.mk ⟨[], _, .same, rfl, rfl⟩ trivial
theorem reader_batch2 (s : ByteArray) (p : Nat) (hs : s.size ≤ 1048576) (hp : p ≤ s.size) (n : Int) (q : Nat) (hN : numB s p = (n, true, q)) (hq : q ≤ s.size) (hl : n < 0 ∨ (s.size : Int) - q < n) : AFnK Tryd.prog 30 [.bx 0 0] [lrd s p] [0] failB [lrd s q] := by
  have hR := reader_number s p hs hp _ _ _ hN
  have hT := reader_takeN s q n hs hq hl
  refine AFnK.introX (E := En 1 md0) (en_ok 1 md0) Tryd.func30 rfl rfl rfl fun _ _ => ?_
  refine ACall.mk _ _ hR ?_
  refine Split.mk fun t h1 => ?_
  cases t
  case false => cases h1
  refine ACall.mk _ _ hT ?_
  refine Split.mk fun t h2 => ?_
  cases t
  case true => cases h2
  exact Need.mk ⟨[], _, .same, rfl, rfl⟩ trivial
theorem reader_batch3 (s : ByteArray) (p : Nat) (hs : s.size ≤ 1048576) (hp : p ≤ s.size) (n : Nat) (q : Nat) (hN : numB s p = ((n : Int), true, q)) (hl : q + n = s.size) : AFnK Tryd.prog 30 [.bx 0 0] [lrd s p] [0] failB [lrd s (q + n)] := by
  have hR := reader_number s p hs hp _ _ _ hN
  have hT := reader_takeY s q n hs (by omega)
  have hT2 := reader_takeN s (q + n) 1 hs (by omega) (by omega)
  refine AFnK.introX (E := En 1 md0) (en_ok 1 md0) Tryd.func30 rfl rfl rfl fun _ _ => ?_
  refine ACall.mk _ _ hR ?_
  refine Split.mk fun t h1 => ?_
  cases t
  case false => cases h1
  refine ACall.mk _ _ hT ?_
  refine Split.mk fun t h2 => ?_
  cases t
  case false => cases h2
  refine ACall.mk _ _ hT2 ?_
  refine Split.mk fun t h3 => ?_
  cases t
  case true => cases h3
  exact Need.mk ⟨[], _, .same, rfl, rfl⟩ trivial
theorem reader_batchM (s : ByteArray) (p : Nat) (hs : s.size ≤ 1048576) (hp : p ≤ s.size) (n : Nat) (q : Nat) (hN : numB s p = ((n : Int), true, q)) (hl : q + n + 1 ≤ s.size) (hpq : p < q) (B : ByteArray) (hB : s.extract q (q + n) = B) (r : RV)
    (k0 : RI.body 12 [] (tb B) = none → r = failB) (k1 : ∀ b, RI.body 12 [] (tb B) = some b → batOk b = false → r = failB) (k2 : ∀ b, RI.body 12 [] (tb B) = some b → batOk b = true → bt (frameT b) ≠ s.extract p (q + n + 1) → r = failB)
    (k3 : ∀ b, RI.body 12 [] (tb B) = some b → batOk b = true → bt (frameT b) = s.extract p (q + n + 1) → r = .tup [.one (.us 43 (b.map Ent.enc)), .one (vb true)]) :
    AFnK Tryd.prog 30 [.bx 0 0] [lrd s p] [0] r [lrd s (q + n + 1)] := by
  have hR := reader_number s p hs hp _ _ _ hN
  have hT := reader_takeY s q n hs (by omega)
  have hT2 := reader_takeY s (q + n) 1 hs (by omega)
  have hBs := ext_size s q (q + n)
  rw [hB] at hT hBs
  have hBz : B.size ≤ 1048576 := by omega
  have hpos : 0 < Tryd.prog.cellsOf 43 := pos_of tab_ok (t := 43) rfl
  have hround : ∀ (out : List Ent) (a : Nat), a < B.size → out.length ≤ 12 → OkE out → RI.body (12 - out.length) out ((tb B).drop a) = RI.body 12 [] (tb B) →
      (∃ (e : Ent) (a2 : Nat), AFnK Tryd.prog 47 [.bx 0 0] [lrd B a] [0] (.tup [.agg e.enc, .one (vb true)]) [lrd B a2] ∧ (out.length = 12 → r = failB) ∧ a2 ≤ B.size ∧ (out.length ≠ 12 → OkE (out ++ [e]) ∧ RI.body (12 - (out ++ [e]).length) (out ++ [e]) ((tb B).drop a2) = RI.body 12 [] (tb B))) ∨
      (∃ a2 : Nat, AFnK Tryd.prog 47 [.bx 0 0] [lrd B a] [0] (.tup [.agg ent0.enc, .one (vb false)]) [lrd B a2] ∧ r = failB) := by
    intro out a ha hlen hOk hI
    have hne : (tb B).drop a ≠ [] := fun h => by have := drop_nil.1 h; omega
    rcases reader_entry B a hBz (by omega) with ⟨e, a2, g1, g2, g3, g4⟩ | ⟨g1, a2, g2⟩
    · refine .inl ⟨e, a2, g4, fun h12 => k0 ?_, g3, fun h12 => ⟨fun x hx => ?_, ?_⟩⟩
      · rw [← hI, show 12 - out.length = 0 by omega, RIb_zero RI hne]
      · rcases List.mem_append.1 hx with hx | hx
        · exact hOk x hx
        · rw [List.mem_singleton.1 hx]
          exact RI.ent_Ok g1 (by rw [List.length_drop, tb_len]; unfold maxLen; omega)
      · rw [← hI, show 12 - out.length = (12 - (out ++ [e]).length) + 1 by simp; omega, RIb_step RI hne g1]
    · refine .inr ⟨a2, g2, k0 ?_⟩
      rw [← hI, RIb_bad RI hne g1]
  have hlast : ∀ (out : List Ent) (a : Nat), ¬ a < B.size → out.length ≤ 12 → RI.body (12 - out.length) out ((tb B).drop a) = RI.body 12 [] (tb B) → RI.body 12 [] (tb B) = some out := by
    intro out a ha hlen hI
    rw [drop_nil.2 (by omega), RIb_nil] at hI
    exact hI.symm
  refine AFnK.introX (E := En 1 md0) (en_ok 1 md0) Tryd.func30 rfl rfl rfl fun _ _ => ?_
  refine ACall.mk _ _ hR ?_
  refine Split.mk fun t h1 => ?_
  cases t
  case false => cases h1
  refine ACall.mk _ _ hT ?_
  refine Split.mk fun t h2 => ?_
  cases t
  case false => cases h2
  refine ACall.mk _ _ hT2 ?_
  refine Split.mk fun t h3 => ?_
  cases t
  case false => cases h3
  let S : List Ent → Nat → St := fun out a => ⟨some (.bx 0 0) :: none :: none :: none :: some (av (.int .i64 p)) :: none :: none :: some (av (.string B)) :: some (.bx 9 0) :: some (.one (.ref 10 0 (.cell 0))) :: List.replicate 69 none, ⟨0, 0, some [vs s, vi ((q + n + 1 : Nat) : Int)]⟩ :: absent :: absent :: absent :: absent :: absent :: absent :: absent :: absent :: ⟨0, 0, some [vs B, vi a]⟩ :: ⟨0, 1, some [.us 43 (out.map Ent.enc)]⟩ :: List.replicate 69 absent⟩
  refine ALoop.mk (fun m st => ∃ (out : List Ent) (a : Nat), (a ≤ B.size ∧ m = 13 - out.length ∧ out.length ≤ 12) ∧ OkE out ∧ RI.body (12 - out.length) out ((tb B).drop a) = RI.body 12 [] (tb B) ∧ st = S out a)
    ⟨_, _, Weak.trans (Weak.nrm [true, false, false, false, true, false, false, true, true, true] [(0, 0), (9, 9)] rfl rfl rfl) (Weak.nilOwn 9 10 43 rfl rfl hpos), [], 0, ⟨Nat.zero_le _, rfl, Nat.zero_le _⟩, (fun e he => nomatch he), rfl, rfl⟩ ?_
  rintro m st ⟨out, a, ⟨ha, rfl, hlen⟩, hOk, hI, hst⟩
  have hol : (out.map Ent.enc).length = out.length := List.length_map ..
  by_cases hlt : a < B.size
  · refine Or.elim (hround out a hlt hlen hOk hI) (fun hx => ?_) fun hx => ?_
    · refine Exists.elim hx fun e hx => ?_
      refine Exists.elim hx fun a2 hx => ?_
      have hE := hx.1
      by_cases h12 : out.length = 12
      · have hr := hx.2.1 h12
        clear hx hI hOk k0 k1 k2 k3 hround
        subst hr
        subst hst
        refine Split.mk fun t h1 => ?_
        cases t
        case false => (exfalso; rw [decide_eq_false_iff_not] at h1; omega)
        rw [decide_eq_true_iff] at h1
        refine ACall.mk _ _ hE ?_
        refine Split.mk fun t h2 => ?_
        cases t
        case false => cases h2
        refine Split.mk fun t h3 => ?_
        cases t
        case false => (exfalso; rw [decide_eq_false_iff_not] at h3; omega)
        rw [decide_eq_true_iff] at h3
        exact Need.mk ⟨[], _, .same, rfl, rfl⟩ trivial
      · have ha2 := hx.2.2.1
        have hOk2 := (hx.2.2.2 h12).1
        have hI2 := (hx.2.2.2 h12).2
        have hol2 : (out ++ [e]).length = out.length + 1 := by simp
        have hmap : out.map Ent.enc ++ [e.enc] = (out ++ [e]).map Ent.enc := by rw [List.map_append]; rfl
        clear hx hI hOk k0 k1 k2 k3 hround
        subst hst
        refine Split.mk fun t h1 => ?_
        cases t
        case false => (exfalso; rw [decide_eq_false_iff_not] at h1; omega)
        rw [decide_eq_true_iff] at h1
        refine ACall.mk _ _ hE ?_
        refine Split.mk fun t h2 => ?_
        cases t
        case false => cases h2
        refine Split.mk fun t h3 => ?_
        cases t
        case true => (exfalso; rw [decide_eq_true_iff] at h3; omega)
        rw [decide_eq_false_iff_not] at h3
        refine Need.mk (appEq (A' := _) (B' := [e.enc]) rfl rfl (by simp only [List.length_append, List.length_map, List.length_take, List.length_drop, List.length_cons, List.length_nil, List.length_reverse, List.length_replicate, List.length_set]; omega) (by decide)) ?_
        exact ⟨_, _, by omega, Weak.nrm [true, false, false, false, true, false, false, true, true, true] [(0, 0), (9, 9), (60, 10)] rfl rfl rfl, out ++ [e], a2, ⟨ha2, rfl, by omega⟩, hOk2, hI2, congrArg (fun R => (⟨some (.bx 0 0) :: none :: none :: none :: some (av (.int .i64 p)) :: none :: none :: some (av (.string B)) :: some (.bx 9 0) :: some (.one (.ref 10 0 (.cell 0))) :: List.replicate 69 none, ⟨0, 0, some [vs s, vi ((q + n + 1 : Nat) : Int)]⟩ :: absent :: absent :: absent :: absent :: absent :: absent :: absent :: absent :: ⟨0, 0, some [vs B, vi a2]⟩ :: ⟨0, 1, some [.us 43 R]⟩ :: List.replicate 69 absent⟩ : St)) hmap⟩
    · refine Exists.elim hx fun a2 hx => ?_
      have hE := hx.1
      have hr := hx.2
      clear hx hI hOk k0 k1 k2 k3 hround
      subst hr
      subst hst
      refine Split.mk fun t h1 => ?_
      cases t
      case false => (exfalso; rw [decide_eq_false_iff_not] at h1; omega)
      rw [decide_eq_true_iff] at h1
      refine ACall.mk _ _ hE ?_
      refine Split.mk fun t h2 => ?_
      cases t
      case true => cases h2
      exact Need.mk ⟨[], _, .same, rfl, rfl⟩ trivial
  · have hfin := hlast out a hlt hlen hI
    have hBk := impl_batchOk out hOk (by omega)
    have hFT := impl_FrameText out hOk (by omega)
    have hex : ∃ c, batOk out = c := ⟨_, rfl⟩
    refine Exists.elim hex fun c hc => ?_
    rw [hc] at hBk
    cases c with
    | false =>
      have hr := k1 out hfin hc
      clear hI hOk k0 k1 k2 k3 hround hlast hex
      subst hr
      subst hst
      refine Split.mk fun t h1 => ?_
      cases t
      case true => (exfalso; rw [decide_eq_true_iff] at h1; omega)
      rw [decide_eq_false_iff_not] at h1
      refine Fz.mk _ (frzE _) ?_
      refine ACall.mk _ _ hBk ?_
      refine Need.mk (⟨ClL.mem (.v .nil), no_objs⟩) ?_
      refine Split.mk fun t h2 => ?_
      cases t
      case true => cases h2
      refine Need.mk (rfl) ?_
      exact Need.mk ⟨[], _, .same, rfl, rfl⟩ trivial
    | true =>
      have hcs := Int.toNat_natCast p
      by_cases hcmp : bt (frameT out) = s.extract ((p : Int)).toNat (((q + n + 1 : Nat) : Int)).toNat
      · have hr := k3 out hfin hc hcmp
        clear hI hOk k0 k1 k2 k3 hround hlast hex
        subst hr
        subst hst
        refine Split.mk fun t h1 => ?_
        cases t
        case true => (exfalso; rw [decide_eq_true_iff] at h1; omega)
        rw [decide_eq_false_iff_not] at h1
        refine Fz.mk _ (frzE _) ?_
        refine ACall.mk _ _ hBk ?_
        refine Need.mk (⟨ClL.mem (.v .nil), no_objs⟩) ?_
        refine Split.mk fun t h2 => ?_
        cases t
        case false => cases h2
        refine Fz.mk _ (frzE _) ?_
        refine ACall.mk _ _ hFT ?_
        refine Need.mk (⟨ClL.mem (.v .nil), no_objs⟩) ?_
        refine Need.mk (by omega) ?_
        refine Split.mk fun t h3 => ?_
        cases t
        case true => (exfalso; rw [Bool.not_eq_true', bytes_beq, decide_eq_false_iff_not] at h3; exact absurd ‹_› h3)
        rw [Bool.not_eq_false', bytes_beq, decide_eq_true_iff] at h3
        refine Need.mk (rfl) ?_
        exact Need.mk ⟨[], _, .same, rfl, rfl⟩ trivial
      · have hr := k2 out hfin hc hcmp
        clear hI hOk k0 k1 k2 k3 hround hlast hex
        subst hr
        subst hst
        refine Split.mk fun t h1 => ?_
        cases t
        case true => (exfalso; rw [decide_eq_true_iff] at h1; omega)
        rw [decide_eq_false_iff_not] at h1
        refine Fz.mk _ (frzE _) ?_
        refine ACall.mk _ _ hBk ?_
        refine Need.mk (⟨ClL.mem (.v .nil), no_objs⟩) ?_
        refine Split.mk fun t h2 => ?_
        cases t
        case false => cases h2
        refine Fz.mk _ (frzE _) ?_
        refine ACall.mk _ _ hFT ?_
        refine Need.mk (⟨ClL.mem (.v .nil), no_objs⟩) ?_
        refine Need.mk (by omega) ?_
        refine Split.mk fun t h3 => ?_
        cases t
        case false => (exfalso; rw [Bool.not_eq_false', bytes_beq, decide_eq_true_iff] at h3; exact absurd h3 ‹_›)
        rw [Bool.not_eq_true', bytes_beq, decide_eq_false_iff_not] at h3
        refine Need.mk (rfl) ?_
        exact Need.mk ⟨[], _, .same, rfl, rfl⟩ trivial
theorem reader_batch (s : ByteArray) (p : Nat) (hs : s.size ≤ 1048576) (hp : p ≤ s.size) :
    (∃ (b : List Ent) (q : Nat), frameD ((tb s).drop p) = some (b, (tb s).drop q) ∧ p < q ∧ q ≤ s.size ∧ AFnK Tryd.prog 30 [.bx 0 0] [lrd s p] [0] (.tup [.one (.us 43 (b.map Ent.enc)), .one (vb true)]) [lrd s q]) ∨
    (frameD ((tb s).drop p) = none ∧ ∃ q : Nat, AFnK Tryd.prog 30 [.bx 0 0] [lrd s p] [0] failB [lrd s q]) := by
  have hex : ∃ x, numB s p = x := ⟨_, rfl⟩
  obtain ⟨⟨n, c, q⟩, hN⟩ := hex
  cases c with
  | false =>
    obtain ⟨g1, g2⟩ := numB_no hp hN
    subst g2
    exact .inr ⟨frameI_no g1, q, reader_batch1 s p hs hp q hN⟩
  | true =>
    obtain ⟨g1, hpq, hq, n1, n2⟩ := numB_ok hp hN
    by_cases hl : n < 0 ∨ (s.size : Int) - q < n
    · exact .inr ⟨frameI_cut hq g1 (by omega), q, reader_batch2 s p hs hp n q hN hq hl⟩
    · obtain ⟨m, rfl⟩ : ∃ m : Nat, n = m := ⟨n.toNat, by omega⟩
      by_cases he : q + m = s.size
      · exact .inr ⟨frameI_cut hq g1 (by omega), q + m, reader_batch3 s p hs hp m q hN he⟩
      · have hl2 : q + m + 1 ≤ s.size := by omega
        have hF := frameI_body hpq hl2 g1
        cases hB : RI.body 12 [] (tb (s.extract q (q + m))) with
        | none =>
          rw [hB, Option.bind_none] at hF
          exact .inr ⟨hF, _, reader_batchM s p hs hp m q hN hl2 hpq _ rfl failB (fun _ => rfl) (fun _ _ _ => rfl) (fun _ _ _ _ => rfl) (fun b hb => by rw [hB] at hb; cases hb)⟩
        | some b =>
          rw [hB, Option.bind_some] at hF
          by_cases hcmp : bt (frameT b) = s.extract p (q + m + 1)
          · rw [if_pos hcmp] at hF
            have hbt : batOk b = true := by
              cases hb : batOk b with
              | true => rfl
              | false => exact absurd hcmp (frameI_none hpq hl2 hb)
            refine .inl ⟨b, q + m + 1, hF, by omega, hl2, reader_batchM s p hs hp m q hN hl2 hpq _ rfl _ (fun h => ?_) (fun b' h1 h2 => ?_) (fun b' h1 _ h3 => ?_) (fun b' h1 _ _ => ?_)⟩
            · rw [hB] at h; cases h
            · rw [hB] at h1; injection h1 with h1; subst h1; rw [hbt] at h2; cases h2
            · rw [hB] at h1; injection h1 with h1; subst h1; exact absurd hcmp h3
            · rw [hB] at h1; injection h1 with h1; subst h1; rfl
          · rw [if_neg hcmp] at hF
            refine .inr ⟨hF, _, reader_batchM s p hs hp m q hN hl2 hpq _ rfl failB (fun _ => rfl) (fun _ _ _ => rfl) (fun _ _ _ _ => rfl) (fun b' h1 _ h3 => ?_)⟩
            rw [hB] at h1; injection h1 with h1; subst h1; exact absurd h3 hcmp
theorem impl_FrameRead (s : ByteArray) (hs : s.size ≤ 1048576) (R : List (List Ent)) (r : Bs) (hR : readD (tb s) = (R, r)) : AFn Tryd.prog 12 [av (.string s)] [] (.tup [.one (.us 25 (R.map encXO)), .one (vi ((s.size : Int) - r.length))]) [] := by
  have hpos : 0 < Tryd.prog.cellsOf 25 := pos_of tab_ok (t := 25) rfl
  have hround : ∀ (out : List (List Ent)) (p : Nat), p ≤ s.size → readD (tb s) = (out ++ (readD ((tb s).drop p)).1, (readD ((tb s).drop p)).2) →
      (∃ (b : List Ent) (q : Nat), AFnK Tryd.prog 30 [.bx 0 0] [lrd s p] [0] (.tup [.one (.us 43 (b.map Ent.enc)), .one (vb true)]) [lrd s q] ∧ p < q ∧ q ≤ s.size ∧ readD (tb s) = ((out ++ [b]) ++ (readD ((tb s).drop q)).1, (readD ((tb s).drop q)).2)) ∨
      (∃ q : Nat, AFnK Tryd.prog 30 [.bx 0 0] [lrd s p] [0] (.tup [.one (.v nilV), .one (vb false)]) [lrd s q] ∧ RV.tup [.one (.us 25 (out.map encXO)), .one (vi (p : Int))] = RV.tup [.one (.us 25 (R.map encXO)), .one (vi ((s.size : Int) - r.length))]) := by
    intro out p hp hI
    rcases reader_batch s p hs hp with ⟨b, q, g1, g2, g3, g4⟩ | ⟨g1, q, g2⟩
    · refine .inl ⟨b, q, g4, g2, g3, ?_⟩
      rw [hI, readD_some g1]
      simp
    · refine .inr ⟨q, g2, ?_⟩
      rw [readD_none g1, hR] at hI
      injection hI with e1 e2
      rw [List.append_nil] at e1
      rw [e1, e2, List.length_drop, tb_len, show (s.size : Int) - ((s.size - p : Nat) : Int) = p by omega]
  refine AFn.introX (E := En 0 md0) (en_ok 0 md0) Tryd.func12 rfl rfl rfl fun _ _ => ?_
  let S : List (List Ent) → Nat → St := fun out p => ⟨none :: none :: none :: none :: some (.bx 4 0) :: some (.one (.ref 5 0 (.cell 0))) :: List.replicate 19 none, absent :: absent :: absent :: absent :: ⟨0, 0, some [vs s, vi p]⟩ :: ⟨0, 1, some [.us 25 (out.map encXO)]⟩ :: List.replicate 19 absent⟩
  refine ALoop.mk (fun m st => ∃ (out : List (List Ent)) (p : Nat), (p ≤ s.size ∧ out.length ≤ p ∧ m = s.size - p) ∧ readD (tb s) = (out ++ (readD ((tb s).drop p)).1, (readD ((tb s).drop p)).2) ∧ st = S out p)
    ⟨_, _, Weak.trans (Weak.nrm [false, false, false, false, true, true] [(4, 4)] rfl rfl rfl) (Weak.nilOwn 5 5 25 rfl rfl hpos), [], 0, ⟨Nat.zero_le _, Nat.zero_le _, rfl⟩, rfl, rfl⟩ ?_
  rintro m st ⟨out, p, ⟨hp, hop, rfl⟩, hI, hst⟩
  have hol : (out.map encXO).length = out.length := List.length_map ..
  refine Or.elim (hround out p hp hI) (fun hx => ?_) fun hx => ?_
  · refine Exists.elim hx fun b hx => ?_
    refine Exists.elim hx fun q hx => ?_
    have hB := hx.1
    have h2 := hx.2.1
    have h3 := hx.2.2.1
    have hI2 := hx.2.2.2
    have hol2 : (out ++ [b]).length = out.length + 1 := by simp
    have hmap : out.map encXO ++ [encXO b] = (out ++ [b]).map encXO := by rw [List.map_append]; rfl
    clear hx hI hround
    subst hst
    refine ACall.mk _ _ hB ?_
    refine Split.mk fun t h1 => ?_
    cases t
    case false => cases h1
    refine Need.mk (appEq (A' := _) (B' := [encXO b]) rfl rfl (by simp only [List.length_append, List.length_map, List.length_take, List.length_drop, List.length_cons, List.length_nil, List.length_reverse, List.length_replicate, List.length_set]; omega) (by decide)) ?_
    exact ⟨_, _, by omega, Weak.nrm [false, false, false, false, true, true] [(4, 4), (24, 5)] rfl rfl rfl, out ++ [b], q, ⟨h3, by omega, rfl⟩, hI2, congrArg (fun R => (⟨none :: none :: none :: none :: some (.bx 4 0) :: some (.one (.ref 5 0 (.cell 0))) :: List.replicate 19 none, absent :: absent :: absent :: absent :: ⟨0, 0, some [vs s, vi q]⟩ :: ⟨0, 1, some [.us 25 R]⟩ :: List.replicate 19 absent⟩ : St)) hmap⟩
  · refine Exists.elim hx fun q hx => ?_
    have hB := hx.1
    have hres := hx.2
    clear hx hI hround
    subst hst
    refine ACall.mk _ _ hB ?_
    refine Split.mk fun t h1 => ?_
    cases t
    case true => cases h1
    exact Need.mk ⟨[], _, .same, hres, rfl⟩ trivial
theorem laws_markText (k : Nat) (hk : k ≤ 4611686018427387904) : AFn Tryd.prog 48 [av (.int .i64 k)] [] (.one (vs (markT k))) [] := by
  refine AFn.introX (E := En 0 md0) (en_ok 0 md0) Tryd.func48 rfl rfl rfl fun _ _ => ?_
  refine Split.mk fun t ht => ?_
  cases t
  · have h0 : 0 < k := by simp at ht; omega
    refine ALoop.mk (fun n s => ∃ (j : Nat) (out : ByteArray), n = j ∧ j + out.size ≤ 4611686018427387904 ∧ digs j out = digs k ⟨#[]⟩ ∧
      s = ⟨some (av (.int .i64 j)) :: none :: some (av (.string ⟨#[]⟩)) :: some (av (.string out)) :: List.replicate 16 none, List.replicate 20 absent⟩)
      ⟨k, _, Weak.nrm [true, false, true, true] [] rfl rfl rfl, k, ⟨#[]⟩, rfl, hk, rfl, rfl⟩ ?_
    rintro j s ⟨_, out, rfl, hb, hd, rfl⟩
    refine Split.mk fun t ht => ?_
    cases t
    · have hj : j = 0 := by simp at ht; omega
      subst hj
      refine Need.mk (strFits1 (by omega)) ?_
      refine Need.mk ⟨[], _, .same, ?_, rfl⟩ trivial
      have : markT k = ⟨#[109]⟩ ++ digs k ⟨#[]⟩ := by simp [markT]; omega
      rw [this, ← hd, digs_zero]; rfl
    · have hj : 0 < j := by simpa using ht
      refine Need.mk (by decide) ?_
      refine Num.mk ((48 + j % 10 : Nat) : Int) (by rw [show ((j : Int).tmod 10) = ((j % 10 : Nat) : Int) from rfl, wrapI] <;> omega) ?_
      refine Num.mk ((48 + j % 10 : Nat) : Int) (by rw [wrapU8] <;> omega) ?_
      refine Need.mk (strFits1 (by omega)) ?_
      refine Need.mk (by decide) ?_
      refine Num.mk ((j / 10 : Nat) : Int) (by rw [show ((j : Int).tdiv 10) = ((j / 10 : Nat) : Int) from rfl, wrapI] <;> omega) ?_
      refine ⟨j / 10, _, by omega, Weak.nrm [true, false, true, true] [] rfl rfl rfl, j / 10, dig j ++ out, rfl, ?_, ?_, rfl⟩
      · rw [ByteArray.size_append, show (dig j).size = 1 from rfl]; omega
      · rw [← digs_succ hj]; exact hd
  · have h0 : k = 0 := by simp at ht; omega
    subst h0
    exact Need.mk ⟨[], _, .same, rfl, rfl⟩ trivial
theorem laws_markEntryS (xs : List Ent) (k : Nat) (hk : k + 5 * xs.length ≤ 4611686018427387904) : AFn Tryd.prog 31 [.one (.ref 0 0 (.cell 0)), av (.int .i64 k)] [[.us 43 (xs.map Ent.enc)]] (.one (vi ((k + 5 * xs.length : Nat) : Int))) [[.us 43 ((markL k xs.length).map Ent.enc)]] := by
  refine AFn.introX (E := En 1 md0) (en_ok 1 md0) Tryd.func31 rfl rfl rfl fun _ _ => ?_
  let S : List (List C) → Nat → Nat → St := fun rows i m => ⟨some (.one (.ref 0 0 (.cell 0))) :: some (av (.int .i64 m)) :: none :: none :: none :: some (av (.int .i64 i)) :: List.replicate 44 none, ⟨0, 1, some [.us 43 rows]⟩ :: List.replicate 50 absent⟩
  refine ALoop.mk (fun n s => ∃ (i : Nat) (ys : List Ent), i ≤ xs.length ∧ n = xs.length - i ∧ ys.length = xs.length ∧ (∀ j : Nat, j < i → ys[j]? = some (markE (k + 5 * j))) ∧ s = S (ys.map Ent.enc) i (k + 5 * i))
    ⟨xs.length, _, Weak.nrm [true, true, false, false, false, true] [(0, 0)] rfl rfl rfl, 0, xs, Nat.zero_le _, rfl, rfl, by intro j hj; omega, rfl⟩ ?_
  rintro n s ⟨i, ys, hi, rfl, hl, hm, rfl⟩
  refine Split.mk fun t ht => ?_
  rw [List.length_map] at ht
  cases t
  · have hia : i = xs.length := by simp at ht; omega
    subst hia
    refine Need.mk ⟨[], _, .same, rfl, ?_⟩ trivial
    rw [← markL_of hl hm]; rfl
  · have hia : i < ys.length := by simpa using ht
    have hlen : i < (ys.map Ent.enc).length := by rw [List.length_map]; exact hia
    refine ACall.mk _ _ (laws_markText (k + 5 * i) (by omega)) ?_
    refine Need.mk ⟨by omega, by simpa using hia⟩ ?_
    refine Row.mk _ (map_get _ ys i hia) ?_
    refine Num.mk _ (wrapS (by omega)) ?_
    refine Need.mk ⟨by omega, by simpa using hia⟩ ?_
    refine Row.mk _ (set_get _ _ _ hlen) ?_
    refine Num.mk _ (wrapS (by omega)) ?_
    refine Need.mk ⟨by omega, by simpa using hia⟩ ?_
    refine Row.mk _ (set_get _ _ _ (by simpa using hia)) ?_
    refine Num.mk _ (wrapS (by omega)) ?_
    refine ACall.mk _ _ (laws_markText (k + 5 * i + 1 + 1 + 1) (by omega)) ?_
    refine Need.mk ⟨by omega, by simpa using hia⟩ ?_
    refine Row.mk _ (set_get _ _ _ (by simpa using hia)) ?_
    refine Num.mk _ (wrapS (by omega)) ?_
    refine Need.mk ⟨by omega, by simpa using hia⟩ ?_
    refine Row.mk _ (set_get _ _ _ (by simpa using hia)) ?_
    refine Num.mk _ (wrapS (by omega)) ?_
    refine Num.mk _ (wrapS (by omega)) ?_
    refine ⟨xs.length - (i + 1), _, by omega, Weak.nrm [true, true, false, false, false, true] [(0, 0)] rfl rfl rfl, i + 1, ys.set i (markE (k + 5 * i)), by omega, rfl, by simpa using hl, fun j hj => ?_, ?_⟩
    · by_cases hji : j = i
      · subst hji; exact List.getElem?_set_self hia
      · rw [List.getElem?_set_ne (Ne.symm hji)]; exact hm j (by omega)
    · refine Eq.trans (b := S ((((((ys.map Ent.enc).set i _).set i _).set i _).set i _).set i (markE (k + 5 * i)).enc) (i + 1) (k + 5 * i + 1 + 1 + 1 + 1 + 1)) rfl ?_
      simp only [List.set_set, List.map_set]
      rfl
theorem laws_heldEntryS (k n : Nat) (hk : k + 5 * n ≤ 4611686018427387904) : AFn Tryd.prog 32 [sl ((markL k n).map Ent.enc), av (.int .i64 k)] [] (.one (vi ((k + 5 * n : Nat) : Int))) [] := by
  refine AFn.introX (E := En 0 md0) (en_ok 0 md0) Tryd.func32 rfl rfl rfl fun _ _ => ?_
  have hn : ((markL k n).map Ent.enc).length = n := by rw [List.length_map, markL_len]
  refine ALoop.mk (fun m s => ∃ i : Nat, i ≤ n ∧ m = n - i ∧
      s = ⟨some (sl ((markL k n).map Ent.enc)) :: some (av (.int .i64 ((k + 5 * i : Nat) : Int))) :: none :: none :: none :: some (av (.int .i64 i)) :: List.replicate 54 none, List.replicate 60 absent⟩)
    ⟨n, _, Weak.nrm [true, true, false, false, false, true] [] rfl rfl rfl, 0, Nat.zero_le _, rfl, rfl⟩ ?_
  rintro m s ⟨i, hi, rfl, rfl⟩
  refine Split.mk fun t ht => ?_
  rw [hn] at ht
  cases t
  · have hin : i = n := by simp at ht; omega
    subst hin
    exact Need.mk ⟨[], _, .same, rfl, rfl⟩ trivial
  · have hin : i < n := by simpa using ht
    have hget : ((markL k n).map Ent.enc)[i]? = some (markE (k + 5 * i)).enc := by rw [List.getElem?_map, markL_get hin]; rfl
    refine Need.mk (by omega) ?_
    refine Row.mk _ hget ?_
    refine ACall.mk _ _ (laws_markText (k + 5 * i) (by omega)) ?_
    refine Split.mk fun t ht => ?_
    rw [bytes_beq] at ht
    cases t
    · refine Need.mk rfl ?_
      refine Num.mk _ (wrapS (by omega)) ?_
      refine Need.mk (by omega) ?_
      refine Row.mk _ hget ?_
      refine Split.mk fun t ht => ?_
      cases t
      · refine Num.mk _ (wrapS (by omega)) ?_
        refine Need.mk (by omega) ?_
        refine Row.mk _ hget ?_
        refine Split.mk fun t ht => ?_
        cases t
        · refine Num.mk _ (wrapS (by omega)) ?_
          refine Need.mk (by omega) ?_
          refine Row.mk _ hget ?_
          refine ACall.mk _ _ (laws_markText (k + 5 * i + 1 + 1 + 1) (by omega)) ?_
          refine Split.mk fun t ht => ?_
          rw [bytes_beq] at ht
          cases t
          · refine Need.mk rfl ?_
            refine Num.mk _ (wrapS (by omega)) ?_
            refine Need.mk (by omega) ?_
            refine Row.mk _ hget ?_
            refine Split.mk fun t ht => ?_
            cases t
            · refine Num.mk _ (wrapS (by omega)) ?_
              refine Num.mk _ (wrapS (by omega)) ?_
              exact ⟨n - (i + 1), _, by omega, Weak.nrm [true, true, false, false, false, true] [] rfl rfl rfl, i + 1, by omega, rfl, rfl⟩
            · simp [markE] at ht <;> omega
          · simp [markE] at ht <;> omega
        · simp [markE] at ht <;> omega
      · simp [markE] at ht <;> omega
    · simp [markE] at ht <;> omega
theorem laws_szEntry (e : Ent) (left : Nat) (he : e.Ok) (hl : left ≤ 1048576) : AFn Tryd.prog 19 [.agg (e.enc.map .c), av (.int .i64 left)] [] (.one (vi (cut e.size left))) [] := by
  refine AFn.introX (E := En 0 md0) (en_ok 0 md0) Tryd.func19 rfl rfl rfl fun _ _ => ?_
  obtain ⟨h1, h2⟩ := he
  have he : e.size = e.key.size + e.text.size := rfl
  unfold maxLen at h1 h2
  have fin : ∀ {z : Int}, z = cut e.size left → RV.one (vi z) = RV.one (vi (cut e.size left)) := fun h => by rw [h]
  refine Num.mk ((left : Int) - e.key.size) (by rw [IntKind.wrap_i64]; omega) ?_
  refine Split.mk fun t ht => ?_
  cases t
  · have h3 : e.key.size ≤ left := by simp at ht; omega
    refine Num.mk ((left : Int) - e.key.size - e.text.size) (by rw [IntKind.wrap_i64]; omega) ?_
    refine Split.mk fun t ht => ?_
    cases t
    · have h4 : e.size ≤ left := by simp at ht; omega
      exact Need.mk ⟨[], _, .same, fin (by rw [cut_pos h4]; omega), rfl⟩ trivial
    · have h4 : ¬ e.size ≤ left := by simp at ht; omega
      exact Need.mk ⟨[], _, .same, fin (by rw [cut_neg h4]), rfl⟩ trivial
  · have h4 : ¬ e.size ≤ left := by simp at ht; omega
    exact Need.mk ⟨[], _, .same, fin (by rw [cut_neg h4]), rfl⟩ trivial
theorem laws_szEntryS (xs : List Ent) (left : Nat) (he : OkE xs) (hl : left ≤ 1048576) : AFn Tryd.prog 6 [sl (xs.map Ent.enc), av (.int .i64 left)] [] (.one (vi (cut (sizeE xs) left))) [] := by
  refine AFn.introX (E := En 0 md0) (en_ok 0 md0) Tryd.func6 rfl rfl rfl fun hs _ => ?_
  have hn : (xs.map Ent.enc).length = xs.length := List.length_map ..
  have hx := Small.len (hs _ (List.mem_cons_self ..))
  rw [hn] at hx
  have hz : sizeE xs = xs.length + (xs.map Ent.size).sum := rfl
  have fin : ∀ {z : Int}, z = cut (sizeE xs) left → RV.one (vi z) = RV.one (vi (cut (sizeE xs) left)) := fun h => by rw [h]
  refine Num.mk ((left : Int) - xs.length) (by rw [hn, IntKind.wrap_i64]; omega) ?_
  refine Split.mk fun t ht => ?_
  cases t
  · have h3 : xs.length ≤ left := by simp at ht; omega
    refine ALoop.mk (fun m s => ∃ (i r : Nat), i ≤ xs.length ∧ m = xs.length - i ∧ xs.length + ((xs.take i).map Ent.size).sum + r = left ∧
        s = ⟨some (sl (xs.map Ent.enc)) :: some (av (.int .i64 r)) :: none :: none :: none :: some (av (.int .i64 i)) :: List.replicate 21 none, List.replicate 27 absent⟩)
      ⟨xs.length, _, Weak.nrm [true, true, false, false, false, true] [] rfl rfl rfl, 0, left - xs.length, Nat.zero_le _, rfl, by simp; omega, ?_⟩ ?_
    · rw [show ((left - xs.length : Nat) : Int) = (left : Int) - xs.length by omega]; rfl
    rintro m s ⟨i, r, hi, rfl, hr, rfl⟩
    refine Split.mk fun t ht => ?_
    rw [hn] at ht
    cases t
    · have hin : i = xs.length := by simp at ht; omega
      subst hin
      rw [List.take_length] at hr
      exact Need.mk ⟨[], _, .same, fin (by rw [cut_pos (by omega)]; omega), rfl⟩ trivial
    · have hia : i < xs.length := by simpa using ht
      have hsum := sum_take Ent.size xs hia
      have hle := sum_take_le Ent.size xs (i + 1)
      refine Need.mk (by omega) ?_
      refine Row.mk _ (map_get _ xs i hia) ?_
      refine ACall.mk _ _ (laws_szEntry xs[i] r (he _ (List.getElem_mem _)) (by omega)) ?_
      refine Split.mk fun t ht => ?_
      rw [cut_lt] at ht
      cases t
      · have h4 : xs[i].size ≤ r := by simpa using ht
        refine Num.mk _ (wrapS (by omega)) ?_
        refine ⟨xs.length - (i + 1), _, by omega, Weak.nrm [true, true, false, false, false, true] [] rfl rfl rfl, i + 1, r - xs[i].size, by omega, rfl, by omega, ?_⟩
        rw [← cut_pos h4]; rfl
      · have h4 : ¬ xs[i].size ≤ r := by simpa using ht
        exact Need.mk ⟨[], _, .same, fin (by rw [cut_neg (by omega)]), rfl⟩ trivial
  · have h4 : ¬ sizeE xs ≤ left := by simp at ht; omega
    exact Need.mk ⟨[], _, .same, fin (by rw [cut_neg h4]), rfl⟩ trivial
theorem laws_toEntry (e : Ent) : AFn Tryd.prog 22 [.agg (e.enc.map .c)] [] (.agg e.enc) [] := by
  refine AFn.introX (E := En 0 md0) (en_ok 0 md0) Tryd.func22 rfl rfl rfl fun _ _ => ?_
  exact Need.mk ⟨[], _, .same, rfl, rfl⟩ trivial
theorem laws_toEntryS (xs : List Ent) (hx : xs.length ≤ 1048576) : AFn Tryd.prog 8 [sl (xs.map Ent.enc)] [] (.one (.us 43 (xs.map Ent.enc))) [] := by
  refine AFn.introX (E := En 0 md0) (en_ok 0 md0) Tryd.func8 rfl rfl rfl fun _ _ => ?_
  have hn : (xs.map Ent.enc).length = xs.length := List.length_map ..
  refine Need.mk ⟨by omega, by omega, by simp only [hn]; omega, by omega⟩ ?_
  let S : List (List C) → Nat → St := fun rows i => ⟨some (sl (xs.map Ent.enc)) :: none :: none :: some (.one (.ref 3 0 (.cell 0))) :: some (av (.int .i64 i)) :: List.replicate 18 none, absent :: absent :: absent :: ⟨0, 1, some [.us 43 rows]⟩ :: List.replicate 19 absent⟩
  refine ALoop.mk (fun m s => ∃ i : Nat, i ≤ xs.length ∧ m = xs.length - i ∧ s = S ((xs.take i ++ List.replicate (xs.length - i) ent0).map Ent.enc) i)
    ⟨xs.length, _, Weak.nrm [true, false, false, true, true] [(7, 3)] rfl rfl rfl, 0, Nat.zero_le _, rfl, ?_⟩ ?_
  · refine Eq.trans (b := S (List.replicate (xs.map Ent.enc).length (Ent.enc ent0)) 0) rfl ?_
    rw [hn, List.take_zero, List.nil_append, List.map_replicate, Nat.sub_zero]
  rintro m s ⟨i, hi, rfl, rfl⟩
  refine Split.mk fun t ht => ?_
  rw [hn] at ht
  cases t
  · have hin : i = xs.length := by simp at ht; omega
    subst hin
    refine Need.mk ⟨[], _, .same, ?_, rfl⟩ trivial
    rw [List.take_length, Nat.sub_self, List.replicate_zero, List.append_nil]; rfl
  · have hia : i < xs.length := by simpa using ht
    refine Need.mk (by omega) ?_
    refine Row.mk _ (map_get _ xs i hia) ?_
    refine ACall.mk _ _ (laws_toEntry xs[i]) ?_
    refine Need.mk ⟨by omega, by rw [List.length_map, to_len _ _ hi]; omega⟩ ?_
    refine Row.mk _ (to_get _ xs ent0 hia) ?_
    refine Num.mk _ (wrapS (by omega)) ?_
    refine ⟨xs.length - (i + 1), _, by omega, Weak.nrm [true, false, false, true, true] [(3, 3)] rfl rfl rfl, i + 1, by omega, rfl, ?_⟩
    refine Eq.trans (b := S (((xs.take i ++ List.replicate (xs.length - i) ent0).map Ent.enc).set i (Ent.enc xs[i])) (i + 1)) rfl ?_
    rw [← List.map_set, to_step xs ent0 hia]
theorem laws_eqEntry (a b : Ent) : AFn Tryd.prog 28 [.agg (a.enc.map .c), .agg (b.enc.map .c)] [] (rb (decide (a = b))) [] := by
  refine AFn.introX (E := En 0 md0) (en_ok 0 md0) Tryd.func28 rfl rfl rfl fun _ _ => ?_
  have fin : ∀ {c : Bool}, c = decide (a = b) → rb c = rb (decide (a = b)) := fun h => by rw [h]
  refine Split.mk fun t ht => ?_
  rw [bytes_beq] at ht
  cases t
  · refine Split.mk fun t ht1 => ?_
    cases t
    · refine Split.mk fun t ht2 => ?_
      cases t
      · refine Split.mk fun t ht3 => ?_
        rw [bytes_beq] at ht3
        cases t
        · refine Split.mk fun t ht4 => ?_
          cases t
          · exact Need.mk ⟨[], _, .same, fin (by cases a; cases b; simp_all), rfl⟩ trivial
          · exact Need.mk ⟨[], _, .same, fin (by cases a; cases b; simp_all), rfl⟩ trivial
        · exact Need.mk ⟨[], _, .same, fin (by cases a; cases b; simp_all), rfl⟩ trivial
      · exact Need.mk ⟨[], _, .same, fin (by cases a; cases b; simp_all), rfl⟩ trivial
    · exact Need.mk ⟨[], _, .same, fin (by cases a; cases b; simp_all), rfl⟩ trivial
  · exact Need.mk ⟨[], _, .same, fin (by cases a; cases b; simp_all), rfl⟩ trivial
theorem laws_eqEntryS (a b : List Ent) : AFn Tryd.prog 10 [sl (a.map Ent.enc), sl (b.map Ent.enc)] [] (rb (decide (a = b))) [] := by
  refine AFn.introX (E := En 0 md0) (en_ok 0 md0) Tryd.func10 rfl rfl rfl fun hs _ => ?_
  have ha := Small.len (hs _ (List.mem_cons_self ..))
  rw [List.length_map] at ha
  have fin : ∀ {c : Bool}, c = decide (a = b) → rb c = rb (decide (a = b)) := fun h => by rw [h]
  refine Split.mk fun t ht => ?_
  cases t
  · have hl : a.length = b.length := Int.ofNat_inj.1 (by simpa using ht)
    refine ALoop.mk (fun n s => ∃ i : Nat, i ≤ a.length ∧ n = a.length - i ∧ a.take i = b.take i ∧
      s = ⟨some (sl (a.map Ent.enc)) :: some (sl (b.map Ent.enc)) :: none :: none :: some (av (.bool false)) :: some (av (.int .i64 i)) :: List.replicate 21 none, List.replicate 27 absent⟩)
      ⟨a.length, _, Weak.nrm [true, true, false, false, true, true] [] rfl rfl rfl, 0, Nat.zero_le _, rfl, rfl, rfl⟩ ?_
    rintro n s ⟨i, hi, rfl, hp, rfl⟩
    refine Split.mk fun t ht => ?_
    cases t
    · have hia : i = a.length := by simp at ht; omega
      refine Need.mk ⟨[], _, .same, fin ?_, rfl⟩ trivial
      subst hia
      rw [List.take_length, hl, List.take_length] at hp
      simp [hp]
    · have hia : i < a.length := by simpa using ht
      refine Need.mk (by omega) ?_
      refine Row.mk _ (map_get _ a i hia) ?_
      refine Need.mk (by omega) ?_
      refine Row.mk _ (map_get _ b i (by omega)) ?_
      refine ACall.mk _ _ (laws_eqEntry a[i] (b[i]'(by omega))) ?_
      refine Split.mk fun t ht2 => ?_
      cases t
      · refine Need.mk rfl ?_
        refine Need.mk ⟨[], _, .same, fin ?_, rfl⟩ trivial
        have : a[i] ≠ b[i]'(by omega) := by simpa using ht2
        refine (decide_eq_false fun e => this ?_).symm
        subst e; rfl
      · refine Need.mk rfl ?_
        refine Num.mk _ (wrapS (by omega)) ?_
        refine ⟨a.length - (i + 1), _, by omega, Weak.nrm [true, true, false, false, true, true] [] rfl rfl rfl, i + 1, by omega, rfl, ?_, rfl⟩
        have : a[i] = b[i]'(by omega) := by simpa using ht2
        rw [List.take_succ_eq_append_getElem hia, List.take_succ_eq_append_getElem (by omega), hp, this]
  · refine Need.mk ⟨[], _, .same, fin ?_, rfl⟩ trivial
    have : a.length ≠ b.length := by
      intro e; simp [e] at ht
    exact (decide_eq_false fun e => this (by rw [e])).symm
theorem laws_eqEntrySS (a b : List (List Ent)) : AFn Tryd.prog 13 [sl (a.map encX), sl (b.map encX)] [] (rb (decide (a = b))) [] := by
  refine AFn.introX (E := En 0 md0) (en_ok 0 md0) Tryd.func13 rfl rfl rfl fun hs _ => ?_
  have ha := Small.len (hs _ (List.mem_cons_self ..))
  rw [List.length_map] at ha
  have fin : ∀ {c : Bool}, c = decide (a = b) → rb c = rb (decide (a = b)) := fun h => by rw [h]
  refine Split.mk fun t ht => ?_
  cases t
  · have hl : a.length = b.length := Int.ofNat_inj.1 (by simpa using ht)
    refine ALoop.mk (fun n s => ∃ i : Nat, i ≤ a.length ∧ n = a.length - i ∧ a.take i = b.take i ∧
      s = ⟨some (sl (a.map encX)) :: some (sl (b.map encX)) :: none :: none :: some (av (.bool false)) :: some (av (.int .i64 i)) :: List.replicate 21 none, List.replicate 27 absent⟩)
      ⟨a.length, _, Weak.nrm [true, true, false, false, true, true] [] rfl rfl rfl, 0, Nat.zero_le _, rfl, rfl, rfl⟩ ?_
    rintro n s ⟨i, hi, rfl, hp, rfl⟩
    refine Split.mk fun t ht => ?_
    cases t
    · have hia : i = a.length := by simp at ht; omega
      refine Need.mk ⟨[], _, .same, fin ?_, rfl⟩ trivial
      subst hia
      rw [List.take_length, hl, List.take_length] at hp
      simp [hp]
    · have hia : i < a.length := by simpa using ht
      refine Need.mk (by omega) ?_
      refine Row.mk _ (map_get _ a i hia) ?_
      refine Need.mk (by omega) ?_
      refine Row.mk _ (map_get _ b i (by omega)) ?_
      refine ACall.mk _ _ (laws_eqEntryS a[i] (b[i]'(by omega))) ?_
      refine Split.mk fun t ht2 => ?_
      cases t
      · refine Need.mk rfl ?_
        refine Need.mk ⟨[], _, .same, fin ?_, rfl⟩ trivial
        have : a[i] ≠ b[i]'(by omega) := by simpa using ht2
        refine (decide_eq_false fun e => this ?_).symm
        subst e; rfl
      · refine Need.mk rfl ?_
        refine Num.mk _ (wrapS (by omega)) ?_
        refine ⟨a.length - (i + 1), _, by omega, Weak.nrm [true, true, false, false, true, true] [] rfl rfl rfl, i + 1, by omega, rfl, ?_, rfl⟩
        have : a[i] = b[i]'(by omega) := by simpa using ht2
        rw [List.take_succ_eq_append_getElem hia, List.take_succ_eq_append_getElem (by omega), hp, this]
  · refine Need.mk ⟨[], _, .same, fin ?_, rfl⟩ trivial
    have : a.length ≠ b.length := by
      intro e; simp [e] at ht
    exact (decide_eq_false fun e => this (by rw [e])).symm
theorem laws_markEntrySS (xs : List (List Ent)) (k : Nat) (hk : posX k xs ≤ 4611686018427387904) : AFn Tryd.prog 14 [.one (.ref 0 0 (.cell 0)), av (.int .i64 k)] [[.us 25 (xs.map encXO)]] (.one (vi (posX k xs : Nat))) [[.us 25 ((mkXs k xs).map encXO)]] := by
  refine AFn.introX (E := En 1 (md1 [31])) (en_ok 1 _) Tryd.func14 rfl rfl rfl fun _ hs => ?_
  have hxl := Small.lenU (hs _ (List.mem_cons_self ..) _ (List.mem_cons_self ..))
  rw [List.length_map] at hxl
  let S : List (List C) → Nat → Nat → St := fun rows i m => ⟨some (.one (.ref 0 0 (.cell 0))) :: some (av (.int .i64 m)) :: none :: none :: none :: some (av (.int .i64 i)) :: List.replicate 13 none, ⟨0, 1, some [.us 25 rows]⟩ :: List.replicate 19 absent⟩
  refine ALoop.mk (fun n s => ∃ i : Nat, i ≤ xs.length ∧ n = xs.length - i ∧ s = S ((mkXs k (xs.take i) ++ xs.drop i).map encXO) i (posX k (xs.take i)))
    ⟨xs.length, _, Weak.nrm [true, true, false, false, false, true] [(0, 0)] rfl rfl rfl, 0, Nat.zero_le _, rfl, rfl⟩ ?_
  rintro n s ⟨i, hi, rfl, rfl⟩
  have hlen : (mkXs k (xs.take i) ++ xs.drop i).length = xs.length := by rw [List.length_append, mkXs_len, List.length_take, List.length_drop]; omega
  refine Split.mk fun t ht => ?_
  rw [List.length_map, hlen] at ht
  cases t
  · have hia : i = xs.length := by simp at ht; omega
    subst hia
    refine Need.mk ⟨[], _, .same, ?_, ?_⟩ trivial
    · rw [List.take_length]; rfl
    · rw [List.take_length, List.drop_length, List.append_nil]; rfl
  · have hia : i < xs.length := by simpa using ht
    have hget : (mkXs k (xs.take i) ++ xs.drop i)[i]? = some xs[i] := by
      rw [List.getElem?_append_right (by rw [mkXs_len, List.length_take]; omega), mkXs_len, List.length_take, Nat.min_eq_left (by omega), Nat.sub_self, List.getElem?_drop, Nat.add_zero, List.getElem?_eq_getElem hia]
    have hpos : posX k (xs.take (i + 1)) = stepX (posX k (xs.take i)) xs[i] := by rw [List.take_succ_eq_append_getElem hia, posX_app]; rfl
    have hle : posX k (xs.take (i + 1)) ≤ 4611686018427387904 := by
      have : posX k xs = posX (posX k (xs.take (i + 1))) (xs.drop (i + 1)) := by rw [← posX_app, List.take_append_drop]
      have h2 := posX_le (xs.drop (i + 1)) (posX k (xs.take (i + 1)))
      omega
    have hrow : ((mkXs k (xs.take i) ++ xs.drop i).map encXO)[i]? = some (encXO xs[i]) := by rw [List.getElem?_map, hget]; rfl
    have hlt : i < ((mkXs k (xs.take i) ++ xs.drop i).map encXO).length := by rw [List.length_map, hlen]; exact hia
    refine Need.mk ⟨by omega, by omega⟩ ?_
    refine Row.mk _ hrow ?_
    refine Row.mk _ hrow ?_
    refine ACall.mk _ _ (laws_markEntryS xs[i] (posX k (xs.take i)) (by rw [hpos] at hle; exact hle)) ?_
    refine Row.mk _ hrow ?_
    refine Num.mk _ (wrapS (by omega)) ?_
    refine ⟨xs.length - (i + 1), _, by omega, Weak.nrm [true, true, false, false, false, true] [(0, 0)] rfl rfl rfl, i + 1, by omega, rfl, ?_⟩
    refine Eq.trans (b := S (((mkXs k (xs.take i) ++ xs.drop i).map encXO).set i (encXO (mkX (posX k (xs.take i)) xs[i]))) (i + 1) (stepX (posX k (xs.take i)) xs[i])) rfl ?_
    rw [hpos, ← List.map_set, mkXs_step hia]
theorem laws_heldEntrySS (xs : List (List Ent)) (k : Nat) (hk : posX k xs ≤ 4611686018427387904) : AFn Tryd.prog 15 [sl ((mkXs k xs).map encX), av (.int .i64 k)] [] (.one (vi (posX k xs : Nat))) [] := by
  refine AFn.introX (E := En 0 md0) (en_ok 0 md0) Tryd.func15 rfl rfl rfl fun hs _ => ?_
  have hn : ((mkXs k xs).map encX).length = xs.length := by rw [List.length_map, mkXs_len]
  have hxl := Small.len (hs _ (List.mem_cons_self ..))
  rw [hn] at hxl
  refine ALoop.mk (fun m s => ∃ i : Nat, i ≤ xs.length ∧ m = xs.length - i ∧
      s = ⟨some (sl ((mkXs k xs).map encX)) :: some (av (.int .i64 ((posX k (xs.take i) : Nat) : Int))) :: none :: none :: none :: some (av (.int .i64 i)) :: List.replicate 15 none, List.replicate 21 absent⟩)
    ⟨xs.length, _, Weak.nrm [true, true, false, false, false, true] [] rfl rfl rfl, 0, Nat.zero_le _, rfl, rfl⟩ ?_
  rintro m s ⟨i, hi, rfl, rfl⟩
  refine Split.mk fun t ht => ?_
  rw [hn] at ht
  cases t
  · have hin : i = xs.length := by simp at ht; omega
    subst hin
    refine Need.mk ⟨[], _, .same, ?_, rfl⟩ trivial
    rw [List.take_length]; rfl
  · have hia : i < xs.length := by simpa using ht
    have hpos : posX k (xs.take (i + 1)) = posX k (xs.take i) + 5 * xs[i].length := by rw [List.take_succ_eq_append_getElem hia, posX_app]; rfl
    have hle : posX k (xs.take (i + 1)) ≤ 4611686018427387904 := by
      have : posX k xs = posX (posX k (xs.take (i + 1))) (xs.drop (i + 1)) := by rw [← posX_app, List.take_append_drop]
      have h2 := posX_le (xs.drop (i + 1)) (posX k (xs.take (i + 1)))
      omega
    have hget : ((mkXs k xs).map encX)[i]? = some (encX (mkX (posX k (xs.take i)) xs[i])) := by
      have h1 : mkXs k xs = mkXs k (xs.take i) ++ mkXs (posX k (xs.take i)) (xs.drop i) := by rw [← mkXs_app, List.take_append_drop]
      rw [List.getElem?_map, h1, List.getElem?_append_right (by rw [mkXs_len, List.length_take]; omega), mkXs_len, List.length_take, Nat.min_eq_left (by omega), Nat.sub_self, List.drop_eq_getElem_cons hia]
      rfl
    refine Need.mk (by omega) ?_
    refine Row.mk _ hget ?_
    refine ACall.mk _ _ (laws_heldEntryS (posX k (xs.take i)) xs[i].length (by omega)) ?_
    refine Split.mk fun t ht => ?_
    cases t
    · refine Num.mk _ (wrapS (by omega)) ?_
      refine ⟨xs.length - (i + 1), _, by omega, Weak.nrm [true, true, false, false, false, true] [] rfl rfl rfl, i + 1, by omega, rfl, ?_⟩
      rw [hpos]; rfl
    · simp at ht <;> omega
theorem laws_FnExactFrameRead (s : ByteArray) : AFn Tryd.prog 4 [av (.string s)] [] (rb true) [] := by
  by_cases hs : 1048576 < s.size
  · refine AFn.introX (E := En 0 (md1 [14])) (en_ok 0 _) Tryd.func4 rfl rfl rfl fun _ _ => ?_
    refine Split.mk fun t h1 => ?_
    cases t
    case false => (exfalso; rw [decide_eq_false_iff_not] at h1; omega)
    rw [decide_eq_true_iff] at h1
    exact Need.mk ⟨[], _, .same, rfl, rfl⟩ trivial
  · have hs2 : s.size ≤ 1048576 := by omega
    have hex : ∃ x, readD (tb s) = x := ⟨_, rfl⟩
    obtain ⟨⟨R, r⟩, hR⟩ := hex
    obtain ⟨e1, e2, e3, e4⟩ := readD_ents hR
    rw [tb_len] at e1 e2 e3
    have hS := spec_FrameRead s hs2 R r hR
    have hI := impl_FrameRead s hs2 R r hR
    have hQ := laws_eqEntrySS R R
    rw [decide_eq_true rfl] at hQ
    have hpx : posX 1 R ≤ 4611686018427387904 := by rw [posX_eq]; omega
    have hM := laws_markEntrySS R 1 hpx
    have hH := laws_heldEntrySS R 1 hpx
    clear e1 e2 e3 e4 hR
    generalize (s.size : Int) - r.length = z at hS hI
    refine AFn.introX (E := En 0 (md1 [14])) (en_ok 0 _) Tryd.func4 rfl rfl rfl fun _ _ => ?_
    refine Split.mk fun t h1 => ?_
    cases t
    case true => (exfalso; rw [decide_eq_true_iff] at h1; omega)
    rw [decide_eq_false_iff_not] at h1
    refine ACall.mk _ _ hS ?_
    refine ACall.mk _ _ hI ?_
    refine Fz.mk _ (frzX _) ?_
    refine Fz.mk _ (frzX _) ?_
    refine ACall.mk _ _ hQ ?_
    refine Need.mk (⟨ClL.mem (.v .nil), no_objs⟩) ?_
    refine Split.mk fun t h2 => ?_
    cases t
    case false => cases h2
    refine Split.mk fun t h3 => ?_
    cases t
    case true => (exfalso; rw [bne_iff_ne] at h3; omega)
    rw [bne_eq_false_iff_eq] at h3
    refine ACall.mk _ _ hM ?_
    refine Fz.mk _ (frzX _) ?_
    refine ACall.mk _ _ hH ?_
    refine Need.mk (⟨ClL.mem (.v .nil), no_objs⟩) ?_
    refine Split.mk fun t h4 => ?_
    cases t
    case true => cases h4
    refine Split.mk fun t h5 => ?_
    cases t
    case true => (exfalso; rw [bne_iff_ne] at h5; omega)
    rw [bne_eq_false_iff_eq] at h5
    refine ACall.mk _ _ hI ?_
    refine Fz.mk _ (frzX _) ?_
    refine Fz.mk _ (frzX _) ?_
    refine ACall.mk _ _ hQ ?_
    refine Need.mk (⟨ClL.mem (.v .nil), no_objs⟩) ?_
    refine Split.mk fun t h6 => ?_
    cases t
    case false => cases h6
    refine Split.mk fun t h7 => ?_
    cases t
    case true => (exfalso; rw [bne_iff_ne] at h7; omega)
    rw [bne_eq_false_iff_eq] at h7
    refine Fz.mk _ (frzX _) ?_
    refine ACall.mk _ _ hH ?_
    refine Need.mk (⟨ClL.mem (.v .nil), no_objs⟩) ?_
    refine Split.mk fun t h8 => ?_
    cases t
    case true => cases h8
    refine Split.mk fun t h9 => ?_
    cases t
    case true => (exfalso; rw [bne_iff_ne] at h9; omega)
    rw [bne_eq_false_iff_eq] at h9
    exact Need.mk ⟨[], _, .same, rfl, rfl⟩ trivial
theorem laws_FnExactFrameRead_any (c0 : C) (h0 : Sh .str c0) : AFn Tryd.prog 4 [.one (.c c0)] [] (rb true) [] := by
  obtain ⟨k, rfl, wk⟩ := h0.str'
  exact laws_FnExactFrameRead k
end Go.Proofs.YtncnajcpoacdjaaDoor
