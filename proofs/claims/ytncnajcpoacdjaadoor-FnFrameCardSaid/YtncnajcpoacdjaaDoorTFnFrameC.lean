/-
  Contracts of functions, part 3.
-/
import Derived.Test.YtncnajcpoacdjaaDoorTFnFrameB
set_option linter.unusedVariables false
set_option linter.unusedSimpArgs false
namespace Go.Proofs.YtncnajcpoacdjaaDoor
open Go Go.Proofs Ev
set_option maxRecDepth 100000
set_option maxHeartbeats 40000000
set_option linter.unusedSimpArgs false
set_option linter.unusedVariables false
def failB : RV := .tup [.one (.v nilV), .one (vb false)]
theorem reader_batch1 (s : ByteArray) (p : Nat) (hs : s.size ≤ 1048576) (hp : p ≤ s.size) (q : Nat) (hN : numB s p = (0, false, q)) : AFnK Tryd.prog 30 [.bx 0 0] [lrd s p] [0] failB [lrd s q] := by
  have hR := reader_number s p hs hp _ _ _ hN
  refine AFnK.introX (E := En 1 md0) (en_ok 1 md0) Tryd.func30 rfl rfl rfl fun _ _ => ?_
  refine ACall.mk _ _ hR ?_
  refine Split.mk fun t h1 => ?_
  cases t
  case true => cases h1
  exact Need.mk ⟨[], _, .same, rfl, rfl⟩ trivial
theorem reader_batch2 (s : ByteArray) (p : Nat) (hs : s.size ≤ 1048576) (hp : p ≤ s.size) (n : Int) (q : Nat) (hN : numB s p = (n, true, q)) (hq : q ≤ s.size) (hl : n < 0 ∨ (s.size : Int) - q < n) : AFnK Tryd.prog 30 [.bx 0 0] [lrd s p] [0] failB [lrd s q] := by
  have hR := reader_number s p hs hp _ _ _ hN
  have hT := reader_takeN s q n hs hq hl
  refine AFnK.introX (E := En 1 md0) (en_ok 1 md0) Tryd.func30 rfl rfl rfl fun _ _ => ?_
  refine ACall.mk _ _ hR ?_
  refine Split.mk fun t h1 => ?_
  cases t
  case false => cases h1
  refine ACall.mk _ _ hT ?_
  refine Split.mk fun t h2 => ?_
  cases t
  case true => cases h2
  exact Need.mk ⟨[], _, .same, rfl, rfl⟩ trivial
theorem reader_batch3 (s : ByteArray) (p : Nat) (hs : s.size ≤ 1048576) (hp : p ≤ s.size) (n : Nat) (q : Nat) (hN : numB s p = ((n : Int), true, q)) (hl : q + n = s.size) : AFnK Tryd.prog 30 [.bx 0 0] [lrd s p] [0] failB [lrd s (q + n)] := by
  have hR := reader_number s p hs hp _ _ _ hN
  have hT := reader_takeY s q n hs (by omega)
  have hT2 := reader_takeN s (q + n) 1 hs (by omega) (by omega)
  refine AFnK.introX (E := En 1 md0) (en_ok 1 md0) Tryd.func30 rfl rfl rfl fun _ _ => ?_
  refine ACall.mk _ _ hR ?_
  refine Split.mk fun t h1 => ?_
  cases t
  case false => cases h1
  refine ACall.mk _ _ hT ?_
  refine Split.mk fun t h2 => ?_
  cases t
  case false => cases h2
  refine ACall.mk _ _ hT2 ?_
  refine Split.mk fun t h3 => ?_
  cases t
  case true => cases h3
  exact Need.mk ⟨[], _, .same, rfl, rfl⟩ trivial
theorem reader_batchM (s : ByteArray) (p : Nat) (hs : s.size ≤ 1048576) (hp : p ≤ s.size) (n : Nat) (q : Nat) (hN : numB s p = ((n : Int), true, q)) (hl : q + n + 1 ≤ s.size) (hpq : p < q) (B : ByteArray) (hB : s.extract q (q + n) = B) (r : RV)
    (k0 : RI.body 12 [] (tb B) = none → r = failB) (k1 : ∀ b, RI.body 12 [] (tb B) = some b → batOk b = false → r = failB) (k2 : ∀ b, RI.body 12 [] (tb B) = some b → batOk b = true → bt (frameT b) ≠ s.extract p (q + n + 1) → r = failB)
    (k3 : ∀ b, RI.body 12 [] (tb B) = some b → batOk b = true → bt (frameT b) = s.extract p (q + n + 1) → r = .tup [.one (.us 43 (b.map Ent.enc)), .one (vb true)]) :
    AFnK Tryd.prog 30 [.bx 0 0] [lrd s p] [0] r [lrd s (q + n + 1)] := by
  have hR := reader_number s p hs hp _ _ _ hN
  have hT := reader_takeY s q n hs (by omega)
  have hT2 := reader_takeY s (q + n) 1 hs (by omega)
  have hBs := ext_size s q (q + n)
  rw [hB] at hT hBs
  have hBz : B.size ≤ 1048576 := by omega
  have hpos : 0 < Tryd.prog.cellsOf 43 := pos_of tab_ok (t := 43) rfl
  have hround : ∀ (out : List Ent) (a : Nat), a < B.size → out.length ≤ 12 → OkE out → RI.body (12 - out.length) out ((tb B).drop a) = RI.body 12 [] (tb B) →
      (∃ (e : Ent) (a2 : Nat), AFnK Tryd.prog 47 [.bx 0 0] [lrd B a] [0] (.tup [.agg e.enc, .one (vb true)]) [lrd B a2] ∧ (out.length = 12 → r = failB) ∧ a2 ≤ B.size ∧ (out.length ≠ 12 → OkE (out ++ [e]) ∧ RI.body (12 - (out ++ [e]).length) (out ++ [e]) ((tb B).drop a2) = RI.body 12 [] (tb B))) ∨
      (∃ a2 : Nat, AFnK Tryd.prog 47 [.bx 0 0] [lrd B a] [0] (.tup [.agg ent0.enc, .one (vb false)]) [lrd B a2] ∧ r = failB) := by
    intro out a ha hlen hOk hI
    have hne : (tb B).drop a ≠ [] := fun h => by have := drop_nil.1 h; omega
    rcases reader_entry B a hBz (by omega) with ⟨e, a2, g1, g2, g3, g4⟩ | ⟨g1, a2, g2⟩
    · refine .inl ⟨e, a2, g4, fun h12 => k0 ?_, g3, fun h12 => ⟨fun x hx => ?_, ?_⟩⟩
      · rw [← hI, show 12 - out.length = 0 by omega, RIb_zero RI hne]
      · rcases List.mem_append.1 hx with hx | hx
        · exact hOk x hx
        · rw [List.mem_singleton.1 hx]
          exact RI.ent_Ok g1 (by rw [List.length_drop, tb_len]; unfold maxLen; omega)
      · rw [← hI, show 12 - out.length = (12 - (out ++ [e]).length) + 1 by simp; omega, RIb_step RI hne g1]
    · refine .inr ⟨a2, g2, k0 ?_⟩
      rw [← hI, RIb_bad RI hne g1]
  have hlast : ∀ (out : List Ent) (a : Nat), ¬ a < B.size → out.length ≤ 12 → RI.body (12 - out.length) out ((tb B).drop a) = RI.body 12 [] (tb B) → RI.body 12 [] (tb B) = some out := by
    intro out a ha hlen hI
    rw [drop_nil.2 (by omega), RIb_nil] at hI
    exact hI.symm
  refine AFnK.introX (E := En 1 md0) (en_ok 1 md0) Tryd.func30 rfl rfl rfl fun _ _ => ?_
  refine ACall.mk _ _ hR ?_
  refine Split.mk fun t h1 => ?_
  cases t
  case false => cases h1
  refine ACall.mk _ _ hT ?_
  refine Split.mk fun t h2 => ?_
  cases t
  case false => cases h2
  refine ACall.mk _ _ hT2 ?_
  refine Split.mk fun t h3 => ?_
  cases t
  case false => cases h3
  let S : List Ent → Nat → St := fun out a => ⟨some (.bx 0 0) :: none :: none :: none :: some (av (.int .i64 p)) :: none :: none :: some (av (.string B)) :: some (.bx 9 0) :: some (.one (.ref 10 0 (.cell 0))) :: List.replicate 69 none, ⟨0, 0, some [vs s, vi ((q + n + 1 : Nat) : Int)]⟩ :: absent :: absent :: absent :: absent :: absent :: absent :: absent :: absent :: ⟨0, 0, some [vs B, vi a]⟩ :: ⟨0, 1, some [.us 43 (out.map Ent.enc)]⟩ :: List.replicate 69 absent⟩
  refine ALoop.mk (fun m st => ∃ (out : List Ent) (a : Nat), (a ≤ B.size ∧ m = 13 - out.length ∧ out.length ≤ 12) ∧ OkE out ∧ RI.body (12 - out.length) out ((tb B).drop a) = RI.body 12 [] (tb B) ∧ st = S out a)
    ⟨_, _, Weak.trans (Weak.nrm [true, false, false, false, true, false, false, true, true, true] [(0, 0), (9, 9)] rfl rfl rfl) (Weak.nilOwn 9 10 43 rfl rfl hpos), [], 0, ⟨Nat.zero_le _, rfl, Nat.zero_le _⟩, (fun e he => nomatch he), rfl, rfl⟩ ?_
  rintro m st ⟨out, a, ⟨ha, rfl, hlen⟩, hOk, hI, hst⟩
  have hol : (out.map Ent.enc).length = out.length := List.length_map ..
  by_cases hlt : a < B.size
  · refine Or.elim (hround out a hlt hlen hOk hI) (fun hx => ?_) fun hx => ?_
    · refine Exists.elim hx fun e hx => ?_
      refine Exists.elim hx fun a2 hx => ?_
      have hE := hx.1
      by_cases h12 : out.length = 12
      · have hr := hx.2.1 h12
        clear hx hI hOk k0 k1 k2 k3 hround
        subst hr
        subst hst
        refine Split.mk fun t h1 => ?_
        cases t
        case false => (exfalso; rw [decide_eq_false_iff_not] at h1; omega)
        rw [decide_eq_true_iff] at h1
        refine ACall.mk _ _ hE ?_
        refine Split.mk fun t h2 => ?_
        cases t
        case false => cases h2
        refine Split.mk fun t h3 => ?_
        cases t
        case false => (exfalso; rw [decide_eq_false_iff_not] at h3; omega)
        rw [decide_eq_true_iff] at h3
        exact Need.mk ⟨[], _, .same, rfl, rfl⟩ trivial
      · have ha2 := hx.2.2.1
        have hOk2 := (hx.2.2.2 h12).1
        have hI2 := (hx.2.2.2 h12).2
        have hol2 : (out ++ [e]).length = out.length + 1 := by simp
        have hmap : out.map Ent.enc ++ [e.enc] = (out ++ [e]).map Ent.enc := by rw [List.map_append]; rfl
        clear hx hI hOk k0 k1 k2 k3 hround
        subst hst
        refine Split.mk fun t h1 => ?_
        cases t
        case false => (exfalso; rw [decide_eq_false_iff_not] at h1; omega)
        rw [decide_eq_true_iff] at h1
        refine ACall.mk _ _ hE ?_
        refine Split.mk fun t h2 => ?_
        cases t
        case false => cases h2
        refine Split.mk fun t h3 => ?_
        cases t
        case true => (exfalso; rw [decide_eq_true_iff] at h3; omega)
        rw [decide_eq_false_iff_not] at h3
        refine Need.mk (appEq (A' := _) (B' := [e.enc]) rfl rfl (by simp only [List.length_append, List.length_map, List.length_take, List.length_drop, List.length_cons, List.length_nil, List.length_reverse, List.length_replicate, List.length_set]; omega) (by decide)) ?_
        exact ⟨_, _, by omega, Weak.nrm [true, false, false, false, true, false, false, true, true, true] [(0, 0), (9, 9), (60, 10)] rfl rfl rfl, out ++ [e], a2, ⟨ha2, rfl, by omega⟩, hOk2, hI2, congrArg (fun R => (⟨some (.bx 0 0) :: none :: none :: none :: some (av (.int .i64 p)) :: none :: none :: some (av (.string B)) :: some (.bx 9 0) :: some (.one (.ref 10 0 (.cell 0))) :: List.replicate 69 none, ⟨0, 0, some [vs s, vi ((q + n + 1 : Nat) : Int)]⟩ :: absent :: absent :: absent :: absent :: absent :: absent :: absent :: absent :: ⟨0, 0, some [vs B, vi a2]⟩ :: ⟨0, 1, some [.us 43 R]⟩ :: List.replicate 69 absent⟩ : St)) hmap⟩
    · refine Exists.elim hx fun a2 hx => ?_
      have hE := hx.1
      have hr := hx.2
      clear hx hI hOk k0 k1 k2 k3 hround
      subst hr
      subst hst
      refine Split.mk fun t h1 => ?_
      cases t
      case false => (exfalso; rw [decide_eq_false_iff_not] at h1; omega)
      rw [decide_eq_true_iff] at h1
      refine ACall.mk _ _ hE ?_
      refine Split.mk fun t h2 => ?_
      cases t
      case true => cases h2
      exact Need.mk ⟨[], _, .same, rfl, rfl⟩ trivial
  · have hfin := hlast out a hlt hlen hI
    have hBk := impl_batchOk out hOk (by omega)
    have hFT := impl_FrameText out hOk (by omega)
    have hex : ∃ c, batOk out = c := ⟨_, rfl⟩
    refine Exists.elim hex fun c hc => ?_
    rw [hc] at hBk
    cases c with
    | false =>
      have hr := k1 out hfin hc
      clear hI hOk k0 k1 k2 k3 hround hlast hex
      subst hr
      subst hst
      refine Split.mk fun t h1 => ?_
      cases t
      case true => (exfalso; rw [decide_eq_true_iff] at h1; omega)
      rw [decide_eq_false_iff_not] at h1
      refine Fz.mk _ (frzE _) ?_
      refine ACall.mk _ _ hBk ?_
      refine Need.mk (⟨ClL.mem (.v .nil), no_objs⟩) ?_
      refine Split.mk fun t h2 => ?_
      cases t
      case true => cases h2
      refine Need.mk (rfl) ?_
      exact Need.mk ⟨[], _, .same, rfl, rfl⟩ trivial
    | true =>
      have hcs := Int.toNat_natCast p
      by_cases hcmp : bt (frameT out) = s.extract ((p : Int)).toNat (((q + n + 1 : Nat) : Int)).toNat
      · have hr := k3 out hfin hc hcmp
        clear hI hOk k0 k1 k2 k3 hround hlast hex
        subst hr
        subst hst
        refine Split.mk fun t h1 => ?_
        cases t
        case true => (exfalso; rw [decide_eq_true_iff] at h1; omega)
        rw [decide_eq_false_iff_not] at h1
        refine Fz.mk _ (frzE _) ?_
        refine ACall.mk _ _ hBk ?_
        refine Need.mk (⟨ClL.mem (.v .nil), no_objs⟩) ?_
        refine Split.mk fun t h2 => ?_
        cases t
        case false => cases h2
        refine Fz.mk _ (frzE _) ?_
        refine ACall.mk _ _ hFT ?_
        refine Need.mk (⟨ClL.mem (.v .nil), no_objs⟩) ?_
        refine Need.mk (by omega) ?_
        refine Split.mk fun t h3 => ?_
        cases t
        case true => (exfalso; rw [Bool.not_eq_true', bytes_beq, decide_eq_false_iff_not] at h3; exact absurd ‹_› h3)
        rw [Bool.not_eq_false', bytes_beq, decide_eq_true_iff] at h3
        refine Need.mk (rfl) ?_
        exact Need.mk ⟨[], _, .same, rfl, rfl⟩ trivial
      · have hr := k2 out hfin hc hcmp
        clear hI hOk k0 k1 k2 k3 hround hlast hex
        subst hr
        subst hst
        refine Split.mk fun t h1 => ?_
        cases t
        case true => (exfalso; rw [decide_eq_true_iff] at h1; omega)
        rw [decide_eq_false_iff_not] at h1
        refine Fz.mk _ (frzE _) ?_
        refine ACall.mk _ _ hBk ?_
        refine Need.mk (⟨ClL.mem (.v .nil), no_objs⟩) ?_
        refine Split.mk fun t h2 => ?_
        cases t
        case false => cases h2
        refine Fz.mk _ (frzE _) ?_
        refine ACall.mk _ _ hFT ?_
        refine Need.mk (⟨ClL.mem (.v .nil), no_objs⟩) ?_
        refine Need.mk (by omega) ?_
        refine Split.mk fun t h3 => ?_
        cases t
        case false => (exfalso; rw [Bool.not_eq_false', bytes_beq, decide_eq_true_iff] at h3; exact absurd h3 ‹_›)
        rw [Bool.not_eq_true', bytes_beq, decide_eq_false_iff_not] at h3
        refine Need.mk (rfl) ?_
        exact Need.mk ⟨[], _, .same, rfl, rfl⟩ trivial
theorem reader_batch (s : ByteArray) (p : Nat) (hs : s.size ≤ 1048576) (hp : p ≤ s.size) :
    (∃ (b : List Ent) (q : Nat), frameD ((tb s).drop p) = some (b, (tb s).drop q) ∧ p < q ∧ q ≤ s.size ∧ AFnK Tryd.prog 30 [.bx 0 0] [lrd s p] [0] (.tup [.one (.us 43 (b.map Ent.enc)), .one (vb true)]) [lrd s q]) ∨
    (frameD ((tb s).drop p) = none ∧ ∃ q : Nat, AFnK Tryd.prog 30 [.bx 0 0] [lrd s p] [0] failB [lrd s q]) := by
  have hex : ∃ x, numB s p = x := ⟨_, rfl⟩
  obtain ⟨⟨n, c, q⟩, hN⟩ := hex
  cases c with
  | false =>
    obtain ⟨g1, g2⟩ := numB_no hp hN
    subst g2
    exact .inr ⟨frameI_no g1, q, reader_batch1 s p hs hp q hN⟩
  | true =>
    obtain ⟨g1, hpq, hq, n1, n2⟩ := numB_ok hp hN
    by_cases hl : n < 0 ∨ (s.size : Int) - q < n
    · exact .inr ⟨frameI_cut hq g1 (by omega), q, reader_batch2 s p hs hp n q hN hq hl⟩
    · obtain ⟨m, rfl⟩ : ∃ m : Nat, n = m := ⟨n.toNat, by omega⟩
      by_cases he : q + m = s.size
      · exact .inr ⟨frameI_cut hq g1 (by omega), q + m, reader_batch3 s p hs hp m q hN he⟩
      · have hl2 : q + m + 1 ≤ s.size := by omega
        have hF := frameI_body hpq hl2 g1
        cases hB : RI.body 12 [] (tb (s.extract q (q + m))) with
        | none =>
          rw [hB, Option.bind_none] at hF
          exact .inr ⟨hF, _, reader_batchM s p hs hp m q hN hl2 hpq _ rfl failB (fun _ => rfl) (fun _ _ _ => rfl) (fun _ _ _ _ => rfl) (fun b hb => by rw [hB] at hb; cases hb)⟩
        | some b =>
          rw [hB, Option.bind_some] at hF
          by_cases hcmp : bt (frameT b) = s.extract p (q + m + 1)
          · rw [if_pos hcmp] at hF
            have hbt : batOk b = true := by
              cases hb : batOk b with
              | true => rfl
              | false => exact absurd hcmp (frameI_none hpq hl2 hb)
            refine .inl ⟨b, q + m + 1, hF, by omega, hl2, reader_batchM s p hs hp m q hN hl2 hpq _ rfl _ (fun h => ?_) (fun b' h1 h2 => ?_) (fun b' h1 _ h3 => ?_) (fun b' h1 _ _ => ?_)⟩
            · rw [hB] at h; cases h
            · rw [hB] at h1; injection h1 with h1; subst h1; rw [hbt] at h2; cases h2
            · rw [hB] at h1; injection h1 with h1; subst h1; exact absurd hcmp h3
            · rw [hB] at h1; injection h1 with h1; subst h1; rfl
          · rw [if_neg hcmp] at hF
            refine .inr ⟨hF, _, reader_batchM s p hs hp m q hN hl2 hpq _ rfl failB (fun _ => rfl) (fun _ _ _ => rfl) (fun _ _ _ _ => rfl) (fun b' h1 _ h3 => ?_)⟩
            rw [hB] at h1; injection h1 with h1; subst h1; exact absurd h3 hcmp
theorem impl_FrameRead (s : ByteArray) (hs : s.size ≤ 1048576) (R : List (List Ent)) (r : Bs) (hR : readD (tb s) = (R, r)) : AFn Tryd.prog 12 [av (.string s)] [] (.tup [.one (.us 25 (R.map encXO)), .one (vi ((s.size : Int) - r.length))]) [] := by
  have hpos : 0 < Tryd.prog.cellsOf 25 := pos_of tab_ok (t := 25) rfl
  have hround : ∀ (out : List (List Ent)) (p : Nat), p ≤ s.size → readD (tb s) = (out ++ (readD ((tb s).drop p)).1, (readD ((tb s).drop p)).2) →
      (∃ (b : List Ent) (q : Nat), AFnK Tryd.prog 30 [.bx 0 0] [lrd s p] [0] (.tup [.one (.us 43 (b.map Ent.enc)), .one (vb true)]) [lrd s q] ∧ p < q ∧ q ≤ s.size ∧ readD (tb s) = ((out ++ [b]) ++ (readD ((tb s).drop q)).1, (readD ((tb s).drop q)).2)) ∨
      (∃ q : Nat, AFnK Tryd.prog 30 [.bx 0 0] [lrd s p] [0] (.tup [.one (.v nilV), .one (vb false)]) [lrd s q] ∧ RV.tup [.one (.us 25 (out.map encXO)), .one (vi (p : Int))] = RV.tup [.one (.us 25 (R.map encXO)), .one (vi ((s.size : Int) - r.length))]) := by
    intro out p hp hI
    rcases reader_batch s p hs hp with ⟨b, q, g1, g2, g3, g4⟩ | ⟨g1, q, g2⟩
    · refine .inl ⟨b, q, g4, g2, g3, ?_⟩
      rw [hI, readD_some g1]
      simp
    · refine .inr ⟨q, g2, ?_⟩
      rw [readD_none g1, hR] at hI
      injection hI with e1 e2
      rw [List.append_nil] at e1
      rw [e1, e2, List.length_drop, tb_len, show (s.size : Int) - ((s.size - p : Nat) : Int) = p by omega]
  refine AFn.introX (E := En 0 md0) (en_ok 0 md0) Tryd.func12 rfl rfl rfl fun _ _ => ?_
  let S : List (List Ent) → Nat → St := fun out p => ⟨none :: none :: none :: none :: some (.bx 4 0) :: some (.one (.ref 5 0 (.cell 0))) :: List.replicate 19 none, absent :: absent :: absent :: absent :: ⟨0, 0, some [vs s, vi p]⟩ :: ⟨0, 1, some [.us 25 (out.map encXO)]⟩ :: List.replicate 19 absent⟩
  refine ALoop.mk (fun m st => ∃ (out : List (List Ent)) (p : Nat), (p ≤ s.size ∧ out.length ≤ p ∧ m = s.size - p) ∧ readD (tb s) = (out ++ (readD ((tb s).drop p)).1, (readD ((tb s).drop p)).2) ∧ st = S out p)
    ⟨_, _, Weak.trans (Weak.nrm [false, false, false, false, true, true] [(4, 4)] rfl rfl rfl) (Weak.nilOwn 5 5 25 rfl rfl hpos), [], 0, ⟨Nat.zero_le _, Nat.zero_le _, rfl⟩, rfl, rfl⟩ ?_
  rintro m st ⟨out, p, ⟨hp, hop, rfl⟩, hI, hst⟩
  have hol : (out.map encXO).length = out.length := List.length_map ..
  refine Or.elim (hround out p hp hI) (fun hx => ?_) fun hx => ?_
  · refine Exists.elim hx fun b hx => ?_
    refine Exists.elim hx fun q hx => ?_
    have hB := hx.1
    have h2 := hx.2.1
    have h3 := hx.2.2.1
    have hI2 := hx.2.2.2
    have hol2 : (out ++ [b]).length = out.length + 1 := by simp
    have hmap : out.map encXO ++ [encXO b] = (out ++ [b]).map encXO := by rw [List.map_append]; rfl
    clear hx hI hround
    subst hst
    refine ACall.mk _ _ hB ?_
    refine Split.mk fun t h1 => ?_
    cases t
    case false => cases h1
    refine Need.mk (appEq (A' := _) (B' := [encXO b]) rfl rfl (by simp only [List.length_append, List.length_map, List.length_take, List.length_drop, List.length_cons, List.length_nil, List.length_reverse, List.length_replicate, List.length_set]; omega) (by decide)) ?_
    exact ⟨_, _, by omega, Weak.nrm [false, false, false, false, true, true] [(4, 4), (24, 5)] rfl rfl rfl, out ++ [b], q, ⟨h3, by omega, rfl⟩, hI2, congrArg (fun R => (⟨none :: none :: none :: none :: some (.bx 4 0) :: some (.one (.ref 5 0 (.cell 0))) :: List.replicate 19 none, absent :: absent :: absent :: absent :: ⟨0, 0, some [vs s, vi q]⟩ :: ⟨0, 1, some [.us 25 R]⟩ :: List.replicate 19 absent⟩ : St)) hmap⟩
  · refine Exists.elim hx fun q hx => ?_
    have hB := hx.1
    have hres := hx.2
    clear hx hI hround
    subst hst
    refine ACall.mk _ _ hB ?_
    refine Split.mk fun t h1 => ?_
    cases t
    case true => cases h1
    exact Need.mk ⟨[], _, .same, hres, rfl⟩ trivial
theorem l9_pick (bs : List Nat) (p : Nat) (n : Nat) (hb : OkB bs) (hp : p ≤ 1000000) (hn : n ≤ 4294967296) :
    AFnK Tryd.prog 36 [.bx 0 0, av (.int .i64 n)] [rd bs p] [0] (.one (vi (pickV bs p n))) [rd bs (p + 1)] := by
  refine AFnK.introX (E := En 1 md0) (en_ok 1 _) Tryd.func36 rfl rfl rfl fun _ _ => ?_
  have hl : (bs.map encB).length = bs.length := List.length_map ..
  have fin : ∀ {k : Int}, k = (pickV bs p n : Nat) → RV.one (vi k) = RV.one (vi (pickV bs p n)) := fun h => by rw [h]
  by_cases h0 : n < 1 ∨ bs = []
  · have hv : pickV bs p n = 0 := by rw [pickV, if_pos h0]
    rw [hv]
    refine Num.mk ((p + 1 : Nat) : Int) (wrapI' (by omega) (by omega)) ?_
    refine Split.mk fun t ht => ?_
    cases t
    · refine Split.mk fun t ht2 => ?_
      rw [hl] at ht2
      cases t
      · exfalso
        rcases h0 with h0 | h0
        · simp at ht; omega
        · subst h0; simp at ht2
      · exact Need.mk ⟨[], _, .same, rfl, rfl⟩ trivial
    · exact Need.mk ⟨[], _, .same, rfl, rfl⟩ trivial
  · have hn0 : 0 < n := by omega
    have hbl : 0 < bs.length := List.length_pos_iff.2 fun h => h0 (.inr h)
    by_cases hpl : p < bs.length
    · have hv : pickV bs p n = bs.getD p 0 % n := by rw [pickV, if_neg h0, if_pos hpl]
      have hbb := hb.get p
      have hrow := map_getD encB bs p 0 hpl
      rw [hv]
      refine Num.mk ((p + 1 : Nat) : Int) (wrapI' (by omega) (by omega)) ?_
      refine Split.mk fun t ht => ?_
      cases t
      case true => simp at ht; omega
      refine Split.mk fun t ht2 => ?_
      rw [hl] at ht2
      cases t
      case true => rw [beq_iff_eq] at ht2; omega
      refine Num.mk ((p : Nat) : Int) (wrapI' (by omega) (by omega)) ?_
      refine Split.mk fun t ht3 => ?_
      rw [hl] at ht3
      cases t
      · simp at ht3; omega
      refine Need.mk (by omega) ?_
      refine Row.mk _ hrow ?_
      refine Num.mk ((bs.getD p 0 : Nat) : Int) (wrapI' rfl (by omega)) ?_
      refine Need.mk (by omega) ?_
      exact Need.mk ⟨[], _, .same, rfl, rfl⟩ trivial
    · have hv : pickV bs p n = (pickX bs p ^^^ (pickX bs p / 64)) % n := by rw [pickV, if_neg h0, if_neg hpl]
      have hx := pickX_lt hb hp
      have hx64 : pickX bs p / 64 ≤ pickX bs p := Nat.div_le_self _ _
      have hxor := xorN (m := pickX bs p) (n := pickX bs p / 64) (by omega) (by omega)
      have hb1 := hb.get (p % bs.length)
      have hb2 := hb.get ((p * 7 + 3) % bs.length)
      have hr1 := map_getD encB bs (p % bs.length) 0 (Nat.mod_lt _ hbl)
      have hr2 := map_getD encB bs ((p * 7 + 3) % bs.length) 0 (Nat.mod_lt _ hbl)
      have hq : p / bs.length ≤ p := Nat.div_le_self _ _
      have hX : pickX bs p = bs.getD (p % bs.length) 0 * 131 + bs.getD ((p * 7 + 3) % bs.length) 0 * 1117 + p * 29 + p / bs.length * 53 := rfl
      have i1 : ((p : Int).tmod (((bs.map encB).length : Nat) : Int)).toNat = p % bs.length := by rw [hl, tmodN]; rfl
      have i2 : (((p * 7 + 3 : Nat) : Int).tmod (((bs.map encB).length : Nat) : Int)).toNat = (p * 7 + 3) % bs.length := by rw [hl, tmodN]; rfl
      have g1 : (0 : Int) ≤ (p : Int).tmod (((bs.map encB).length : Nat) : Int) := by rw [tmodN]; omega
      have g2 : (0 : Int) ≤ ((p * 7 + 3 : Nat) : Int).tmod (((bs.map encB).length : Nat) : Int) := by rw [tmodN]; omega
      have hne : (((bs.map encB).length : Nat) : Int) ≠ 0 := by rw [hl]; omega
      have hdiv : (p : Int).tdiv (((bs.map encB).length : Nat) : Int) = ((p / bs.length : Nat) : Int) := by rw [hl, tdivN]
      rw [hv]
      generalize hB1 : bs.getD (p % bs.length) 0 = b1 at *
      generalize hB2 : bs.getD ((p * 7 + 3) % bs.length) 0 = b2 at *
      generalize hQ : p / bs.length = q at *
      generalize pickX bs p = X at *
      refine Num.mk ((p + 1 : Nat) : Int) (wrapI' (by omega) (by omega)) ?_
      refine Split.mk fun t ht => ?_
      cases t
      case true => simp at ht; omega
      refine Split.mk fun t ht2 => ?_
      rw [hl] at ht2
      cases t
      case true => rw [beq_iff_eq] at ht2; omega
      refine Num.mk ((p : Nat) : Int) (wrapI' (by omega) (by omega)) ?_
      refine Split.mk fun t ht3 => ?_
      rw [hl] at ht3
      cases t
      case true => simp at ht3; omega
      refine Need.mk hne ?_
      refine Need.mk g1 ?_
      refine Row.mk (encB b1) (by rw [i1]; exact hr1) ?_
      refine Num.mk ((b1 : Nat) : Int) (wrapI' rfl (by omega)) ?_
      refine Num.mk ((b1 * 131 : Nat) : Int) (wrapI' (by omega) (by omega)) ?_
      refine Num.mk ((p * 7 : Nat) : Int) (wrapI' (by omega) (by omega)) ?_
      refine Num.mk ((p * 7 + 3 : Nat) : Int) (wrapI' (by omega) (by omega)) ?_
      refine Need.mk hne ?_
      refine Need.mk g2 ?_
      refine Row.mk (encB b2) (by rw [i2]; exact hr2) ?_
      refine Num.mk ((b2 : Nat) : Int) (wrapI' rfl (by omega)) ?_
      refine Num.mk ((b2 * 1117 : Nat) : Int) (wrapI' (by omega) (by omega)) ?_
      refine Num.mk ((b1 * 131 + b2 * 1117 : Nat) : Int) (wrapI' (by omega) (by omega)) ?_
      refine Num.mk ((p * 29 : Nat) : Int) (wrapI' (by omega) (by omega)) ?_
      refine Num.mk ((b1 * 131 + b2 * 1117 + p * 29 : Nat) : Int) (wrapI' (by omega) (by omega)) ?_
      refine Need.mk hne ?_
      refine Num.mk ((q : Nat) : Int) (wrapI' hdiv (by omega)) ?_
      refine Num.mk ((q * 53 : Nat) : Int) (wrapI' (by omega) (by omega)) ?_
      refine Num.mk ((X : Nat) : Int) (wrapI' (by omega) (by omega)) ?_
      refine Need.mk rfl ?_
      refine Need.mk (by decide) ?_
      refine Num.mk ((X / 64 : Nat) : Int) (wrapI' (tdivN' X 64) (by omega)) ?_
      refine Need.mk (by omega) ?_
      refine Need.mk ⟨[], _, .same, ?_, rfl⟩ trivial
      exact congrArg (fun z : Int => RV.one (vi (z.tmod (n : Int)))) hxor
theorem l9_of (bs : List Nat) (p : Nat) (xs : List ByteArray) (hb : OkB bs) (hp : p ≤ 1000000) (h0 : 0 < xs.length) (hx : xs.length ≤ 100) :
    AFnK Tryd.prog 38 [.bx 0 0, sl (xs.map encS)] [rd bs p] [0] (.one (vs (xs.getD (pickV bs p xs.length) ⟨#[]⟩))) [rd bs (p + 1)] := by
  refine AFnK.introX (E := En 1 md0) (en_ok 1 _) Tryd.func38 rfl rfl rfl fun _ _ => ?_
  have hl : (xs.map encS).length = xs.length := List.length_map ..
  have hlt := pickV_lt (bs := bs) (p := p) h0
  have hrow := map_getD encS xs _ ⟨#[]⟩ hlt
  have hP := l9_pick bs p xs.length hb hp (by omega)
  generalize pickV bs p xs.length = k at *
  rw [← hl] at hP
  refine ACall.mk _ _ hP ?_
  refine Need.mk (by omega) ?_
  refine Row.mk _ hrow ?_
  exact Need.mk ⟨[], _, .same, rfl, rfl⟩ trivial
theorem l9_num (bs : List Nat) (p : Nat) (xs : List Int) (hb : OkB bs) (hp : p ≤ 1000000) (h0 : 0 < xs.length) (hx : xs.length ≤ 100) :
    AFnK Tryd.prog 50 [.bx 0 0, sl (xs.map encI)] [rd bs p] [0] (.one (vi (xs.getD (pickV bs p xs.length) 0))) [rd bs (p + 1)] := by
  refine AFnK.introX (E := En 1 md0) (en_ok 1 _) Tryd.func50 rfl rfl rfl fun _ _ => ?_
  have hl : (xs.map encI).length = xs.length := List.length_map ..
  have hlt := pickV_lt (bs := bs) (p := p) h0
  have hrow := map_getD encI xs _ 0 hlt
  have hP := l9_pick bs p xs.length hb hp (by omega)
  generalize pickV bs p xs.length = k at *
  rw [← hl] at hP
  refine ACall.mk _ _ hP ?_
  refine Need.mk (by omega) ?_
  refine Row.mk _ hrow ?_
  exact Need.mk ⟨[], _, .same, rfl, rfl⟩ trivial
theorem l9_Open (bs : List Nat) (hx : bs.length ≤ 1048576) : AFn Tryd.prog 33 [sl (bs.map encB)] [] (.bx (rd (bs.take 2000) 0)) [] := by
  refine AFn.introX (E := En 0 md0) (en_ok 0 _) Tryd.func33 rfl rfl rfl fun _ _ => ?_
  have hl : (bs.map encB).length = bs.length := List.length_map ..
  have hs : ∀ r ∈ bs.map encB, r.length = 1 := fun r hr => by obtain ⟨b, _, rfl⟩ := List.mem_map.1 hr; rfl
  by_cases h2 : bs.length ≤ 2000
  · rw [List.take_of_length_le h2]
    refine Split.mk fun t ht => ?_
    rw [hl] at ht
    cases t
    · exact Need.mk ⟨rfl, rfl⟩ trivial
    · simp at ht; omega
  · refine Split.mk fun t ht => ?_
    rw [hl] at ht
    cases t
    · simp at ht; omega
    refine Need.mk ⟨by omega, by omega, by omega, hs⟩ ?_
    refine Need.mk ⟨?_, rfl⟩ trivial
    refine congrArg (fun r => [C.sl r, vi 0]) ?_
    rw [List.map_take]; rfl
theorem closedE (e : TypeId) (xs : List Ent) : Closed (.us e (xs.map Ent.enc)) := by
  refine .us fun r hr c hc => ?_
  obtain ⟨x, _, rfl⟩ := List.mem_map.1 hr
  simp only [Ent.enc, List.mem_cons, List.not_mem_nil, or_false] at hc
  rcases hc with h | h | h | h | h <;> subst h <;> exact .v
theorem closed_rof (e : TypeId) (xs : List Ent) (v w : Value) : ∀ c ∈ ([C.us e (xs.map Ent.enc), .v v, .v w] : List C), Closed c := fun c hc => by
  simp only [List.mem_cons, List.not_mem_nil, or_false] at hc
  rcases hc with h | h | h <;> subst h
  · exact closedE e xs
  · exact .v
  · exact .v
theorem rowsOk (R : List (List C)) (ys : List Ent) (h : R = ys.map Ent.enc) : Plain R ∧ ∀ r ∈ R, r.length = 5 := by
  subst h; exact ⟨plainE ys, lenE ys⟩
theorem sizeOk (a b : List (List C)) (ys zs : List Ent) (ha : a = ys.map Ent.enc) (hb : b = zs.map Ent.enc) (h : ys.length + zs.length ≤ 2000000) : (a.length + b.length) * 56 ≤ 140737488355328 ∧ a.length + b.length ≤ maxLen := by
  subst ha; subst hb
  rw [List.length_map, List.length_map]
  exact ⟨by omega, Nat.le_trans h (by decide)⟩
theorem closed_us (e : TypeId) (xs : List Ent) : ∀ c : C, c ∈ [C.us e (xs.map Ent.enc)] → Closed c := fun c hc => by
  rw [List.mem_singleton] at hc; subst hc; exact closedE e xs
def CmpOk (f : FuncId) (lt : Ent → Ent → Bool) : Prop := ∃ ord : Ent → Ent → Int, (∀ x y, decide (ord x y < 0) = lt x y) ∧ ∀ x y, AFn Tryd.prog f [.agg (x.enc.map .c), .agg (y.enc.map .c)] [] (.one (vi (ord x y))) []
def mdv (l : List FuncId) (g : List FuncId) : FuncId → Nat := fun f => bif l.elem f then 1 else bif g.elem f then 2 else 0
theorem l3_Key (bs : List Nat) (p : Nat) (hb : OkB bs) (hp : p ≤ 1000000) : AFnK Tryd.prog 62 [.bx 0 0] [rd bs p] [0] (.one (vs (keyD bs p))) [rd bs (p + 1)] := by
  refine AFnK.introX (E := En 1 (mdv [] [38])) (en_ok 1 _) Tryd.func62 rfl rfl rfl fun _ _ => ?_
  refine Fz.mk _ (frzS keysL) ?_
  refine ACall.mk _ _ (l9_of bs p keysL hb hp (by decide) (by decide)) ?_
  exact Need.mk ⟨[], _, .same, rfl, rfl⟩ trivial
theorem l3_Entry (bs : List Nat) (p : Nat) (seq : Int) (hb : OkB bs) (hp : p ≤ 999990) :
    AFnK Tryd.prog 49 [.bx 0 0, av (.int .i64 seq)] [rd bs p] [0] (.agg (entD bs p seq).1.enc) [rd bs (entD bs p seq).2] := by
  have hK := l3_Key bs p hb (by omega)
  have hN := l9_num bs (p + 1) kindL hb (by omega) (by decide) (by decide)
  have hN2 := l9_num bs (p + 2) numL hb (by omega) (by decide) (by decide)
  have hT := l9_of bs (p + 3) textL hb (by omega) (by decide) (by decide)
  have e1 : kindL.getD (pickV bs (p + 1) kindL.length) 0 = kindD bs (p + 1) := rfl
  have e2 : numL.getD (pickV bs (p + 2) numL.length) 0 = numD bs (p + 2) := rfl
  have e3 : textL.getD (pickV bs (p + 3) textL.length) ⟨#[]⟩ = textD bs (p + 3) := rfl
  rw [e1] at hN
  rw [e2] at hN2
  rw [e3] at hT
  have hor := kindD_or bs (p + 1)
  unfold entD
  rcases hor with h | h | h
  · rw [h] at hN
    rw [if_neg (by rw [h]; decide), if_pos h]
    refine AFnK.introX (E := En 1 (mdv [] [38, 50])) (en_ok 1 _) Tryd.func49 rfl rfl rfl fun _ _ => ?_
    refine ACall.mk _ _ hK ?_
    refine Fz.mk _ (frzI kindL) ?_
    refine ACall.mk _ _ hN ?_
    refine Split.mk fun t ht => ?_
    cases t
    · cases ht
    refine Fz.mk _ (frzI numL) ?_
    refine ACall.mk _ _ hN2 ?_
    refine Split.mk fun t ht2 => ?_
    cases t
    · cases ht2
    refine Fz.mk _ (frzS textL) ?_
    refine ACall.mk _ _ hT ?_
    exact Need.mk ⟨[], _, .same, rfl, rfl⟩ trivial
  · rw [h] at hN
    rw [if_pos h]
    refine AFnK.introX (E := En 1 (mdv [] [38, 50])) (en_ok 1 _) Tryd.func49 rfl rfl rfl fun _ _ => ?_
    refine ACall.mk _ _ hK ?_
    refine Fz.mk _ (frzI kindL) ?_
    refine ACall.mk _ _ hN ?_
    refine Split.mk fun t ht => ?_
    cases t
    case true => cases ht
    refine Split.mk fun t ht2 => ?_
    cases t
    case true => cases ht2
    exact Need.mk ⟨[], _, .same, rfl, rfl⟩ trivial
  · rw [h] at hN
    rw [if_neg (by rw [h]; decide), if_neg (by rw [h]; decide)]
    refine AFnK.introX (E := En 1 (mdv [] [38, 50])) (en_ok 1 _) Tryd.func49 rfl rfl rfl fun _ _ => ?_
    refine ACall.mk _ _ hK ?_
    refine Fz.mk _ (frzI kindL) ?_
    refine ACall.mk _ _ hN ?_
    refine Split.mk fun t ht => ?_
    cases t
    · cases ht
    refine Fz.mk _ (frzI numL) ?_
    refine ACall.mk _ _ hN2 ?_
    refine Split.mk fun t ht2 => ?_
    cases t
    case true => cases ht2
    exact Need.mk ⟨[], _, .same, rfl, rfl⟩ trivial
theorem l9_Many (n : Nat) (s : ByteArray) (hn : n ≤ 1000) (hs : s.size ≤ 1000) : AFn Tryd.prog 51 [av (.string s), av (.int .i64 n)] [] (.one (vs (manyB n s ⟨#[]⟩))) [] := by
  refine AFn.introX (E := En 0 md0) (en_ok 0 md0) Tryd.func51 rfl rfl rfl fun _ _ => ?_
  let S : ByteArray → Nat → ByteArray → St := fun s k o => ⟨some (av (.string s)) :: some (av (.int .i64 k)) :: none :: none :: some (av (.string ⟨#[]⟩)) :: some (av (.string o)) :: List.replicate 14 none, List.replicate 20 absent⟩
  refine ALoop.mk (fun m t => ∃ (k : Nat) (s' o : ByteArray), m = k ∧ k ≤ 1000 ∧ s'.size * k ≤ 1000000 ∧ o.size ≤ 1000000 ∧ o.size + s'.size * k ≤ 1000000 ∧ s'.size ≤ 4000000 ∧ manyB n s ⟨#[]⟩ = manyB k s' o ∧ t = S s' k o)
    ⟨n, _, Weak.nrm [true, true, false, false, true, true] [] rfl rfl rfl, n, s, ⟨#[]⟩, rfl, hn, Nat.le_trans (Nat.mul_le_mul hs hn) (by decide), Nat.zero_le _, by rw [show (⟨#[]⟩ : ByteArray).size = 0 from rfl, Nat.zero_add]; exact Nat.le_trans (Nat.mul_le_mul hs hn) (by decide), by omega, rfl, rfl⟩ ?_
  rintro m t ⟨k, s', o, rfl, hk, hsk, ho, hok, hs', he, ht⟩
  by_cases h0 : m = 0
  · subst h0
    have he2 : o = manyB n s ⟨#[]⟩ := by rw [he, manyB, dif_pos rfl]
    rw [he2] at ht
    subst ht
    refine Split.mk fun t h => ?_
    cases t
    · exact Need.mk ⟨[], _, .same, rfl, rfl⟩ trivial
    · cases h
  · have he2 : manyB m s' o = manyB (m / 2) (s' ++ s') (if m % 2 = 1 then o ++ s' else o) := by rw [manyB, dif_neg h0]
    have hpos : 0 < m := by omega
    have hsz : (s' ++ s').size = s'.size + s'.size := by simp
    have hle : s'.size ≤ 1000000 := Nat.le_trans (Nat.le_mul_of_pos_right _ hpos) hsk
    have hd : m = 2 * (m / 2) + m % 2 := by omega
    have hmul : (s'.size + s'.size) * (m / 2) + s'.size * (m % 2) = s'.size * m := by
      conv => rhs; rw [hd]
      rw [Nat.mul_add, Nat.add_mul, Nat.mul_left_comm]; omega
    by_cases h1 : m % 2 = 1
    · rw [if_pos h1] at he2
      rw [h1, Nat.mul_one] at hmul
      have hoz : (o ++ s').size = o.size + s'.size := by simp
      have hmod : ((m : Int).tmod 2) = 1 := by have := tmodN' m 2; rw [h1] at this; exact this
      subst ht
      refine Split.mk fun t h => ?_
      cases t
      · simp at h; omega
      refine Need.mk (by decide) ?_
      refine Split.mk fun t h2 => ?_
      cases t
      · rw [show (((m : Int).tmod 2) == 1) = true by rw [hmod]; rfl] at h2; cases h2
      refine Need.mk (strFits (by omega)) ?_
      refine Need.mk (strFits (by omega)) ?_
      refine Need.mk (by decide) ?_
      refine Num.mk ((m / 2 : Nat) : Int) (wrapI' (tdivN' m 2) (by omega)) ?_
      refine ⟨m / 2, _, by omega, Weak.nrm [true, true, false, false, true, true] [] rfl rfl rfl, m / 2, s' ++ s', o ++ s', rfl, by omega, by rw [hsz]; omega, by omega, by rw [hsz]; omega, by omega, by rw [he, he2], rfl⟩
    · have h1' : m % 2 = 0 := by omega
      rw [if_neg h1] at he2
      rw [h1', Nat.mul_zero, Nat.add_zero] at hmul
      have hmod : ((m : Int).tmod 2) = 0 := by have := tmodN' m 2; rw [h1'] at this; exact this
      subst ht
      refine Split.mk fun t h => ?_
      cases t
      · simp at h; omega
      refine Need.mk (by decide) ?_
      refine Split.mk fun t h2 => ?_
      cases t
      case true => rw [show (((m : Int).tmod 2) == 1) = false by rw [hmod]; rfl] at h2; cases h2
      refine Need.mk (strFits (by omega)) ?_
      refine Need.mk (by decide) ?_
      refine Num.mk ((m / 2 : Nat) : Int) (wrapI' (tdivN' m 2) (by omega)) ?_
      refine ⟨m / 2, _, by omega, Weak.nrm [true, true, false, false, true, true] [] rfl rfl rfl, m / 2, s' ++ s', o, rfl, by omega, by rw [hsz]; omega, by omega, by rw [hsz]; omega, by omega, by rw [he, he2], rfl⟩
def bentK : List ByteArray := [⟨#[]⟩, ⟨#[65]⟩, ⟨#[97, 32, 98]⟩, ⟨#[97, 98, 99, 100, 101, 102, 103, 104, 105]⟩, ⟨#[97, 98, 99, 100, 101, 102, 103, 104]⟩, ⟨#[48, 47, 57]⟩]
def bentS : List Int := [0, -1, 100000, 100001]
def bentC : List Int := [0, 4, -1, 1, 2, 3]
def bentN : List Int := [1000000, 1000001, -1000001, 9223372036854775807]
def bentT : List ByteArray := [⟨#[113]⟩, manyB 60 ⟨#[116]⟩ ⟨#[]⟩, manyB 61 ⟨#[116]⟩ ⟨#[]⟩]
theorem l3_Bent (bs : List Nat) (p : Nat) (e : Ent) (hb : OkB bs) (hp : p ≤ 999990) (he : DE e) :
    ∃ e' q, AFnK Tryd.prog 37 [.bx 0 0, .agg (e.enc.map .c)] [rd bs p] [0] (.agg e'.enc) [rd bs q] ∧ q ≤ p + 2 ∧ DE e' := by
  obtain ⟨d1, d2, d3, d4, d5, d6⟩ := he
  have hP := l9_pick bs p 48 hb (by omega) (by omega)
  have hex : ∃ k, pickV bs p 48 = k := ⟨_, rfl⟩
  obtain ⟨k, hk⟩ := hex
  rw [hk] at hP
  by_cases h0 : k = 0
  · subst h0
    have hO := l9_of bs (p + 1) bentK hb (by omega) (by decide) (by decide)
    have hm : bentK.getD (pickV bs (p + 1) bentK.length) ⟨#[]⟩ ∈ bentK := getD_mem (pickV_lt (by decide))
    have hex : ∃ s, bentK.getD (pickV bs (p + 1) bentK.length) ⟨#[]⟩ = s := ⟨_, rfl⟩
    obtain ⟨s, hs⟩ := hex
    rw [hs] at hO hm
    refine ⟨{ e with key := s }, p + 2, ?_, by omega, ?_⟩
    · refine AFnK.introX (E := En 1 (mdv [] [38])) (en_ok 1 _) Tryd.func37 rfl rfl rfl fun _ _ => ?_
      refine ACall.mk _ _ hP ?_
      refine Split.mk fun t ht => ?_
      cases t
      · cases ht
      refine Fz.mk _ (frzS bentK) ?_
      refine ACall.mk _ _ hO ?_
      exact Need.mk ⟨[], _, .same, rfl, rfl⟩ trivial
    · have : s.size ≤ 9 ∧ s ≠ mm := by
        simp only [bentK, List.mem_cons, List.not_mem_nil, or_false] at hm
        rcases hm with h | h | h | h | h | h <;> subst h <;> exact ⟨by decide, by decide⟩
      exact ⟨this.1, d2, d3, d4, d5, this.2⟩
  by_cases h1 : k = 1
  · subst h1
    have hO := l9_num bs (p + 1) bentS hb (by omega) (by decide) (by decide)
    have hm : bentS.getD (pickV bs (p + 1) bentS.length) 0 ∈ bentS := getD_mem (pickV_lt (by decide))
    have hex : ∃ s, bentS.getD (pickV bs (p + 1) bentS.length) 0 = s := ⟨_, rfl⟩
    obtain ⟨s, hs⟩ := hex
    rw [hs] at hO hm
    refine ⟨{ e with seq := s }, p + 2, ?_, by omega, ?_⟩
    · refine AFnK.introX (E := En 1 (mdv [] [50])) (en_ok 1 _) Tryd.func37 rfl rfl rfl fun _ _ => ?_
      refine ACall.mk _ _ hP ?_
      refine Split.mk fun t ht => ?_
      cases t
      case true => cases ht
      refine Split.mk fun t ht => ?_
      cases t
      · cases ht
      refine Fz.mk _ (frzI bentS) ?_
      refine ACall.mk _ _ hO ?_
      exact Need.mk ⟨[], _, .same, rfl, rfl⟩ trivial
    · refine ⟨d1, d2, ?_, d4, d5, d6⟩
      simp only [bentS, List.mem_cons, List.not_mem_nil, or_false] at hm
      exact ⟨by show _ ≤ s; omega, by show s ≤ _; omega⟩
  by_cases h2 : k = 2
  · subst h2
    have hO := l9_num bs (p + 1) bentC hb (by omega) (by decide) (by decide)
    have hm : bentC.getD (pickV bs (p + 1) bentC.length) 0 ∈ bentC := getD_mem (pickV_lt (by decide))
    have hex : ∃ s, bentC.getD (pickV bs (p + 1) bentC.length) 0 = s := ⟨_, rfl⟩
    obtain ⟨s, hs⟩ := hex
    rw [hs] at hO hm
    refine ⟨{ e with kind := s }, p + 2, ?_, by omega, ?_⟩
    · refine AFnK.introX (E := En 1 (mdv [] [50])) (en_ok 1 _) Tryd.func37 rfl rfl rfl fun _ _ => ?_
      refine ACall.mk _ _ hP ?_
      refine Split.mk fun t ht => ?_
      cases t
      case true => cases ht
      refine Split.mk fun t ht => ?_
      cases t
      case true => cases ht
      refine Split.mk fun t ht => ?_
      cases t
      · cases ht
      refine Fz.mk _ (frzI bentC) ?_
      refine ACall.mk _ _ hO ?_
      exact Need.mk ⟨[], _, .same, rfl, rfl⟩ trivial
    · refine ⟨d1, d2, d3, ?_, d5, d6⟩
      simp only [bentC, List.mem_cons, List.not_mem_nil, or_false] at hm
      exact ⟨by show _ ≤ s; omega, by show s ≤ _; omega⟩
  by_cases h3 : k = 3
  · subst h3
    have hO := l9_num bs (p + 1) bentN hb (by omega) (by decide) (by decide)
    have hm : bentN.getD (pickV bs (p + 1) bentN.length) 0 ∈ bentN := getD_mem (pickV_lt (by decide))
    have hex : ∃ s, bentN.getD (pickV bs (p + 1) bentN.length) 0 = s := ⟨_, rfl⟩
    obtain ⟨s, hs⟩ := hex
    rw [hs] at hO hm
    refine ⟨{ e with n := s }, p + 2, ?_, by omega, ?_⟩
    · refine AFnK.introX (E := En 1 (mdv [] [50])) (en_ok 1 _) Tryd.func37 rfl rfl rfl fun _ _ => ?_
      refine ACall.mk _ _ hP ?_
      refine Split.mk fun t ht => ?_
      cases t
      case true => cases ht
      refine Split.mk fun t ht => ?_
      cases t
      case true => cases ht
      refine Split.mk fun t ht => ?_
      cases t
      case true => cases ht
      refine Split.mk fun t ht => ?_
      cases t
      · cases ht
      refine Fz.mk _ (frzI bentN) ?_
      refine ACall.mk _ _ hO ?_
      exact Need.mk ⟨[], _, .same, rfl, rfl⟩ trivial
    · refine ⟨d1, d2, d3, d4, ?_, d6⟩
      simp only [bentN, List.mem_cons, List.not_mem_nil, or_false] at hm
      exact ⟨by show _ ≤ s; omega, by show s ≤ _; omega⟩
  by_cases h4 : k = 4
  · subst h4
    have hO := l9_of bs (p + 1) bentT hb (by omega) (by decide) (by decide)
    have hm : bentT.getD (pickV bs (p + 1) bentT.length) ⟨#[]⟩ ∈ bentT := getD_mem (pickV_lt (by decide))
    have hex : ∃ s, bentT.getD (pickV bs (p + 1) bentT.length) ⟨#[]⟩ = s := ⟨_, rfl⟩
    obtain ⟨s, hs⟩ := hex
    rw [hs] at hO hm
    have hM1 := l9_Many 60 ⟨#[116]⟩ (by decide) (by decide)
    have hM2 := l9_Many 61 ⟨#[116]⟩ (by decide) (by decide)
    refine ⟨{ e with text := s }, p + 2, ?_, by omega, ?_⟩
    · refine AFnK.introX (E := En 1 (mdv [] [38])) (en_ok 1 _) Tryd.func37 rfl rfl rfl fun _ _ => ?_
      refine ACall.mk _ _ hP ?_
      refine Split.mk fun t ht => ?_
      cases t
      case true => cases ht
      refine Split.mk fun t ht => ?_
      cases t
      case true => cases ht
      refine Split.mk fun t ht => ?_
      cases t
      case true => cases ht
      refine Split.mk fun t ht => ?_
      cases t
      case true => cases ht
      refine Split.mk fun t ht => ?_
      cases t
      · cases ht
      refine ACall.mk _ _ hM1 ?_
      refine ACall.mk _ _ hM2 ?_
      refine Fz.mk _ (frzS bentT) ?_
      refine ACall.mk _ _ hO ?_
      exact Need.mk ⟨[], _, .same, rfl, rfl⟩ trivial
    · refine ⟨d1, ?_, d3, d4, d5, d6⟩
      simp only [bentT, List.mem_cons, List.not_mem_nil, or_false] at hm
      show s.size ≤ 61
      rcases hm with h | h | h
      · subst h; decide
      · rw [h, manyB_size]; decide
      · rw [h, manyB_size]; decide
  · refine ⟨e, p + 1, ?_, by omega, d1, d2, d3, d4, d5, d6⟩
    refine AFnK.introX (E := En 1 (mdv [] [38])) (en_ok 1 _) Tryd.func37 rfl rfl rfl fun _ _ => ?_
    refine ACall.mk _ _ hP ?_
    refine Split.mk fun t ht => ?_
    cases t
    case true => rw [beq_iff_eq] at ht; omega
    refine Split.mk fun t ht => ?_
    cases t
    case true => rw [beq_iff_eq] at ht; omega
    refine Split.mk fun t ht => ?_
    cases t
    case true => rw [beq_iff_eq] at ht; omega
    refine Split.mk fun t ht => ?_
    cases t
    case true => rw [beq_iff_eq] at ht; omega
    refine Split.mk fun t ht => ?_
    cases t
    case true => rw [beq_iff_eq] at ht; omega
    exact Need.mk ⟨[], _, .same, rfl, rfl⟩ trivial
def batD (bs : List Nat) : Nat → Nat → List Ent → List Ent × Nat
  | 0, p, out => (out, p)
  | n + 1, p, out => batD bs n (entD bs p 0).2 (out ++ [(entD bs p 0).1])
theorem batD_ok (bs : List Nat) : ∀ (n p : Nat) (out : List Ent), (∀ e ∈ out, DE e) → (batD bs n p out).1.length = out.length + n ∧ (∀ e ∈ (batD bs n p out).1, DE e) ∧ p ≤ (batD bs n p out).2 ∧ (batD bs n p out).2 ≤ p + 4 * n := by
  intro n
  induction n with
  | zero => intro p out h; exact ⟨rfl, h, Nat.le_refl _, Nat.le_refl _⟩
  | succ n ih =>
    intro p out h
    obtain ⟨g1, g2, g3, g4⟩ := entD_ok bs p 0
    obtain ⟨h1, h2, h3, h4⟩ := ih (entD bs p 0).2 (out ++ [(entD bs p 0).1]) fun e he => by
      rcases List.mem_append.1 he with he | he
      · exact h e he
      · rw [List.mem_singleton.1 he]; exact g1.de (by rw [g2]; exact ⟨by decide, by decide⟩)
    unfold batD
    rw [List.length_append] at h1
    refine ⟨by rw [h1]; simp; omega, h2, by omega, by omega⟩
def growD (bs : List Nat) (p : Nat) (out : List Ent) : List Ent × Nat :=
  if h : out.length < 12 + pickV bs p 2 then growD bs (entD bs (p + 1) 0).2 (out ++ [(entD bs (p + 1) 0).1]) else (out, p + 1)
termination_by 13 - out.length
decreasing_by
  have := pickV_lt (bs := bs) (p := p) (n := 2) (by decide)
  rw [List.length_append]; simp; omega
theorem growD_ok (bs : List Nat) : ∀ (n p : Nat) (out : List Ent), 13 ≤ out.length + n → out.length ≤ 13 → (∀ e ∈ out, DE e) → (growD bs p out).1.length ≤ 13 ∧ out.length ≤ (growD bs p out).1.length ∧ (∀ e ∈ (growD bs p out).1, DE e) ∧ (growD bs p out).2 ≤ p + 5 * n + 1 := by
  intro n
  induction n with
  | zero =>
    intro p out h1 h2 h3
    have := pickV_lt (bs := bs) (p := p) (n := 2) (by decide)
    unfold growD
    rw [dif_neg (by omega)]
    exact ⟨h2, Nat.le_refl _, h3, by simp⟩
  | succ n ih =>
    intro p out h1 h2 h3
    have hp := pickV_lt (bs := bs) (p := p) (n := 2) (by decide)
    unfold growD
    by_cases hc : out.length < 12 + pickV bs p 2
    · rw [dif_pos hc]
      obtain ⟨g1, g2, g3, g4⟩ := entD_ok bs (p + 1) 0
      have hl : (out ++ [(entD bs (p + 1) 0).1]).length = out.length + 1 := by simp
      obtain ⟨k1, k2, k3, k4⟩ := ih (entD bs (p + 1) 0).2 (out ++ [(entD bs (p + 1) 0).1]) (by omega) (by omega) fun e he => by
        rcases List.mem_append.1 he with he | he
        · exact h3 e he
        · rw [List.mem_singleton.1 he]; exact g1.de (by rw [g2]; exact ⟨by decide, by decide⟩)
      exact ⟨k1, by omega, k3, by omega⟩
    · rw [dif_neg hc]
      exact ⟨h2, Nat.le_refl _, h3, by show p + 1 ≤ _; omega⟩
theorem l5_Batch (bs : List Nat) (p : Nat) (hb : OkB bs) (hp : p ≤ 900000) :
    ∃ (L : List Ent) (q : Nat), AFnK Tryd.prog 35 [.bx 0 0] [rd bs p] [0] (.one (.us 43 (L.map Ent.enc))) [rd bs q] ∧ q ≤ p + 200 ∧ L.length ≤ 13 ∧ ∀ e ∈ L, DE e := by
  have hP1 := l9_pick bs p 5 hb (by omega) (by omega)
  have hk5 := pickV_lt (bs := bs) (p := p) (n := 5) (by decide)
  have hex : ∃ k, pickV bs p 5 = k := ⟨_, rfl⟩
  obtain ⟨k, hk⟩ := hex
  rw [hk] at hP1 hk5
  obtain ⟨b1, b2, b3, b4⟩ := batD_ok bs (k + 1) (p + 1) [] (by simp)
  have hex : ∃ B, batD bs (k + 1) (p + 1) [] = B := ⟨_, rfl⟩
  obtain ⟨⟨B, q1⟩, hB⟩ := hex
  rw [hB] at b1 b2 b3 b4
  simp only [List.length_nil] at b1 b2 b3 b4
  have hP2 := l9_pick bs q1 40 hb (by omega) (by omega)
  have hB0 : 0 < B.length := by omega
  have hBn : (B.map Ent.enc).length = B.length := List.length_map ..
  have g0 : (B.map Ent.enc)[(0 : Nat)]? = some (B[0]).enc := map_get Ent.enc B 0 hB0
  have hnum := l9_num bs (q1 + 1) [1, -1] hb (by omega) (by decide) (by decide)
  obtain ⟨e1, r1, hE1, hr1, de1⟩ := l3_Bent bs (q1 + 1) B[0] hb (by omega) (b2 _ (List.getElem_mem hB0))
  obtain ⟨e2, r2, hE2, hr2, de2⟩ := l3_Bent bs r1 e1 hb (by omega) de1
  obtain ⟨e3, r3, hE3, hr3, de3⟩ := l3_Bent bs r2 e2 hb (by omega) de2
  obtain ⟨w1, w2, w3, w4⟩ := growD_ok bs 13 (q1 + 1) B (by omega) (by omega) b2
  have hex : ∃ v, pickV bs q1 40 = v := ⟨_, rfl⟩
  obtain ⟨v, hv⟩ := hex
  rw [hv] at hP2
  have hadd : IntKind.i64.wrap (1 + ((k : Nat) : Int)) = ((k + 1 : Nat) : Int) := by rw [show (1 + ((k : Nat) : Int)) = ((k + 1 : Nat) : Int) by omega]; exact wrapI' (by omega) (by omega)
  have hse : I64 ([(1 : Int), -1].getD (pickV bs (q1 + 1) 2) 0) := by
    have := pickV_lt (bs := bs) (p := q1 + 1) (n := 2) (by decide)
    have h2 : pickV bs (q1 + 1) 2 = 0 ∨ pickV bs (q1 + 1) 2 = 1 := by omega
    rcases h2 with h | h <;> rw [h] <;> exact ⟨by decide, by decide⟩
  have hex : ∃ y, [(1 : Int), -1].getD (pickV bs (q1 + 1) 2) 0 = y := ⟨_, rfl⟩
  obtain ⟨y, hy⟩ := hex
  have hlen2 : [(1 : Int), -1].length = 2 := rfl
  rw [hlen2, hy] at hnum
  rw [hy] at hse
  have hex : ∃ G, growD bs (q1 + 1) B = G := ⟨_, rfl⟩
  obtain ⟨G, hG⟩ := hex
  rw [hG] at w1 w2 w3 w4
  have hset : ∀ (x : Ent), (B.map Ent.enc).set 0 x.enc = (B.set 0 x).map Ent.enc := fun x => by rw [List.map_set]
  have hdes : ∀ (x : Ent), DE x → (B.set 0 x).length ≤ 13 ∧ ∀ e ∈ B.set 0 x, DE e := fun x hx => ⟨by rw [List.length_set]; omega, fun e he => (List.mem_or_eq_of_mem_set he).elim (b2 e) fun h => by rw [h]; exact hx⟩
  have hd0 := b2 _ (List.getElem_mem hB0)
  have hds := hdes ({ B[0] with seq := y } : Ent) ⟨hd0.1, hd0.2.1, hse, hd0.2.2.2.1, hd0.2.2.2.2.1, hd0.2.2.2.2.2⟩
  obtain ⟨L, q, c0, c1, c2, c3, c4, hq, hLl, hLd⟩ : ∃ (L : List Ent) (q : Nat), (v = 0 → L = [] ∧ q = q1 + 1) ∧ (v = 1 → L = B.set 0 ({ B[0] with seq := y } : Ent) ∧ q = q1 + 1 + 1) ∧ (v = 2 → L = B.set 0 e3 ∧ q = r3) ∧ (v = 3 → L = G.1 ∧ q = G.2) ∧ (¬ v = 0 → ¬ v = 1 → ¬ v = 2 → ¬ v = 3 → L = B ∧ q = q1 + 1) ∧ q ≤ p + 200 ∧ L.length ≤ 13 ∧ ∀ e ∈ L, DE e := by
    by_cases v0 : v = 0
    · exact ⟨[], q1 + 1, fun _ => ⟨rfl, rfl⟩, fun h => by omega, fun h => by omega, fun h => by omega, fun h => absurd v0 h, by omega, by simp, by simp⟩
    · by_cases v1 : v = 1
      · exact ⟨B.set 0 ({ B[0] with seq := y } : Ent), q1 + 1 + 1, fun h => by omega, fun _ => ⟨rfl, rfl⟩, fun h => by omega, fun h => by omega, fun _ h => absurd v1 h, by omega, hds.1, hds.2⟩
      · by_cases v2 : v = 2
        · exact ⟨B.set 0 e3, r3, fun h => by omega, fun h => by omega, fun _ => ⟨rfl, rfl⟩, fun h => by omega, fun _ _ h => absurd v2 h, by omega, (hdes e3 de3).1, (hdes e3 de3).2⟩
        · by_cases v3 : v = 3
          · exact ⟨G.1, G.2, fun h => by omega, fun h => by omega, fun h => by omega, fun _ => ⟨rfl, rfl⟩, fun _ _ _ h => absurd v3 h, by omega, w1, w3⟩
          · exact ⟨B, q1 + 1, fun h => absurd h v0, fun h => absurd h v1, fun h => absurd h v2, fun h => absurd h v3, fun _ _ _ _ => ⟨rfl, rfl⟩, by omega, by omega, b2⟩
  have hround1 : ∀ (n p' : Nat) (out : List Ent), p' ≤ 990000 → batD bs (n + 1) p' out = (B, q1) → ∃ (e : Ent) (p2 : Nat), AFnK Tryd.prog 49 [.bx 0 0, av (.int .i64 0)] [rd bs p'] [0] (.agg e.enc) [rd bs p2] ∧ batD bs n p2 (out ++ [e]) = (B, q1) ∧ p2 ≤ p' + 4 := fun n p' out h1 h2 => by
    obtain ⟨_, _, g3, g4⟩ := entD_ok bs p' 0
    exact ⟨_, _, l3_Entry bs p' 0 hb (by omega), h2, g4⟩
  have hround3 : ∀ (p2 : Nat) (o : List Ent), p2 ≤ 990000 → o.length ≤ 13 → growD bs p2 o = G → ∃ x : Nat, AFnK Tryd.prog 36 [.bx 0 0, av (.int .i64 (2 : Nat))] [rd bs p2] [0] (.one (vi (x : Nat))) [rd bs (p2 + 1)] ∧ IntKind.i64.wrap (12 + ((x : Nat) : Int)) = ((12 + x : Nat) : Int) ∧
      (o.length < 12 + x → ∃ (e : Ent) (p3 : Nat), AFnK Tryd.prog 49 [.bx 0 0, av (.int .i64 0)] [rd bs (p2 + 1)] [0] (.agg e.enc) [rd bs p3] ∧ growD bs p3 (o ++ [e]) = G ∧ p3 ≤ p2 + 5 ∧ o.length < 13) ∧ (¬ o.length < 12 + x → G.1 = o ∧ G.2 = p2 + 1) := fun p2 o h1 h2 h3 => by
    have hk2 := pickV_lt (bs := bs) (p := p2) (n := 2) (by decide)
    obtain ⟨_, _, g3, g4⟩ := entD_ok bs (p2 + 1) 0
    unfold growD at h3
    refine ⟨pickV bs p2 2, l9_pick bs p2 2 hb (by omega) (by omega), by rw [show (12 + ((pickV bs p2 2 : Nat) : Int)) = ((12 + pickV bs p2 2 : Nat) : Int) by omega]; exact wrapI' (by omega) (by omega), fun hc => ?_, fun hc => ?_⟩
    · rw [dif_pos hc] at h3
      exact ⟨_, _, l3_Entry bs (p2 + 1) 0 hb (by omega), h3, by omega, by omega⟩
    · rw [dif_neg hc] at h3
      rw [← h3]; exact ⟨rfl, rfl⟩
  refine ⟨L, q, ?_, hq, hLl, hLd⟩
  refine AFnK.introX (E := En 1 (mdv [] [50])) (en_ok 1 _ _ _ _ _) Tryd.func35 rfl rfl rfl fun _ _ => ?_
  refine ACall.mk _ _ hP1 ?_
  refine Num.mk _ hadd ?_
  let S : List (List C) → Nat → Nat → St := fun R n p => ⟨some (.bx 0 0) :: none :: none :: some (.one (.ref 4 0 (.cell 0))) :: some (av (.int .i64 n)) :: List.replicate 53 none, ⟨0, 0, some [.sl (List.map encB bs), vi p]⟩ :: absent :: absent :: absent :: ⟨0, 1, some [.us 43 R]⟩ :: List.replicate 54 absent⟩
  refine ALoop.mk (fun m s => ∃ (n p' : Nat) (out : List Ent), m = n ∧ n ≤ 5 ∧ p' + 4 * n ≤ p + 1 + 20 ∧ out.length + n ≤ 5 ∧ batD bs n p' out = (B, q1) ∧ s = S (out.map Ent.enc) n p')
    ⟨_, _, Weak.trans (Weak.nrm [true, false, false, true, true] [(0, 0), (6, 4)] rfl rfl rfl) Weak.one, k + 1, p + 1, [], rfl, by omega, by omega, by simp; omega, hB, rfl⟩ ?_
  rintro m s ⟨n, p', out, rfl, hn5, hp', hol, hD, hs⟩
  have hon : (out.map Ent.enc).length = out.length := List.length_map ..
  by_cases hn0 : m = 0
  · subst hn0
    injection hD with hD1 hD2
    subst hD1
    subst hD2
    by_cases v0 : v = 0
    · have hres : RV.one (.us 43 []) = .one (.us 43 (L.map Ent.enc)) := by rw [(c0 v0).1]; rfl
      have hobj : [[C.sl (List.map encB bs), vi ((p' + 1 : Nat) : Int)]] = [rd bs q] := by rw [(c0 v0).2]; rfl
      rw [v0] at hP2
      subst hs
      refine Split.mk fun t h1 => ?_
      cases t
      case true => cases h1
      refine ACall.mk _ _ hP2 ?_
      refine Split.mk fun t h2 => ?_
      cases t
      case false => cases h2
      exact Need.mk ⟨[], _, .same, hres, hobj⟩ trivial
    · by_cases v1 : v = 1
      · have hres : RV.one (.us 43 ((out.map Ent.enc).set 0 [vs out[0].key, vi y, vi out[0].kind, vs out[0].text, vi out[0].n])) = .one (.us 43 (L.map Ent.enc)) := by rw [(c1 v1).1, ← hset]; rfl
        have hobj : [[C.sl (List.map encB bs), vi ((p' + 1 + 1 : Nat) : Int)]] = [rd bs q] := by rw [(c1 v1).2]; rfl
        rw [v1] at hP2
        subst hs
        refine Split.mk fun t h1 => ?_
        cases t
        case true => cases h1
        refine ACall.mk _ _ hP2 ?_
        refine Split.mk fun t h2 => ?_
        cases t
        case true => cases h2
        refine Split.mk fun t h3 => ?_
        cases t
        case false => cases h3
        refine Fz.mk _ (FrzLL.frz (.cons (.cons .v .nil) (.cons (.cons .v .nil) .nil))) ?_
        refine ACall.mk _ _ hnum ?_
        refine Need.mk (by omega) ?_
        refine Row.mk _ g0 ?_
        exact Need.mk ⟨[], _, .same, hres, hobj⟩ trivial
      · by_cases v2 : v = 2
        · have hres : RV.one (.us 43 ((out.map Ent.enc).set 0 e3.enc)) = .one (.us 43 (L.map Ent.enc)) := by rw [(c2 v2).1, ← hset]
          have hobj : [[C.sl (List.map encB bs), vi ((r3 : Nat) : Int)]] = [rd bs q] := by rw [(c2 v2).2]; rfl
          rw [v2] at hP2
          subst hs
          refine Split.mk fun t h1 => ?_
          cases t
          case true => cases h1
          refine ACall.mk _ _ hP2 ?_
          refine Split.mk fun t h2 => ?_
          cases t
          case true => cases h2
          refine Split.mk fun t h3 => ?_
          cases t
          case true => cases h3
          refine Split.mk fun t h4 => ?_
          cases t
          case false => cases h4
          refine Need.mk (by omega) ?_
          refine Row.mk _ g0 ?_
          refine ACall.mk _ _ hE1 ?_
          refine ACall.mk _ _ hE2 ?_
          refine ACall.mk _ _ hE3 ?_
          refine Need.mk (by omega) ?_
          refine Row.mk _ g0 ?_
          exact Need.mk ⟨[], _, .same, hres, hobj⟩ trivial
        · by_cases v3 : v = 3
          · rw [v3] at hP2
            have hLG := c3 v3
            subst hs
            refine Split.mk fun t h1 => ?_
            cases t
            case true => cases h1
            refine ACall.mk _ _ hP2 ?_
            refine Split.mk fun t h2 => ?_
            cases t
            case true => cases h2
            refine Split.mk fun t h3 => ?_
            cases t
            case true => cases h3
            refine Split.mk fun t h4 => ?_
            cases t
            case true => cases h4
            refine Split.mk fun t h5 => ?_
            cases t
            case false => cases h5
            let S3 : List (List C) → Nat → St := fun R p => ⟨some (.bx 0 0) :: none :: none :: some (.one (.ref 4 0 (.cell 0))) :: List.replicate 54 none, ⟨0, 0, some [.sl (List.map encB bs), vi p]⟩ :: absent :: absent :: absent :: ⟨0, 1, some [.us 43 R]⟩ :: List.replicate 54 absent⟩
            refine ALoop.mk (fun m s => ∃ (p2 : Nat) (o : List Ent), m = 13 - o.length ∧ o.length ≤ 13 ∧ p2 + 5 * (13 - o.length) ≤ p + 100 ∧ growD bs p2 o = G ∧ s = S3 (o.map Ent.enc) p2)
              ⟨_, _, Weak.nrm [true, false, false, true] [(0, 0), (4, 4)] rfl rfl rfl, p' + 1, out, rfl, by omega, by omega, hG, rfl⟩ ?_
            rintro m s ⟨p2, o, rfl, ho13, hp2, hg, hs⟩
            have hon2 : (o.map Ent.enc).length = o.length := List.length_map ..
            refine Exists.elim (hround3 p2 o (by omega) ho13 hg) fun x h => ?_
            have hP3 := h.1
            have hadd3 := h.2.1
            by_cases hc : o.length < 12 + x
            · refine Exists.elim (h.2.2.1 hc) fun e h4 => ?_
              refine Exists.elim h4 fun p3 h5 => ?_
              have hE := h5.1
              have hg2 := h5.2.1
              have hp3 := h5.2.2.1
              have ho3 := h5.2.2.2
              clear h h4 h5
              have hmap : (o.map Ent.enc) ++ [e.enc] = (o ++ [e]).map Ent.enc := by rw [List.map_append]; rfl
              have hlen3 : (o ++ [e]).length = o.length + 1 := by simp
              subst hs
              refine ACall.mk _ _ hP3 ?_
              refine Num.mk _ hadd3 ?_
              refine Split.mk fun t h1 => ?_
              cases t
              case false => (exfalso; rw [decide_eq_false_iff_not] at h1; omega)
              rw [decide_eq_true_iff] at h1
              refine ACall.mk _ _ hE ?_
              refine Need.mk (appEq (A' := _) (B' := [e.enc]) rfl rfl (by simp only [List.length_append, List.length_map, List.length_take, List.length_drop, List.length_cons, List.length_nil, List.length_reverse, List.length_replicate, List.length_set]; omega) (by decide)) ?_
              exact ⟨_, _, by omega, Weak.nrm [true, false, false, true] [(0, 0), (57, 4)] rfl rfl rfl, p3, o ++ [e], rfl, by omega, by omega, hg2, congrArg (fun R => S3 R p3) hmap⟩
            · have h6 := h.2.2.2 hc
              clear h
              have hres : RV.one (.us 43 (o.map Ent.enc)) = .one (.us 43 (L.map Ent.enc)) := by rw [hLG.1, h6.1]
              have hobj : [[C.sl (List.map encB bs), vi ((p2 + 1 : Nat) : Int)]] = [rd bs q] := by rw [hLG.2, h6.2]; rfl
              subst hs
              refine ACall.mk _ _ hP3 ?_
              refine Num.mk _ hadd3 ?_
              refine Split.mk fun t h1 => ?_
              cases t
              case true => (exfalso; rw [decide_eq_true_iff] at h1; omega)
              rw [decide_eq_false_iff_not] at h1
              exact Need.mk ⟨[], _, .same, hres, hobj⟩ trivial
          · have hres : RV.one (.us 43 (out.map Ent.enc)) = .one (.us 43 (L.map Ent.enc)) := by rw [(c4 v0 v1 v2 v3).1]
            have hobj : [[C.sl (List.map encB bs), vi ((p' + 1 : Nat) : Int)]] = [rd bs q] := by rw [(c4 v0 v1 v2 v3).2]; rfl
            subst hs
            refine Split.mk fun t h1 => ?_
            cases t
            case true => cases h1
            refine ACall.mk _ _ hP2 ?_
            refine Split.mk fun t h2 => ?_
            cases t
            case true => (exfalso; rw [beq_iff_eq] at h2; omega)
            rw [beq_eq_false_iff_ne] at h2
            refine Split.mk fun t h3 => ?_
            cases t
            case true => (exfalso; rw [beq_iff_eq] at h3; omega)
            rw [beq_eq_false_iff_ne] at h3
            refine Split.mk fun t h4 => ?_
            cases t
            case true => (exfalso; rw [beq_iff_eq] at h4; omega)
            rw [beq_eq_false_iff_ne] at h4
            refine Split.mk fun t h5 => ?_
            cases t
            case true => (exfalso; rw [beq_iff_eq] at h5; omega)
            rw [beq_eq_false_iff_ne] at h5
            exact Need.mk ⟨[], _, .same, hres, hobj⟩ trivial
  · have hj : m = (m - 1) + 1 := by omega
    rw [hj] at hD
    refine Exists.elim (hround1 (m - 1) p' out (by omega) hD) fun e h => ?_
    refine Exists.elim h fun p2 h => ?_
    have hE := h.1
    have hD2 := h.2.1
    have hp2 := h.2.2
    clear h
    have hlen3 : (out ++ [e]).length = out.length + 1 := by simp
    have hmap : (out.map Ent.enc) ++ [e.enc] = (out ++ [e]).map Ent.enc := by rw [List.map_append]; rfl
    have hsub : IntKind.i64.wrap ((m : Int) - 1) = ((m - 1 : Nat) : Int) := wrapI' (by omega) (by omega)
    subst hs
    refine Split.mk fun t h1 => ?_
    cases t
    case false => (exfalso; rw [decide_eq_false_iff_not] at h1; omega)
    rw [decide_eq_true_iff] at h1
    refine ACall.mk _ _ hE ?_
    refine Need.mk (appEq (A' := _) (B' := [e.enc]) rfl rfl (by simp only [List.length_append, List.length_map, List.length_take, List.length_drop, List.length_cons, List.length_nil, List.length_reverse, List.length_replicate, List.length_set]; omega) (by decide)) ?_
    refine Num.mk _ hsub ?_
    exact ⟨_, _, by omega, Weak.nrm [true, false, false, true, true] [(0, 0), (18, 4)] rfl rfl rfl, m - 1, p2, out ++ [e], rfl, by omega, by omega, by omega, hD2, congrArg (fun R => S R (m - 1) p2) hmap⟩
theorem spec_l5Stamp' (seq : Int) (batch : List Ent) (hs : 0 ≤ seq ∧ seq ≤ 100000) (hx : OkE batch) (hl : batch.length ≤ 1048576) (o : List Ent) (c : Bool) (ho : (stampP seq 0 batch).1 = o) (hcb : stampB seq batch = c) : AFn Tryd.prog 34 [sl (batch.map Ent.enc), av (.int .i64 seq)] [] (.tup [.one (.us 43 (o.map Ent.enc)), .one (vb c)]) [] := by
  have hn : (batch.map Ent.enc).length = batch.length := List.length_map ..
  refine AFn.introX (E := En 0 md0) (en_ok 0 _ _ _ _ _) Tryd.func34 rfl rfl rfl fun _ _ => ?_
  let S : Nat → List (List C) → St := fun i R => ⟨some (sl (List.map Ent.enc batch)) :: some (av (.int .i64 seq)) :: none :: none :: none :: none :: some (.one (.ref 6 0 (.cell 0))) :: some (av (.int .i64 i)) :: List.replicate 38 none, absent :: absent :: absent :: absent :: absent :: absent :: ⟨0, 1, some [.us 43 R]⟩ :: List.replicate 39 absent⟩
  refine ALoop.mk (fun m s => ∃ (i : Nat) (R : List (List C)), i ≤ batch.length ∧ m = batch.length - i ∧ (∀ j (_ : j < i) (h : j < batch.length), batch[j].seq = 0 ∧ entOk (stampE seq (0 + j) batch[j]) = true) ∧ R = (stampT seq 0 (batch.take i)).map Ent.enc ∧ s = S i R)
    ⟨_, _, Weak.trans (Weak.nrm [true, true, false, false, false, false, true, true] [(9, 6)] rfl rfl rfl) Weak.one, 0, [], Nat.zero_le _, rfl, fun j h => by omega, rfl, rfl⟩ ?_
  rintro m s ⟨i, R, hi, rfl, hno, hR, hs⟩
  by_cases hin : i < batch.length
  · have hRl : R.length ≤ 1048576 := by rw [hR, List.length_map, stampT_len, List.length_take]; omega
    have hrow := map_get Ent.enc batch i hin
    have hw1 : IntKind.i64.wrap (seq + 1) = seq + 1 := wrapI (by omega) (by omega)
    have hw2 : IntKind.i64.wrap (seq + 1 + (i : Nat)) = seq + 1 + (i : Nat) := wrapI (by omega) (by omega)
    have hE := spec_EntryOk (stampE seq i batch[i]) (show (stampE seq i batch[i]).Ok from hx batch[i] (List.getElem_mem hin))
    have hbad : ¬ (batch[i].seq = 0 ∧ entOk (stampE seq i batch[i]) = true) → c = false ∧ o.map Ent.enc = R := fun h => by
      have := stampP_bad (seq := seq) (i := 0) hin (fun j hj => hno j hj (by omega)) (by rw [Nat.zero_add]; exact h)
      refine ⟨?_, by rw [← ho, this, hR]⟩
      rw [← hcb]
      unfold stampB
      rw [this]; rfl
    by_cases hz : batch[i].seq = 0
    · have hex : ∃ d, entOk (stampE seq i batch[i]) = d := ⟨_, rfl⟩
      obtain ⟨d, hc⟩ := hex
      rw [hc] at hE
      cases d
      · obtain ⟨hb1, hb2⟩ := hbad (fun h => by rw [hc] at h; cases h.2)
        subst hb1
        have hres : (RV.tup [.one (.us 43 R), .one (vb false)]) = .tup [.one (.us 43 (o.map Ent.enc)), .one (vb false)] := by rw [hb2]
        subst hs
        refine Split.mk fun t h1 => ?_
        cases t
        case false => (exfalso; rw [decide_eq_false_iff_not] at h1; omega)
        rw [decide_eq_true_iff] at h1
        refine Need.mk (by omega) ?_
        refine Row.mk _ hrow ?_
        refine Split.mk fun t h2 => ?_
        cases t
        case true => (exfalso; rw [bne_iff_ne] at h2; omega)
        rw [bne_eq_false_iff_eq] at h2
        refine Num.mk _ hw1 ?_
        refine Num.mk _ hw2 ?_
        refine ACall.mk _ _ hE ?_
        refine Split.mk fun t h3 => ?_
        cases t
        case true => cases h3
        exact Need.mk ⟨[], _, .same, hres, rfl⟩ trivial
      · have hno2 : ∀ j (_ : j < i + 1) (h : j < batch.length), batch[j].seq = 0 ∧ entOk (stampE seq (0 + j) batch[j]) = true := fun j hj h => by
          by_cases hji : j = i
          · subst hji; rw [Nat.zero_add]; exact ⟨hz, hc⟩
          · exact hno j (by omega) h
        have hRR : R ++ [(stampE seq i batch[i]).enc] = (stampT seq 0 (batch.take (i + 1))).map Ent.enc := by rw [stampT_snoc hin, List.map_append, hR]; rfl
        subst hs
        refine Split.mk fun t h1 => ?_
        cases t
        case false => (exfalso; rw [decide_eq_false_iff_not] at h1; omega)
        rw [decide_eq_true_iff] at h1
        refine Need.mk (by omega) ?_
        refine Row.mk _ hrow ?_
        refine Split.mk fun t h2 => ?_
        cases t
        case true => (exfalso; rw [bne_iff_ne] at h2; omega)
        rw [bne_eq_false_iff_eq] at h2
        refine Num.mk _ hw1 ?_
        refine Num.mk _ hw2 ?_
        refine ACall.mk _ _ hE ?_
        refine Split.mk fun t h3 => ?_
        cases t
        case false => cases h3
        refine Need.mk (appEq (A' := _) (B' := [[vs batch[i].key, vi (seq + 1 + ↑i), vi batch[i].kind, vs batch[i].text, vi batch[i].n]]) rfl rfl (by simp only [List.length_append, List.length_map, List.length_take, List.length_drop, List.length_cons, List.length_nil, List.length_reverse, List.length_replicate, List.length_set]; omega) (by decide)) ?_
        refine Num.mk _ (wrapS (by omega)) ?_
        exact ⟨_, _, by omega, Weak.nrm [true, true, false, false, false, false, true, true] [(36, 6)] rfl rfl rfl, i + 1, _, by omega, rfl, hno2, hRR, rfl⟩
    · obtain ⟨hb1, hb2⟩ := hbad (fun h => hz h.1)
      subst hb1
      have hres : (RV.tup [.one (.us 43 R), .one (vb false)]) = .tup [.one (.us 43 (o.map Ent.enc)), .one (vb false)] := by rw [hb2]
      subst hs
      refine Split.mk fun t h1 => ?_
      cases t
      case false => (exfalso; rw [decide_eq_false_iff_not] at h1; omega)
      rw [decide_eq_true_iff] at h1
      refine Need.mk (by omega) ?_
      refine Row.mk _ hrow ?_
      refine Split.mk fun t h2 => ?_
      cases t
      case false => (exfalso; rw [bne_eq_false_iff_eq] at h2; omega)
      rw [bne_iff_ne] at h2
      exact Need.mk ⟨[], _, .same, hres, rfl⟩ trivial
  · have hin : i = batch.length := by omega
    have hP : stampP seq 0 batch = (stampT seq 0 batch, true) := stampP_ok fun j h => hno j (by omega) h
    rw [hin, List.take_length] at hR
    rw [hP] at ho
    have ho0 : stampT seq 0 batch = o := ho
    rw [ho0] at hR
    by_cases h1 : 1 ≤ batch.length
    · by_cases h2 : batch.length ≤ 12
      · have hb : stampB seq batch = true := stampB_iff.2 ⟨by rw [hP], h1, h2⟩
        have hc0 : c = true := by rw [← hcb, hb]
        subst hc0
        subst hR
        subst hs
        refine Split.mk fun t h1 => ?_
        cases t
        case true => (exfalso; rw [decide_eq_true_iff] at h1; omega)
        rw [decide_eq_false_iff_not] at h1
        refine Split.mk fun t h2 => ?_
        cases t
        case false => (exfalso; rw [decide_eq_false_iff_not] at h2; omega)
        rw [decide_eq_true_iff] at h2
        refine Split.mk fun t h3 => ?_
        cases t
        case false => (exfalso; rw [decide_eq_false_iff_not] at h3; omega)
        rw [decide_eq_true_iff] at h3
        exact Need.mk ⟨[], _, .same, rfl, rfl⟩ trivial
      · have hb : stampB seq batch = false := by rw [Bool.eq_false_iff]; intro h; exact h2 (stampB_iff.1 h).2.2
        have hc0 : c = false := by rw [← hcb, hb]
        subst hc0
        subst hR
        subst hs
        refine Split.mk fun t h1 => ?_
        cases t
        case true => (exfalso; rw [decide_eq_true_iff] at h1; omega)
        rw [decide_eq_false_iff_not] at h1
        refine Split.mk fun t h2 => ?_
        cases t
        case false => (exfalso; rw [decide_eq_false_iff_not] at h2; omega)
        rw [decide_eq_true_iff] at h2
        refine Split.mk fun t h3 => ?_
        cases t
        case true => (exfalso; rw [decide_eq_true_iff] at h3; omega)
        rw [decide_eq_false_iff_not] at h3
        exact Need.mk ⟨[], _, .same, rfl, rfl⟩ trivial
    · have hb : stampB seq batch = false := by rw [Bool.eq_false_iff]; intro h; exact h1 (stampB_iff.1 h).2.1
      have hc0 : c = false := by rw [← hcb, hb]
      subst hc0
      subst hR
      subst hs
      refine Split.mk fun t h1 => ?_
      cases t
      case true => (exfalso; rw [decide_eq_true_iff] at h1; omega)
      rw [decide_eq_false_iff_not] at h1
      refine Split.mk fun t h2 => ?_
      cases t
      case true => (exfalso; rw [decide_eq_true_iff] at h2; omega)
      rw [decide_eq_false_iff_not] at h2
      exact Need.mk ⟨[], _, .same, rfl, rfl⟩ trivial
theorem spec_l5Stamp (seq : Int) (batch : List Ent) (hs : 0 ≤ seq ∧ seq ≤ 100000) (hx : OkE batch) (hl : batch.length ≤ 1048576) : AFn Tryd.prog 34 [sl (batch.map Ent.enc), av (.int .i64 seq)] [] (.tup [.one (.us 43 ((stampP seq 0 batch).1.map Ent.enc)), .one (vb (stampB seq batch))]) [] :=
  spec_l5Stamp' seq batch hs hx hl _ _ rfl rfl
def frmT : List ByteArray := [⟨#[97, 32, 98]⟩, ⟨#[32]⟩, ⟨#[55, 32, 97, 58, 49, 58, 53, 32, 98, 58, 49, 58, 45, 53]⟩, ⟨#[50, 32, 10]⟩, ⟨#[10]⟩]
theorem frmT_size (z : Nat) (h : z < frmT.length) : (frmT.getD z ⟨#[]⟩).size ≤ 14 := by
  have h5 : z < 5 := h
  rcases (by omega : z = 0 ∨ z = 1 ∨ z = 2 ∨ z = 3 ∨ z = 4) with rfl | rfl | rfl | rfl | rfl <;> decide
theorem Draw_FrameText (bs : List Nat) (hb : ∀ b ∈ bs, b < 256) (hl : bs.length ≤ 1048576) : ∃ L : List Ent, AFn Tryd.prog 16 [sl (bs.map encB)] [] (.one (.us 43 (L.map Ent.enc))) [] ∧ OkE L ∧ L.length ≤ 13 := by
  have hO := l9_Open bs hl
  have hcb := okB_take hb
  generalize bs.take 2000 = cs at hO hcb
  obtain ⟨L0, q1, hBt, hq1, hL0, hD0⟩ := l5_Batch cs 0 hcb (by omega)
  have hP1 := l9_pick cs q1 20 hcb (by omega) (by omega)
  have hk1 := pickV_lt (bs := cs) (p := q1) (n := 20) (by decide)
  generalize pickV cs q1 20 = k1 at hP1 hk1
  have hS := spec_l5Stamp (k1 : Int) L0 (by omega) (fun e he => (hD0 e he).ok) (by omega)
  have hMD := stampP_DE (seq := (k1 : Int)) hD0
  have hMl := stampP_le (seq := (k1 : Int)) L0 0
  generalize (stampP (k1 : Int) 0 L0).1 = M at hS hMD hMl
  generalize stampB (k1 : Int) L0 = c at hS
  cases M with
  | nil =>
    refine ⟨[], ?_, (fun e he => nomatch he), Nat.zero_le _⟩
    refine AFn.introX (E := En 0 (mdv [] [38])) (en_ok 0 _) Tryd.func16 rfl rfl rfl fun _ _ => ?_
    cases c with
    | true =>
      refine ACall.mk _ _ hO ?_
      refine ACall.mk _ _ hBt ?_
      refine ACall.mk _ _ hP1 ?_
      refine Fz.mk _ (frzE _) ?_
      refine ACall.mk _ _ hS ?_
      refine Need.mk (⟨ClL.mem (.us (clE _) (.v .nil)), no_objs⟩) ?_
      refine Split.mk fun t h1 => ?_
      cases t
      case false => cases h1
      refine Split.mk fun t h2 => ?_
      cases t
      case true => cases h2
      refine Split.mk fun t h3 => ?_
      cases t
      case true => cases h3
      exact Need.mk ⟨[], _, .same, rfl, rfl⟩ trivial
    | false =>
      refine ACall.mk _ _ hO ?_
      refine ACall.mk _ _ hBt ?_
      refine ACall.mk _ _ hP1 ?_
      refine Fz.mk _ (frzE _) ?_
      refine ACall.mk _ _ hS ?_
      refine Need.mk (⟨ClL.mem (.us (clE _) (.v .nil)), no_objs⟩) ?_
      refine Split.mk fun t h1 => ?_
      cases t
      case true => cases h1
      refine Split.mk fun t h2 => ?_
      cases t
      case true => cases h2
      refine Split.mk fun t h3 => ?_
      cases t
      case true => cases h3
      exact Need.mk ⟨[], _, .same, rfl, rfl⟩ trivial
  | cons e0 Ms =>
    have hol : (Ms.map Ent.enc).length = Ms.length := List.length_map ..
    have hMl2 : Ms.length + 1 ≤ 13 := by have : (e0 :: Ms).length ≤ L0.length := hMl; simp at this; omega
    have hM0 : DE e0 := hMD e0 (List.mem_cons_self ..)
    have hMs : ∀ e ∈ Ms, e.Ok := fun e he => (hMD e (List.mem_cons_of_mem _ he)).ok
    have hP2 := l9_pick cs (q1 + 1) 12 hcb (by omega) (by omega)
    generalize pickV cs (q1 + 1) 12 = k2 at hP2
    have fin : ∀ x : Ent, x.Ok → OkE (x :: Ms) ∧ (x :: Ms).length ≤ 13 := fun x hx => ⟨fun e he => by
      rcases List.mem_cons.1 he with h | h
      · rw [h]; exact hx
      · exact hMs e h, by simpa using hMl2⟩
    by_cases h2 : k2 = 0
    · subst h2
      obtain ⟨e1, r1, hB1, g1, d1⟩ := l3_Bent cs (q1 + 2) e0 hcb (by omega) hM0
      obtain ⟨e2, r2, hB2, g2, d2⟩ := l3_Bent cs r1 e1 hcb (by omega) d1
      obtain ⟨e3, r3, hB3, g3, d3⟩ := l3_Bent cs r2 e2 hcb (by omega) d2
      have hP3 := l9_pick cs r3 3 hcb (by omega) (by omega)
      generalize pickV cs r3 3 = k3 at hP3
      by_cases h3 : k3 = 0
      · subst h3
        have hF := l9_of cs (r3 + 1) frmT hcb (by omega) (by decide) (by decide)
        have hft := frmT_size _ (pickV_lt (bs := cs) (p := r3 + 1) (n := frmT.length) (by decide))
        generalize frmT.getD (pickV cs (r3 + 1) frmT.length) ⟨#[]⟩ = t at hF hft
        refine ⟨⟨e3.key, e3.seq, 1, t, e3.n⟩ :: Ms, ?_, fin _ ⟨d3.ok.1, by show t.size ≤ maxLen; unfold maxLen; omega⟩⟩
        refine AFn.introX (E := En 0 (mdv [] [38])) (en_ok 0 _) Tryd.func16 rfl rfl rfl fun _ _ => ?_
        cases c with
        | true =>
          refine ACall.mk _ _ hO ?_
          refine ACall.mk _ _ hBt ?_
          refine ACall.mk _ _ hP1 ?_
          refine Fz.mk _ (frzE _) ?_
          refine ACall.mk _ _ hS ?_
          refine Need.mk (⟨ClL.mem (.us (clE _) (.v .nil)), no_objs⟩) ?_
          refine Split.mk fun t h1 => ?_
          cases t
          case false => cases h1
          refine Split.mk fun t h2 => ?_
          cases t
          case false => (exfalso; simp at h2; done)
          rw [decide_eq_true_iff] at h2
          refine ACall.mk _ _ hP2 ?_
          refine Split.mk fun t h3 => ?_
          cases t
          case false => cases h3
          refine Need.mk (by omega) ?_
          refine Row.mk _ rfl ?_
          refine ACall.mk _ _ hB1 ?_
          refine ACall.mk _ _ hB2 ?_
          refine ACall.mk _ _ hB3 ?_
          refine Need.mk (by omega) ?_
          refine Row.mk _ rfl ?_
          refine Split.mk fun t h4 => ?_
          cases t
          case false => (exfalso; rw [decide_eq_false_iff_not] at h4; exact absurd ‹_› h4)
          rw [decide_eq_true_iff] at h4
          refine ACall.mk _ _ hP3 ?_
          refine Split.mk fun t h5 => ?_
          cases t
          case false => cases h5
          refine Need.mk (by omega) ?_
          refine Row.mk _ rfl ?_
          refine Fz.mk _ (FrzLL.frz (.cons (.cons .v .nil) (.cons (.cons .v .nil) (.cons (.cons .v .nil) (.cons (.cons .v .nil) (.cons (.cons .v .nil) .nil)))))) ?_
          refine ACall.mk _ _ hF ?_
          refine Need.mk (by simp) ?_
          refine Row.mk _ rfl ?_
          exact Need.mk ⟨[], _, .same, rfl, rfl⟩ trivial
        | false =>
          refine ACall.mk _ _ hO ?_
          refine ACall.mk _ _ hBt ?_
          refine ACall.mk _ _ hP1 ?_
          refine Fz.mk _ (frzE _) ?_
          refine ACall.mk _ _ hS ?_
          refine Need.mk (⟨ClL.mem (.us (clE _) (.v .nil)), no_objs⟩) ?_
          refine Split.mk fun t h1 => ?_
          cases t
          case true => cases h1
          refine Split.mk fun t h2 => ?_
          cases t
          case false => (exfalso; simp at h2; done)
          rw [decide_eq_true_iff] at h2
          refine ACall.mk _ _ hP2 ?_
          refine Split.mk fun t h3 => ?_
          cases t
          case false => cases h3
          refine Need.mk (by omega) ?_
          refine Row.mk _ rfl ?_
          refine ACall.mk _ _ hB1 ?_
          refine ACall.mk _ _ hB2 ?_
          refine ACall.mk _ _ hB3 ?_
          refine Need.mk (by omega) ?_
          refine Row.mk _ rfl ?_
          refine Split.mk fun t h4 => ?_
          cases t
          case false => (exfalso; rw [decide_eq_false_iff_not] at h4; exact absurd ‹_› h4)
          rw [decide_eq_true_iff] at h4
          refine ACall.mk _ _ hP3 ?_
          refine Split.mk fun t h5 => ?_
          cases t
          case false => cases h5
          refine Need.mk (by omega) ?_
          refine Row.mk _ rfl ?_
          refine Fz.mk _ (FrzLL.frz (.cons (.cons .v .nil) (.cons (.cons .v .nil) (.cons (.cons .v .nil) (.cons (.cons .v .nil) (.cons (.cons .v .nil) .nil)))))) ?_
          refine ACall.mk _ _ hF ?_
          refine Need.mk (by simp) ?_
          refine Row.mk _ rfl ?_
          exact Need.mk ⟨[], _, .same, rfl, rfl⟩ trivial
      · refine ⟨e3 :: Ms, ?_, fin _ d3.ok⟩
        refine AFn.introX (E := En 0 (mdv [] [38])) (en_ok 0 _) Tryd.func16 rfl rfl rfl fun _ _ => ?_
        cases c with
        | true =>
          refine ACall.mk _ _ hO ?_
          refine ACall.mk _ _ hBt ?_
          refine ACall.mk _ _ hP1 ?_
          refine Fz.mk _ (frzE _) ?_
          refine ACall.mk _ _ hS ?_
          refine Need.mk (⟨ClL.mem (.us (clE _) (.v .nil)), no_objs⟩) ?_
          refine Split.mk fun t h1 => ?_
          cases t
          case false => cases h1
          refine Split.mk fun t h2 => ?_
          cases t
          case false => (exfalso; simp at h2; done)
          rw [decide_eq_true_iff] at h2
          refine ACall.mk _ _ hP2 ?_
          refine Split.mk fun t h3 => ?_
          cases t
          case false => cases h3
          refine Need.mk (by omega) ?_
          refine Row.mk _ rfl ?_
          refine ACall.mk _ _ hB1 ?_
          refine ACall.mk _ _ hB2 ?_
          refine ACall.mk _ _ hB3 ?_
          refine Need.mk (by omega) ?_
          refine Row.mk _ rfl ?_
          refine Split.mk fun t h4 => ?_
          cases t
          case false => (exfalso; rw [decide_eq_false_iff_not] at h4; exact absurd ‹_› h4)
          rw [decide_eq_true_iff] at h4
          refine ACall.mk _ _ hP3 ?_
          refine Split.mk fun t h5 => ?_
          cases t
          case true => (exfalso; rw [beq_iff_eq] at h5; omega)
          rw [beq_eq_false_iff_ne] at h5
          exact Need.mk ⟨[], _, .same, rfl, rfl⟩ trivial
        | false =>
          refine ACall.mk _ _ hO ?_
          refine ACall.mk _ _ hBt ?_
          refine ACall.mk _ _ hP1 ?_
          refine Fz.mk _ (frzE _) ?_
          refine ACall.mk _ _ hS ?_
          refine Need.mk (⟨ClL.mem (.us (clE _) (.v .nil)), no_objs⟩) ?_
          refine Split.mk fun t h1 => ?_
          cases t
          case true => cases h1
          refine Split.mk fun t h2 => ?_
          cases t
          case false => (exfalso; simp at h2; done)
          rw [decide_eq_true_iff] at h2
          refine ACall.mk _ _ hP2 ?_
          refine Split.mk fun t h3 => ?_
          cases t
          case false => cases h3
          refine Need.mk (by omega) ?_
          refine Row.mk _ rfl ?_
          refine ACall.mk _ _ hB1 ?_
          refine ACall.mk _ _ hB2 ?_
          refine ACall.mk _ _ hB3 ?_
          refine Need.mk (by omega) ?_
          refine Row.mk _ rfl ?_
          refine Split.mk fun t h4 => ?_
          cases t
          case false => (exfalso; rw [decide_eq_false_iff_not] at h4; exact absurd ‹_› h4)
          rw [decide_eq_true_iff] at h4
          refine ACall.mk _ _ hP3 ?_
          refine Split.mk fun t h5 => ?_
          cases t
          case true => (exfalso; rw [beq_iff_eq] at h5; omega)
          rw [beq_eq_false_iff_ne] at h5
          exact Need.mk ⟨[], _, .same, rfl, rfl⟩ trivial
    · have hP3 := l9_pick cs (q1 + 2) 3 hcb (by omega) (by omega)
      generalize pickV cs (q1 + 2) 3 = k3 at hP3
      by_cases h3 : k3 = 0
      · subst h3
        have hF := l9_of cs (q1 + 3) frmT hcb (by omega) (by decide) (by decide)
        have hft := frmT_size _ (pickV_lt (bs := cs) (p := q1 + 3) (n := frmT.length) (by decide))
        generalize frmT.getD (pickV cs (q1 + 3) frmT.length) ⟨#[]⟩ = t at hF hft
        refine ⟨⟨e0.key, e0.seq, 1, t, e0.n⟩ :: Ms, ?_, fin _ ⟨hM0.ok.1, by show t.size ≤ maxLen; unfold maxLen; omega⟩⟩
        refine AFn.introX (E := En 0 (mdv [] [38])) (en_ok 0 _) Tryd.func16 rfl rfl rfl fun _ _ => ?_
        cases c with
        | true =>
          refine ACall.mk _ _ hO ?_
          refine ACall.mk _ _ hBt ?_
          refine ACall.mk _ _ hP1 ?_
          refine Fz.mk _ (frzE _) ?_
          refine ACall.mk _ _ hS ?_
          refine Need.mk (⟨ClL.mem (.us (clE _) (.v .nil)), no_objs⟩) ?_
          refine Split.mk fun t h1 => ?_
          cases t
          case false => cases h1
          refine Split.mk fun t h2 => ?_
          cases t
          case false => (exfalso; simp at h2; done)
          rw [decide_eq_true_iff] at h2
          refine ACall.mk _ _ hP2 ?_
          refine Split.mk fun t h3 => ?_
          cases t
          case true => (exfalso; rw [beq_iff_eq] at h3; omega)
          rw [beq_eq_false_iff_ne] at h3
          refine Split.mk fun t h4 => ?_
          cases t
          case false => (exfalso; rw [decide_eq_false_iff_not] at h4; omega)
          rw [decide_eq_true_iff] at h4
          refine ACall.mk _ _ hP3 ?_
          refine Split.mk fun t h5 => ?_
          cases t
          case false => cases h5
          refine Need.mk (by omega) ?_
          refine Row.mk _ rfl ?_
          refine Fz.mk _ (FrzLL.frz (.cons (.cons .v .nil) (.cons (.cons .v .nil) (.cons (.cons .v .nil) (.cons (.cons .v .nil) (.cons (.cons .v .nil) .nil)))))) ?_
          refine ACall.mk _ _ hF ?_
          refine Need.mk (by simp) ?_
          refine Row.mk _ rfl ?_
          exact Need.mk ⟨[], _, .same, rfl, rfl⟩ trivial
        | false =>
          refine ACall.mk _ _ hO ?_
          refine ACall.mk _ _ hBt ?_
          refine ACall.mk _ _ hP1 ?_
          refine Fz.mk _ (frzE _) ?_
          refine ACall.mk _ _ hS ?_
          refine Need.mk (⟨ClL.mem (.us (clE _) (.v .nil)), no_objs⟩) ?_
          refine Split.mk fun t h1 => ?_
          cases t
          case true => cases h1
          refine Split.mk fun t h2 => ?_
          cases t
          case false => (exfalso; simp at h2; done)
          rw [decide_eq_true_iff] at h2
          refine ACall.mk _ _ hP2 ?_
          refine Split.mk fun t h3 => ?_
          cases t
          case true => (exfalso; rw [beq_iff_eq] at h3; omega)
          rw [beq_eq_false_iff_ne] at h3
          refine Split.mk fun t h4 => ?_
          cases t
          case false => (exfalso; rw [decide_eq_false_iff_not] at h4; omega)
          rw [decide_eq_true_iff] at h4
          refine ACall.mk _ _ hP3 ?_
          refine Split.mk fun t h5 => ?_
          cases t
          case false => cases h5
          refine Need.mk (by omega) ?_
          refine Row.mk _ rfl ?_
          refine Fz.mk _ (FrzLL.frz (.cons (.cons .v .nil) (.cons (.cons .v .nil) (.cons (.cons .v .nil) (.cons (.cons .v .nil) (.cons (.cons .v .nil) .nil)))))) ?_
          refine ACall.mk _ _ hF ?_
          refine Need.mk (by simp) ?_
          refine Row.mk _ rfl ?_
          exact Need.mk ⟨[], _, .same, rfl, rfl⟩ trivial
      · refine ⟨e0 :: Ms, ?_, fin _ hM0.ok⟩
        refine AFn.introX (E := En 0 (mdv [] [38])) (en_ok 0 _) Tryd.func16 rfl rfl rfl fun _ _ => ?_
        cases c with
        | true =>
          refine ACall.mk _ _ hO ?_
          refine ACall.mk _ _ hBt ?_
          refine ACall.mk _ _ hP1 ?_
          refine Fz.mk _ (frzE _) ?_
          refine ACall.mk _ _ hS ?_
          refine Need.mk (⟨ClL.mem (.us (clE _) (.v .nil)), no_objs⟩) ?_
          refine Split.mk fun t h1 => ?_
          cases t
          case false => cases h1
          refine Split.mk fun t h2 => ?_
          cases t
          case false => (exfalso; simp at h2; done)
          rw [decide_eq_true_iff] at h2
          refine ACall.mk _ _ hP2 ?_
          refine Split.mk fun t h3 => ?_
          cases t
          case true => (exfalso; rw [beq_iff_eq] at h3; omega)
          rw [beq_eq_false_iff_ne] at h3
          refine Split.mk fun t h4 => ?_
          cases t
          case false => (exfalso; rw [decide_eq_false_iff_not] at h4; omega)
          rw [decide_eq_true_iff] at h4
          refine ACall.mk _ _ hP3 ?_
          refine Split.mk fun t h5 => ?_
          cases t
          case true => (exfalso; rw [beq_iff_eq] at h5; omega)
          rw [beq_eq_false_iff_ne] at h5
          exact Need.mk ⟨[], _, .same, rfl, rfl⟩ trivial
        | false =>
          refine ACall.mk _ _ hO ?_
          refine ACall.mk _ _ hBt ?_
          refine ACall.mk _ _ hP1 ?_
          refine Fz.mk _ (frzE _) ?_
          refine ACall.mk _ _ hS ?_
          refine Need.mk (⟨ClL.mem (.us (clE _) (.v .nil)), no_objs⟩) ?_
          refine Split.mk fun t h1 => ?_
          cases t
          case true => cases h1
          refine Split.mk fun t h2 => ?_
          cases t
          case false => (exfalso; simp at h2; done)
          rw [decide_eq_true_iff] at h2
          refine ACall.mk _ _ hP2 ?_
          refine Split.mk fun t h3 => ?_
          cases t
          case true => (exfalso; rw [beq_iff_eq] at h3; omega)
          rw [beq_eq_false_iff_ne] at h3
          refine Split.mk fun t h4 => ?_
          cases t
          case false => (exfalso; rw [decide_eq_false_iff_not] at h4; omega)
          rw [decide_eq_true_iff] at h4
          refine ACall.mk _ _ hP3 ?_
          refine Split.mk fun t h5 => ?_
          cases t
          case true => (exfalso; rw [beq_iff_eq] at h5; omega)
          rw [beq_eq_false_iff_ne] at h5
          exact Need.mk ⟨[], _, .same, rfl, rfl⟩ trivial
def frmU : List ByteArray := [⟨#[]⟩, ⟨#[48]⟩, ⟨#[32]⟩, ⟨#[120]⟩, ⟨#[57]⟩, ⟨#[10]⟩]
theorem frmU_size (z : Nat) (h : z < frmU.length) : (frmU.getD z ⟨#[]⟩).size ≤ 1 := by
  have h5 : z < 6 := h
  rcases (by omega : z = 0 ∨ z = 1 ∨ z = 2 ∨ z = 3 ∨ z = 4 ∨ z = 5) with rfl | rfl | rfl | rfl | rfl | rfl <;> decide
theorem frameT_max (b : List Ent) : (frameT b).length ≤ 1300 := by
  by_cases h : batOk b = true
  · obtain ⟨h1, h2, h3, h4⟩ := batOk_p h
    have hl := bodyT_len b h3
    have hi := itoa_len8 (n := ((bodyT b).length : Int)) (by omega) (by omega)
    rw [frameT_pos h, List.length_append, List.length_cons, List.length_append, List.length_singleton]
    omega
  · rw [frameT_neg h]; simp
/-- The text and the reader's place behind some frames. -/
theorem frames_step (cs : List Nat) (hcb : OkB cs) (p : Nat) (hp : p ≤ 2000) : ∃ (L M : List Ent) (q : Nat) (k : Nat) (c : Bool), AFnK Tryd.prog 35 [.bx 0 0] [rd cs p] [0] (.one (.us 43 (L.map Ent.enc))) [rd cs q] ∧
    AFnK Tryd.prog 36 [.bx 0 0, av (.int .i64 20)] [rd cs q] [0] (.one (vi k)) [rd cs (q + 1)] ∧ AFn Tryd.prog 34 [sl (L.map Ent.enc), av (.int .i64 k)] [] (.tup [.one (.us 43 (M.map Ent.enc)), .one (vb c)]) [] ∧
    AFn Tryd.prog 7 [.one (.c (.sl (M.map Ent.enc)))] [] (.one (vs (bt (frameT M)))) [] ∧ q ≤ p + 200 ∧ (bt (frameT M)).size ≤ 1300 := by
  obtain ⟨L0, q1, hBt, hq1, hL0, hD0⟩ := l5_Batch cs p hcb (by omega)
  have hP1 := l9_pick cs q1 20 hcb (by omega) (by omega)
  have hk1 := pickV_lt (bs := cs) (p := q1) (n := 20) (by decide)
  generalize pickV cs q1 20 = k1 at hP1 hk1
  have hS := spec_l5Stamp (k1 : Int) L0 (by omega) (fun e he => (hD0 e he).ok) (by omega)
  have hMD := stampP_DE (seq := (k1 : Int)) hD0
  have hMl := stampP_le (seq := (k1 : Int)) L0 0
  refine ⟨L0, _, q1, k1, _, hBt, hP1, hS, spec_FrameText _ (fun e he => (hMD e he).ok) (by omega), hq1, ?_⟩
  rw [bt_size]
  exact frameT_max _
theorem Draw_FrameRead (bs : List Nat) (hb : ∀ b ∈ bs, b < 256) (hl : bs.length ≤ 1048576) : ∃ s : ByteArray, AFn Tryd.prog 18 [sl (bs.map encB)] [] (.one (vs s)) [] ∧ s.size ≤ 10000 := by
  have hO := l9_Open bs hl
  have hcb := okB_take hb
  generalize bs.take 2000 = cs at hO hcb
  have hP := l9_pick cs 0 4 hcb (by omega) (by omega)
  have hk := pickV_lt (bs := cs) (p := 0) (n := 4) (by decide)
  generalize pickV cs 0 4 = k at hP hk
  have hst : ∀ p : Nat, ∃ x : (List Ent × List Ent) × (Nat × Nat × Bool), p ≤ 2000 → AFnK Tryd.prog 35 [.bx 0 0] [rd cs p] [0] (.one (.us 43 (x.1.1.map Ent.enc))) [rd cs x.2.1] ∧
      AFnK Tryd.prog 36 [.bx 0 0, av (.int .i64 20)] [rd cs x.2.1] [0] (.one (vi x.2.2.1)) [rd cs (x.2.1 + 1)] ∧ AFn Tryd.prog 34 [sl (x.1.1.map Ent.enc), av (.int .i64 x.2.2.1)] [] (.tup [.one (.us 43 (x.1.2.map Ent.enc)), .one (vb x.2.2.2)]) [] ∧
      AFn Tryd.prog 7 [.one (.c (.sl (x.1.2.map Ent.enc)))] [] (.one (vs (bt (frameT x.1.2)))) [] ∧ x.2.1 ≤ p + 200 ∧ (bt (frameT x.1.2)).size ≤ 1300 := fun p => by
    by_cases hp : p ≤ 2000
    · obtain ⟨L, M, q, k, c, h⟩ := frames_step cs hcb p hp
      exact ⟨((L, M), (q, k, c)), fun _ => h⟩
    · exact ⟨(([], []), (0, 0, false)), fun h => absurd h hp⟩
  have hex : ∃ f : Nat → (List Ent × List Ent) × (Nat × Nat × Bool), ∀ p, p ≤ 2000 → AFnK Tryd.prog 35 [.bx 0 0] [rd cs p] [0] (.one (.us 43 ((f p).1.1.map Ent.enc))) [rd cs (f p).2.1] ∧
      AFnK Tryd.prog 36 [.bx 0 0, av (.int .i64 20)] [rd cs (f p).2.1] [0] (.one (vi (f p).2.2.1)) [rd cs ((f p).2.1 + 1)] ∧ AFn Tryd.prog 34 [sl ((f p).1.1.map Ent.enc), av (.int .i64 (f p).2.2.1)] [] (.tup [.one (.us 43 ((f p).1.2.map Ent.enc)), .one (vb (f p).2.2.2)]) [] ∧
      AFn Tryd.prog 7 [.one (.c (.sl ((f p).1.2.map Ent.enc)))] [] (.one (vs (bt (frameT (f p).1.2)))) [] ∧ (f p).2.1 ≤ p + 200 ∧ (bt (frameT (f p).1.2)).size ≤ 1300 := ⟨fun p => Classical.choose (hst p), fun p => Classical.choose_spec (hst p)⟩
  clear hst
  obtain ⟨f, hf⟩ := hex
  obtain ⟨run, hrun0, hrunS⟩ : ∃ run : Nat → Nat → ByteArray → ByteArray × Nat, (∀ p o, run 0 p o = (o, p)) ∧ ∀ n p o, run (n + 1) p o = run n ((f p).2.1 + 1) (o ++ bt (frameT (f p).1.2)) :=
    ⟨fun n => Nat.rec (fun p o => (o, p)) (fun _ ih p o => ih ((f p).2.1 + 1) (o ++ bt (frameT (f p).1.2))) n, fun _ _ => rfl, fun _ _ _ => rfl⟩
  have hbd : ∀ n p o, p + 201 * n ≤ 2000 → (run n p o).1.size ≤ o.size + 1300 * n ∧ (run n p o).2 ≤ p + 201 * n := by
    intro n
    induction n with
    | zero => intro p o h; rw [hrun0]; exact ⟨Nat.le_refl _, Nat.le_refl _⟩
    | succ n ih =>
      intro p o h
      obtain ⟨_, _, _, _, h1, h2⟩ := hf p (by omega)
      have := ih ((f p).2.1 + 1) (o ++ bt (frameT (f p).1.2)) (by omega)
      rw [ByteArray.size_append] at this
      rw [hrunS]
      omega
  have hex : ∃ x, run k 1 ⟨#[]⟩ = x := ⟨_, rfl⟩
  obtain ⟨⟨T, P1⟩, hR⟩ := hex
  have hTP := hbd k 1 ⟨#[]⟩ (by omega)
  rw [hR] at hTP
  have hz0 : (⟨#[]⟩ : ByteArray).size = 0 := rfl
  rw [hz0] at hTP
  have hTs : T.size ≤ 3900 := by have := hTP.1; simp only at this; omega
  have hPs : P1 ≤ 700 := by have := hTP.2; simp only at this; omega
  have hround : ∀ n p o, run (n + 1) p o = (T, P1) → p + 201 * (n + 1) ≤ 2000 → o.size + 1300 * (n + 1) ≤ 10000 → ∃ (L M : List Ent) (q v : Nat) (c : Bool) (t : ByteArray), AFnK Tryd.prog 35 [.bx 0 0] [rd cs p] [0] (.one (.us 43 (L.map Ent.enc))) [rd cs q] ∧
      AFnK Tryd.prog 36 [.bx 0 0, av (.int .i64 20)] [rd cs q] [0] (.one (vi v)) [rd cs (q + 1)] ∧ AFn Tryd.prog 34 [sl (L.map Ent.enc), av (.int .i64 v)] [] (.tup [.one (.us 43 (M.map Ent.enc)), .one (vb c)]) [] ∧
      AFn Tryd.prog 7 [.one (.c (.sl (M.map Ent.enc)))] [] (.one (vs t)) [] ∧ q + 1 ≤ p + 201 ∧ t.size ≤ 1300 ∧ run n (q + 1) (o ++ t) = (T, P1) := by
    intro n p o h h1 h2
    obtain ⟨a1, a2, a3, a4, a5, a6⟩ := hf p (by omega)
    rw [hrunS] at h
    exact ⟨_, _, _, _, _, _, a1, a2, a3, a4, by omega, a6, h⟩
  clear hf hrunS hbd hTP hz0
  by_cases hT0 : T.size = 0
  · refine ⟨T, ?_, by omega⟩
    refine AFn.introX (E := En 0 (mdv [] [38])) (en_ok 0 _) Tryd.func18 rfl rfl rfl fun _ _ => ?_
    refine ACall.mk _ _ hO ?_
    refine ACall.mk _ _ hP ?_
    let S : Nat → Nat → ByteArray → St := fun n p o => ⟨none :: none :: none :: some (.bx 3 0) :: some (av (.string o)) :: some (av (.int .i64 n)) :: List.replicate 50 none, absent :: absent :: absent :: ⟨0, 0, some [.sl (List.map encB cs), vi p]⟩ :: List.replicate 52 absent⟩
    refine ALoop.mk (fun m s => ∃ (p : Nat) (o : ByteArray), (p + 201 * m ≤ 2000 ∧ o.size + 1300 * m ≤ 10000 ∧ m ≤ 3) ∧ run m p o = (T, P1) ∧ s = S m p o)
      ⟨_, _, Weak.nrm [false, false, false, true, true, true] [(10, 3)] rfl rfl rfl, 1, ⟨#[]⟩, ⟨by omega, by show 0 + 1300 * k ≤ 10000; omega, by omega⟩, hR, rfl⟩ ?_
    rintro n st ⟨p, o, hpo, hI, hst⟩
    by_cases hn : n ≠ 0
    · refine Exists.elim (Nat.exists_eq_succ_of_ne_zero hn) fun n' hn' => ?_
      subst hn'
      refine Exists.elim (hround n' p o hI hpo.1 hpo.2.1) fun L hx => ?_
      refine Exists.elim hx fun M hx => ?_
      refine Exists.elim hx fun q hx => ?_
      refine Exists.elim hx fun v hx => ?_
      refine Exists.elim hx fun c hx => ?_
      refine Exists.elim hx fun t hx => ?_
      have hB := hx.1
      have hV := hx.2.1
      have hS := hx.2.2.1
      have hFT := hx.2.2.2.1
      have hq := hx.2.2.2.2.1
      have ht := hx.2.2.2.2.2.1
      have hI2 := hx.2.2.2.2.2.2
      have hsub : IntKind.i64.wrap (((n'.succ : Nat) : Int) - 1) = ((n' : Nat) : Int) := by rw [wrapI] <;> omega
      have hos : (o ++ t).size = o.size + t.size := ByteArray.size_append ..
      clear hx hI hround hn
      subst hst
      cases c with
      | true =>
        refine Split.mk fun t h1 => ?_
        cases t
        case false => (exfalso; rw [decide_eq_false_iff_not] at h1; omega)
        rw [decide_eq_true_iff] at h1
        refine ACall.mk _ _ hB ?_
        refine ACall.mk _ _ hV ?_
        refine Fz.mk _ (frzE _) ?_
        refine ACall.mk _ _ hS ?_
        refine Need.mk (⟨ClL.mem (.us (clE _) (.v .nil)), no_objs⟩) ?_
        refine Split.mk fun t h2 => ?_
        cases t
        case false => cases h2
        refine Fz.mk _ (frzE _) ?_
        refine ACall.mk _ _ hFT ?_
        refine Need.mk (⟨ClL.mem (.v .nil), no_objs⟩) ?_
        refine Need.mk (strFits (by omega)) ?_
        refine Num.mk _ hsub ?_
        exact ⟨_, _, by omega, Weak.nrm [false, false, false, true, true, true] [(3, 3)] rfl rfl rfl, q + 1, o ++ t, ⟨by omega, by omega, by omega⟩, hI2, rfl⟩
      | false =>
        refine Split.mk fun t h1 => ?_
        cases t
        case false => (exfalso; rw [decide_eq_false_iff_not] at h1; omega)
        rw [decide_eq_true_iff] at h1
        refine ACall.mk _ _ hB ?_
        refine ACall.mk _ _ hV ?_
        refine Fz.mk _ (frzE _) ?_
        refine ACall.mk _ _ hS ?_
        refine Need.mk (⟨ClL.mem (.us (clE _) (.v .nil)), no_objs⟩) ?_
        refine Split.mk fun t h2 => ?_
        cases t
        case true => cases h2
        refine Fz.mk _ (frzE _) ?_
        refine ACall.mk _ _ hFT ?_
        refine Need.mk (⟨ClL.mem (.v .nil), no_objs⟩) ?_
        refine Need.mk (strFits (by omega)) ?_
        refine Num.mk _ hsub ?_
        exact ⟨_, _, by omega, Weak.nrm [false, false, false, true, true, true] [(3, 3)] rfl rfl rfl, q + 1, o ++ t, ⟨by omega, by omega, by omega⟩, hI2, rfl⟩
    have hn0 : n = 0 := by omega
    subst hn0
    have hI3 := (hrun0 p o).symm.trans hI
    have hoT : o = T := congrArg Prod.fst hI3
    have hpT : p = P1 := congrArg Prod.snd hI3
    subst hoT
    subst hpT
    clear hround hI hI3 hR hn
    subst hst
    refine Split.mk fun t h1 => ?_
    cases t
    case true => cases h1
    refine Split.mk fun t h2 => ?_
    cases t
    case false => (exfalso; rw [beq_eq_false_iff_ne] at h2; omega)
    rw [beq_iff_eq] at h2
    exact Need.mk ⟨[], _, .same, rfl, rfl⟩ trivial
  · have hP2 := l9_pick cs P1 2 hcb (by omega) (by omega)
    generalize pickV cs P1 2 = k2 at hP2
    by_cases h2 : k2 = 0
    · subst h2
      refine ⟨T, ?_, by omega⟩
      refine AFn.introX (E := En 0 (mdv [] [38])) (en_ok 0 _) Tryd.func18 rfl rfl rfl fun _ _ => ?_
      refine ACall.mk _ _ hO ?_
      refine ACall.mk _ _ hP ?_
      let S : Nat → Nat → ByteArray → St := fun n p o => ⟨none :: none :: none :: some (.bx 3 0) :: some (av (.string o)) :: some (av (.int .i64 n)) :: List.replicate 50 none, absent :: absent :: absent :: ⟨0, 0, some [.sl (List.map encB cs), vi p]⟩ :: List.replicate 52 absent⟩
      refine ALoop.mk (fun m s => ∃ (p : Nat) (o : ByteArray), (p + 201 * m ≤ 2000 ∧ o.size + 1300 * m ≤ 10000 ∧ m ≤ 3) ∧ run m p o = (T, P1) ∧ s = S m p o)
        ⟨_, _, Weak.nrm [false, false, false, true, true, true] [(10, 3)] rfl rfl rfl, 1, ⟨#[]⟩, ⟨by omega, by show 0 + 1300 * k ≤ 10000; omega, by omega⟩, hR, rfl⟩ ?_
      rintro n st ⟨p, o, hpo, hI, hst⟩
      by_cases hn : n ≠ 0
      · refine Exists.elim (Nat.exists_eq_succ_of_ne_zero hn) fun n' hn' => ?_
        subst hn'
        refine Exists.elim (hround n' p o hI hpo.1 hpo.2.1) fun L hx => ?_
        refine Exists.elim hx fun M hx => ?_
        refine Exists.elim hx fun q hx => ?_
        refine Exists.elim hx fun v hx => ?_
        refine Exists.elim hx fun c hx => ?_
        refine Exists.elim hx fun t hx => ?_
        have hB := hx.1
        have hV := hx.2.1
        have hS := hx.2.2.1
        have hFT := hx.2.2.2.1
        have hq := hx.2.2.2.2.1
        have ht := hx.2.2.2.2.2.1
        have hI2 := hx.2.2.2.2.2.2
        have hsub : IntKind.i64.wrap (((n'.succ : Nat) : Int) - 1) = ((n' : Nat) : Int) := by rw [wrapI] <;> omega
        have hos : (o ++ t).size = o.size + t.size := ByteArray.size_append ..
        clear hx hI hround hn
        subst hst
        cases c with
        | true =>
          refine Split.mk fun t h1 => ?_
          cases t
          case false => (exfalso; rw [decide_eq_false_iff_not] at h1; omega)
          rw [decide_eq_true_iff] at h1
          refine ACall.mk _ _ hB ?_
          refine ACall.mk _ _ hV ?_
          refine Fz.mk _ (frzE _) ?_
          refine ACall.mk _ _ hS ?_
          refine Need.mk (⟨ClL.mem (.us (clE _) (.v .nil)), no_objs⟩) ?_
          refine Split.mk fun t h2 => ?_
          cases t
          case false => cases h2
          refine Fz.mk _ (frzE _) ?_
          refine ACall.mk _ _ hFT ?_
          refine Need.mk (⟨ClL.mem (.v .nil), no_objs⟩) ?_
          refine Need.mk (strFits (by omega)) ?_
          refine Num.mk _ hsub ?_
          exact ⟨_, _, by omega, Weak.nrm [false, false, false, true, true, true] [(3, 3)] rfl rfl rfl, q + 1, o ++ t, ⟨by omega, by omega, by omega⟩, hI2, rfl⟩
        | false =>
          refine Split.mk fun t h1 => ?_
          cases t
          case false => (exfalso; rw [decide_eq_false_iff_not] at h1; omega)
          rw [decide_eq_true_iff] at h1
          refine ACall.mk _ _ hB ?_
          refine ACall.mk _ _ hV ?_
          refine Fz.mk _ (frzE _) ?_
          refine ACall.mk _ _ hS ?_
          refine Need.mk (⟨ClL.mem (.us (clE _) (.v .nil)), no_objs⟩) ?_
          refine Split.mk fun t h2 => ?_
          cases t
          case true => cases h2
          refine Fz.mk _ (frzE _) ?_
          refine ACall.mk _ _ hFT ?_
          refine Need.mk (⟨ClL.mem (.v .nil), no_objs⟩) ?_
          refine Need.mk (strFits (by omega)) ?_
          refine Num.mk _ hsub ?_
          exact ⟨_, _, by omega, Weak.nrm [false, false, false, true, true, true] [(3, 3)] rfl rfl rfl, q + 1, o ++ t, ⟨by omega, by omega, by omega⟩, hI2, rfl⟩
      have hn0 : n = 0 := by omega
      subst hn0
      have hI3 := (hrun0 p o).symm.trans hI
      have hoT : o = T := congrArg Prod.fst hI3
      have hpT : p = P1 := congrArg Prod.snd hI3
      subst hoT
      subst hpT
      clear hround hI hI3 hR hn
      subst hst
      refine Split.mk fun t h1 => ?_
      cases t
      case true => cases h1
      refine Split.mk fun t h2 => ?_
      cases t
      case true => (exfalso; rw [beq_iff_eq] at h2; omega)
      rw [beq_eq_false_iff_ne] at h2
      refine ACall.mk _ _ hP2 ?_
      refine Split.mk fun t h3 => ?_
      cases t
      case false => cases h3
      exact Need.mk ⟨[], _, .same, rfl, rfl⟩ trivial
    · have hP3 := l9_pick cs (P1 + 1) T.size hcb (by omega) (by omega)
      have hk3 := pickV_lt (bs := cs) (p := P1 + 1) (n := T.size) (by omega)
      generalize pickV cs (P1 + 1) T.size = k3 at hP3 hk3
      have hF := l9_of cs (P1 + 2) frmU hcb (by omega) (by decide) (by decide)
      have hft := frmU_size _ (pickV_lt (bs := cs) (p := P1 + 2) (n := frmU.length) (by decide))
      generalize frmU.getD (pickV cs (P1 + 2) frmU.length) ⟨#[]⟩ = u at hF hft
      have hP4 := l9_pick cs (P1 + 3) 2 hcb (by omega) (by omega)
      have hk4 := pickV_lt (bs := cs) (p := P1 + 3) (n := 2) (by decide)
      generalize pickV cs (P1 + 3) 2 = k4 at hP4 hk4
      have hsz1 := ext_size T 0 k3
      have hsz2 := ext_size T (k3 + k4) T.size
      refine ⟨T.extract 0 k3 ++ u ++ T.extract (k3 + k4) T.size, ?_, by rw [ByteArray.size_append, ByteArray.size_append]; omega⟩
      refine AFn.introX (E := En 0 (mdv [] [38])) (en_ok 0 _) Tryd.func18 rfl rfl rfl fun _ _ => ?_
      refine ACall.mk _ _ hO ?_
      refine ACall.mk _ _ hP ?_
      let S : Nat → Nat → ByteArray → St := fun n p o => ⟨none :: none :: none :: some (.bx 3 0) :: some (av (.string o)) :: some (av (.int .i64 n)) :: List.replicate 50 none, absent :: absent :: absent :: ⟨0, 0, some [.sl (List.map encB cs), vi p]⟩ :: List.replicate 52 absent⟩
      refine ALoop.mk (fun m s => ∃ (p : Nat) (o : ByteArray), (p + 201 * m ≤ 2000 ∧ o.size + 1300 * m ≤ 10000 ∧ m ≤ 3) ∧ run m p o = (T, P1) ∧ s = S m p o)
        ⟨_, _, Weak.nrm [false, false, false, true, true, true] [(10, 3)] rfl rfl rfl, 1, ⟨#[]⟩, ⟨by omega, by show 0 + 1300 * k ≤ 10000; omega, by omega⟩, hR, rfl⟩ ?_
      rintro n st ⟨p, o, hpo, hI, hst⟩
      by_cases hn : n ≠ 0
      · refine Exists.elim (Nat.exists_eq_succ_of_ne_zero hn) fun n' hn' => ?_
        subst hn'
        refine Exists.elim (hround n' p o hI hpo.1 hpo.2.1) fun L hx => ?_
        refine Exists.elim hx fun M hx => ?_
        refine Exists.elim hx fun q hx => ?_
        refine Exists.elim hx fun v hx => ?_
        refine Exists.elim hx fun c hx => ?_
        refine Exists.elim hx fun t hx => ?_
        have hB := hx.1
        have hV := hx.2.1
        have hS := hx.2.2.1
        have hFT := hx.2.2.2.1
        have hq := hx.2.2.2.2.1
        have ht := hx.2.2.2.2.2.1
        have hI2 := hx.2.2.2.2.2.2
        have hsub : IntKind.i64.wrap (((n'.succ : Nat) : Int) - 1) = ((n' : Nat) : Int) := by rw [wrapI] <;> omega
        have hos : (o ++ t).size = o.size + t.size := ByteArray.size_append ..
        clear hx hI hround hn
        subst hst
        cases c with
        | true =>
          refine Split.mk fun t h1 => ?_
          cases t
          case false => (exfalso; rw [decide_eq_false_iff_not] at h1; omega)
          rw [decide_eq_true_iff] at h1
          refine ACall.mk _ _ hB ?_
          refine ACall.mk _ _ hV ?_
          refine Fz.mk _ (frzE _) ?_
          refine ACall.mk _ _ hS ?_
          refine Need.mk (⟨ClL.mem (.us (clE _) (.v .nil)), no_objs⟩) ?_
          refine Split.mk fun t h2 => ?_
          cases t
          case false => cases h2
          refine Fz.mk _ (frzE _) ?_
          refine ACall.mk _ _ hFT ?_
          refine Need.mk (⟨ClL.mem (.v .nil), no_objs⟩) ?_
          refine Need.mk (strFits (by omega)) ?_
          refine Num.mk _ hsub ?_
          exact ⟨_, _, by omega, Weak.nrm [false, false, false, true, true, true] [(3, 3)] rfl rfl rfl, q + 1, o ++ t, ⟨by omega, by omega, by omega⟩, hI2, rfl⟩
        | false =>
          refine Split.mk fun t h1 => ?_
          cases t
          case false => (exfalso; rw [decide_eq_false_iff_not] at h1; omega)
          rw [decide_eq_true_iff] at h1
          refine ACall.mk _ _ hB ?_
          refine ACall.mk _ _ hV ?_
          refine Fz.mk _ (frzE _) ?_
          refine ACall.mk _ _ hS ?_
          refine Need.mk (⟨ClL.mem (.us (clE _) (.v .nil)), no_objs⟩) ?_
          refine Split.mk fun t h2 => ?_
          cases t
          case true => cases h2
          refine Fz.mk _ (frzE _) ?_
          refine ACall.mk _ _ hFT ?_
          refine Need.mk (⟨ClL.mem (.v .nil), no_objs⟩) ?_
          refine Need.mk (strFits (by omega)) ?_
          refine Num.mk _ hsub ?_
          exact ⟨_, _, by omega, Weak.nrm [false, false, false, true, true, true] [(3, 3)] rfl rfl rfl, q + 1, o ++ t, ⟨by omega, by omega, by omega⟩, hI2, rfl⟩
      have hn0 : n = 0 := by omega
      subst hn0
      have hI3 := (hrun0 p o).symm.trans hI
      have hoT : o = T := congrArg Prod.fst hI3
      have hpT : p = P1 := congrArg Prod.snd hI3
      subst hoT
      subst hpT
      clear hround hI hI3 hR hn
      subst hst
      refine Split.mk fun t h1 => ?_
      cases t
      case true => cases h1
      refine Split.mk fun t h2 => ?_
      cases t
      case true => (exfalso; rw [beq_iff_eq] at h2; omega)
      rw [beq_eq_false_iff_ne] at h2
      refine ACall.mk _ _ hP2 ?_
      refine Split.mk fun t h3 => ?_
      cases t
      case true => (exfalso; rw [beq_iff_eq] at h3; omega)
      rw [beq_eq_false_iff_ne] at h3
      refine ACall.mk _ _ hP3 ?_
      refine Need.mk (by omega) ?_
      refine Fz.mk _ (FrzLL.frz (.cons (.cons .v .nil) (.cons (.cons .v .nil) (.cons (.cons .v .nil) (.cons (.cons .v .nil) (.cons (.cons .v .nil) (.cons (.cons .v .nil) .nil))))))) ?_
      refine ACall.mk _ _ hF ?_
      refine Need.mk (strFits (by have h1 := ext_size o 0 k3; have h2 : (o.extract (Int.toNat 0) (k3 : Int).toNat).size ≤ o.size := h1; omega)) ?_
      refine ACall.mk _ _ hP4 ?_
      refine Num.mk _ (wrapI (by omega) (by omega)) ?_
      refine Need.mk (by omega) ?_
      refine Need.mk (strFits (by have h2 := ext_size o (Int.toNat 0) (k3 : Int).toNat; have h3 := ext_size o ((k3 : Int) + (k4 : Int)).toNat (o.size : Int).toNat; rw [ByteArray.size_append]; omega)) ?_
      refine Need.mk (rfl) ?_
      exact Need.mk ⟨[], _, .same, rfl, rfl⟩ trivial
end Go.Proofs.YtncnajcpoacdjaaDoor
