/-
  Contracts of functions, part 2.
-/
import Derived.Test.YtncnajcpoacdjaaDoorTFnFrame
set_option linter.unusedVariables false
set_option linter.unusedSimpArgs false
namespace Go.Proofs.YtncnajcpoacdjaaDoor
open Go Go.Proofs Ev
set_option maxRecDepth 100000
set_option maxHeartbeats 40000000
set_option linter.unusedSimpArgs false
set_option linter.unusedVariables false
theorem spec_FrameText (b : List Ent) (hb : OkE b) (hl : b.length ≤ 1048576) : AFn Tryd.prog 7 [.one (.c (.sl (b.map Ent.enc)))] [] (.one (vs (bt (frameT b)))) [] := by
  cases h : batOk b with
  | true => exact spec_FrameText1 b hb hl h
  | false => exact spec_FrameText0 b hb hl h
theorem l6_Frame (s : ByteArray) (p : Nat) (hs : s.size ≤ 1048576) (hp : p ≤ s.size) (b : List Ent) (z : Int) (hf : frameA s p = (b, z)) : AFn Tryd.prog 29 [av (.string s), av (.int .i64 p)] [] (.tup [.one (.us 43 (b.map Ent.enc)), .one (vi z)]) [] := by
  have hN := l6_Num s p hs (by omega)
  have hr := numA_rng s p (by omega)
  have hgt := numA_gt hp
  unfold frameA at hf
  have hex : ∃ q, numA s p = q := ⟨_, rfl⟩
  obtain ⟨⟨n, q⟩, hq⟩ := hex
  rw [hq] at hN hr hf hgt
  have hN2 : AFn Tryd.prog 43 [av (.string s), av (.int .i64 p)] [] (.tup [.one (vi n), .one (vi q)]) [] := hN
  simp only at hr hf hgt
  clear hN hq
  by_cases h1 : q < 0
  · rw [if_pos (.inl h1)] at hf
    injection hf with e1 e2
    subst e1; subst e2
    refine AFn.introX (E := En 0 md0) (en_ok 0 md0) Tryd.func29 rfl rfl rfl fun _ _ => ?_
    refine ACall.mk _ _ hN2 ?_
    refine Split.mk fun t h1 => ?_
    cases t
    case false => (exfalso; rw [decide_eq_false_iff_not] at h1; omega)
    rw [decide_eq_true_iff] at h1
    exact Need.mk ⟨[], _, .same, rfl, rfl⟩ trivial
  · by_cases h2 : n < 0
    · rw [if_pos (.inr (.inl h2))] at hf
      injection hf with e1 e2
      subst e1; subst e2
      refine AFn.introX (E := En 0 md0) (en_ok 0 md0) Tryd.func29 rfl rfl rfl fun _ _ => ?_
      refine ACall.mk _ _ hN2 ?_
      refine Split.mk fun t h1 => ?_
      cases t
      case true => (exfalso; rw [decide_eq_true_iff] at h1; omega)
      rw [decide_eq_false_iff_not] at h1
      refine Split.mk fun t h2 => ?_
      cases t
      case false => (exfalso; rw [decide_eq_false_iff_not] at h2; omega)
      rw [decide_eq_true_iff] at h2
      exact Need.mk ⟨[], _, .same, rfl, rfl⟩ trivial
    · by_cases h3 : (s.size : Int) - q - 1 < n
      · rw [if_pos (.inr (.inr h3))] at hf
        injection hf with e1 e2
        subst e1; subst e2
        refine AFn.introX (E := En 0 md0) (en_ok 0 md0) Tryd.func29 rfl rfl rfl fun _ _ => ?_
        refine ACall.mk _ _ hN2 ?_
        refine Split.mk fun t h1 => ?_
        cases t
        case true => (exfalso; rw [decide_eq_true_iff] at h1; omega)
        rw [decide_eq_false_iff_not] at h1
        refine Split.mk fun t h2 => ?_
        cases t
        case true => (exfalso; rw [decide_eq_true_iff] at h2; omega)
        rw [decide_eq_false_iff_not] at h2
        refine Num.mk _ (wrapI (by omega) (by omega)) ?_
        refine Num.mk _ (wrapI (by omega) (by omega)) ?_
        refine Split.mk fun t h3 => ?_
        cases t
        case false => (exfalso; rw [decide_eq_false_iff_not] at h3; omega)
        rw [decide_eq_true_iff] at h3
        exact Need.mk ⟨[], _, .same, rfl, rfl⟩ trivial
      · have hgt2 := hgt h1
        rw [if_neg (by omega)] at hf
        have hxs := ext_size s q.toNat (q + n).toNat
        have hB := l6_Body (s.extract q.toNat (q + n).toNat) (by omega)
        have hT := spec_FrameText (bodyA (s.extract q.toNat (q + n).toNat)) (bodyA_Ok (by unfold maxLen; omega)) (Nat.le_trans (bodyA_len _) (by decide))
        generalize bodyA (s.extract q.toNat (q + n).toNat) = B at hB hT hf
        have e3 : ((p : Int)).toNat = p := by omega
        by_cases h4 : bt (frameT B) = s.extract p (q + n + 1).toNat
        · rw [if_pos h4] at hf
          injection hf with e1 e2
          subst e1; subst e2
          rw [← e3] at h4
          refine AFn.introX (E := En 0 md0) (en_ok 0 md0) Tryd.func29 rfl rfl rfl fun _ _ => ?_
          refine ACall.mk _ _ hN2 ?_
          refine Split.mk fun t h1 => ?_
          cases t
          case true => (exfalso; rw [decide_eq_true_iff] at h1; omega)
          rw [decide_eq_false_iff_not] at h1
          refine Split.mk fun t h2 => ?_
          cases t
          case true => (exfalso; rw [decide_eq_true_iff] at h2; omega)
          rw [decide_eq_false_iff_not] at h2
          refine Num.mk _ (wrapI (by omega) (by omega)) ?_
          refine Num.mk _ (wrapI (by omega) (by omega)) ?_
          refine Split.mk fun t h3 => ?_
          cases t
          case true => (exfalso; rw [decide_eq_true_iff] at h3; omega)
          rw [decide_eq_false_iff_not] at h3
          refine Num.mk _ (wrapI (by omega) (by omega)) ?_
          refine Need.mk (by omega) ?_
          refine ACall.mk _ _ hB ?_
          refine Fz.mk _ (frzE _) ?_
          refine ACall.mk _ _ hT ?_
          refine Need.mk (⟨ClL.mem (.v .nil), no_objs⟩) ?_
          refine Num.mk _ (wrapI (by omega) (by omega)) ?_
          refine Num.mk _ (wrapI (by omega) (by omega)) ?_
          refine Need.mk (by omega) ?_
          refine Split.mk fun t h4 => ?_
          cases t
          case true => (exfalso; rw [Bool.not_eq_true', bytes_beq, decide_eq_false_iff_not] at h4; exact absurd ‹_› h4)
          rw [Bool.not_eq_false', bytes_beq, decide_eq_true_iff] at h4
          refine Need.mk (rfl) ?_
          refine Num.mk _ (wrapI (by omega) (by omega)) ?_
          refine Num.mk _ (wrapI (by omega) (by omega)) ?_
          exact Need.mk ⟨[], _, .same, rfl, rfl⟩ trivial
        · rw [if_neg h4] at hf
          injection hf with e1 e2
          subst e1; subst e2
          rw [← e3] at h4
          refine AFn.introX (E := En 0 md0) (en_ok 0 md0) Tryd.func29 rfl rfl rfl fun _ _ => ?_
          refine ACall.mk _ _ hN2 ?_
          refine Split.mk fun t h1 => ?_
          cases t
          case true => (exfalso; rw [decide_eq_true_iff] at h1; omega)
          rw [decide_eq_false_iff_not] at h1
          refine Split.mk fun t h2 => ?_
          cases t
          case true => (exfalso; rw [decide_eq_true_iff] at h2; omega)
          rw [decide_eq_false_iff_not] at h2
          refine Num.mk _ (wrapI (by omega) (by omega)) ?_
          refine Num.mk _ (wrapI (by omega) (by omega)) ?_
          refine Split.mk fun t h3 => ?_
          cases t
          case true => (exfalso; rw [decide_eq_true_iff] at h3; omega)
          rw [decide_eq_false_iff_not] at h3
          refine Num.mk _ (wrapI (by omega) (by omega)) ?_
          refine Need.mk (by omega) ?_
          refine ACall.mk _ _ hB ?_
          refine Fz.mk _ (frzE _) ?_
          refine ACall.mk _ _ hT ?_
          refine Need.mk (⟨ClL.mem (.v .nil), no_objs⟩) ?_
          refine Num.mk _ (wrapI (by omega) (by omega)) ?_
          refine Num.mk _ (wrapI (by omega) (by omega)) ?_
          refine Need.mk (by omega) ?_
          refine Split.mk fun t h4 => ?_
          cases t
          case false => (exfalso; rw [Bool.not_eq_false', bytes_beq, decide_eq_true_iff] at h4; exact absurd h4 ‹_›)
          rw [Bool.not_eq_true', bytes_beq, decide_eq_false_iff_not] at h4
          refine Need.mk (rfl) ?_
          exact Need.mk ⟨[], _, .same, rfl, rfl⟩ trivial
def encXO (l : List Ent) : List C := [.us 43 (l.map Ent.enc)]
theorem frzX (xs : List (List Ent)) : Frz (.us 25 (xs.map encXO)) (.sl (xs.map encX)) := frz_map fun r _ => .cons (frzE r) .nil
theorem clX (xs : List (List Ent)) : ∀ r ∈ xs.map encXO, ClL r := cl_map (f := encXO) (fun l => .us (clE l) .nil) xs
theorem spec_FrameRead (s : ByteArray) (hs : s.size ≤ 1048576) (R : List (List Ent)) (r : Bs) (hR : readD (tb s) = (R, r)) : AFn Tryd.prog 11 [av (.string s)] [] (.tup [.one (.us 25 (R.map encXO)), .one (vi ((s.size : Int) - r.length))]) [] := by
  refine AFn.introX (E := En 0 md0) (en_ok 0 md0) Tryd.func11 rfl rfl rfl fun _ _ => ?_
  let S : List (List Ent) → Nat → St := fun out p => ⟨some (av (.string s)) :: none :: none :: none :: some (.one (.ref 4 0 (.cell 0))) :: some (av (.int .i64 p)) :: List.replicate 24 none, absent :: absent :: absent :: absent :: ⟨0, 1, some [.us 25 (out.map encXO)]⟩ :: List.replicate 25 absent⟩
  refine ALoop.mk (fun m s' => ∃ (out : List (List Ent)) (p : Nat), (p ≤ s.size ∧ out.length ≤ p ∧ m = s.size - p) ∧ readD (tb s) = (out ++ (readD ((tb s).drop p)).1, (readD ((tb s).drop p)).2) ∧ s' = S out p)
    ⟨_, _, Weak.trans (Weak.nrm [true, false, false, false, true, true] [(8, 4)] rfl rfl rfl) Weak.one, [], 0, ⟨Nat.zero_le _, Nat.zero_le _, rfl⟩, rfl, rfl⟩ ?_
  rintro m st ⟨out, p, ⟨hp, hop, rfl⟩, hI, hst⟩
  have hol : (out.map encXO).length = out.length := List.length_map ..
  by_cases hlt : p < s.size
  · have hF := frameA_rng hp
    by_cases hn : frameD ((tb s).drop p) = none
    · have hA := l6_Frame s p hs hp [] (-1) (frameA_no hp hn)
      have hres : RV.tup [.one (.us 25 (out.map encXO)), .one (vi (p : Int))] = RV.tup [.one (.us 25 (R.map encXO)), .one (vi ((s.size : Int) - r.length))] := by
        rw [readD_none hn, hR] at hI
        injection hI with e1 e2
        rw [List.append_nil] at e1
        rw [e1, e2, List.length_drop, tb_len, show (s.size : Int) - ((s.size - p : Nat) : Int) = p by omega]
      subst hst
      refine Split.mk fun t h1 => ?_
      cases t
      case false => (exfalso; rw [decide_eq_false_iff_not] at h1; omega)
      rw [decide_eq_true_iff] at h1
      refine ACall.mk _ _ hA ?_
      refine Split.mk fun t h2 => ?_
      cases t
      case false => cases h2
      exact Need.mk ⟨[], _, .same, hres, rfl⟩ trivial
    · have hex : ∃ (b : List Ent) (q : Nat), frameA s p = (b, (q : Int)) ∧ p < q ∧ q ≤ s.size ∧ frameD ((tb s).drop p) = some (b, (tb s).drop q) := hF.resolve_left fun h => hn h.2
      obtain ⟨b, q, h1, h2, h3, h4⟩ := hex
      have hA := l6_Frame s p hs hp b q h1
      rw [readD_some h4] at hI
      have hI2 : readD (tb s) = ((out ++ [b]) ++ (readD ((tb s).drop q)).1, (readD ((tb s).drop q)).2) := by rw [hI]; simp
      have hol2 : (out ++ [b]).length = out.length + 1 := by simp
      have hmap : out.map encXO ++ [encXO b] = (out ++ [b]).map encXO := by rw [List.map_append]; rfl
      clear hF hn h1 h4 hI
      subst hst
      refine Split.mk fun t h1 => ?_
      cases t
      case false => (exfalso; rw [decide_eq_false_iff_not] at h1; omega)
      rw [decide_eq_true_iff] at h1
      refine ACall.mk _ _ hA ?_
      refine Split.mk fun t h2 => ?_
      cases t
      case true => cases h2
      refine Need.mk (appEq (A' := _) (B' := [encXO b]) rfl rfl (by simp only [List.length_append, List.length_map, List.length_take, List.length_drop, List.length_cons, List.length_nil, List.length_reverse, List.length_replicate, List.length_set]; omega) (by decide)) ?_
      exact ⟨_, _, by omega, Weak.nrm [true, false, false, false, true, true] [(26, 4)] rfl rfl rfl, out ++ [b], q, ⟨h3, by omega, rfl⟩, hI2, congrArg (fun R => (⟨some (av (.string s)) :: none :: none :: none :: some (.one (.ref 4 0 (.cell 0))) :: some (av (.int .i64 q)) :: List.replicate 24 none, absent :: absent :: absent :: absent :: ⟨0, 1, some [.us 25 R]⟩ :: List.replicate 25 absent⟩ : St)) hmap⟩
  · have hres : RV.tup [.one (.us 25 (out.map encXO)), .one (vi (p : Int))] = RV.tup [.one (.us 25 (R.map encXO)), .one (vi ((s.size : Int) - r.length))] := by
      rw [drop_nil.2 (by omega), readD_nil, hR] at hI
      injection hI with e1 e2
      rw [List.append_nil] at e1
      rw [e1, e2, show (s.size : Int) - (([] : Bs).length : Int) = p by simp; omega]
    subst hst
    refine Split.mk fun t h1 => ?_
    cases t
    case true => (exfalso; rw [decide_eq_true_iff] at h1; omega)
    rw [decide_eq_false_iff_not] at h1
    exact Need.mk ⟨[], _, .same, hres, rfl⟩ trivial
section
open Go.RowKit Go.Shelf
theorem sizeBld : (Tryd.prog.info? 48).map (·.size) = some 2 := by kernel_rfl
theorem liesBld : liesAt Tryd.prog Tryd.prog.depth 48 (2 / Tryd.prog.cellsOf 48) 0 48 1 = true := by kernel_rfl
set_option maxHeartbeats 4000000 in
theorem cc_used (b : Nat) (w : World) (h0 : w.cell? ⟨b, 0, none⟩ = some (.pointer (some ⟨b, 0, none⟩))) :
    Calls Tryd.prog 41 #[.pointer (some ⟨b, 0, none⟩)] w fun e w' => e = .returned (.tuple #[]) ∧ w' = w := by
  obtain ⟨j, hj, _⟩ := Option.map_eq_some_iff.1 sizeBld
  go_enter Tryd.func41, Tryd.ntmps41
  go_wp2
  rw [Lib.run_neq_ptr_same w _ Tryd.underlying46 hj]
  go_wp2
  go_end0
  exact ⟨rfl, rfl⟩
set_option maxHeartbeats 4000000 in
theorem cc_fresh (b : Nat) (w : World) (h0 : w.cell? ⟨b, 0, none⟩ = some (.pointer none)) (hsh : w.shape? b = some (48, 2)) (hfz : w.frozen? ⟨b, 0, none⟩ = false) :
    Calls Tryd.prog 41 #[.pointer (some ⟨b, 0, none⟩)] w fun e w' => e = .returned (.tuple #[]) ∧ w' = w.setCell ⟨b, 0, none⟩ (.pointer (some ⟨b, 0, none⟩)) := by
  obtain ⟨j, hj, hjs⟩ := Option.map_eq_some_iff.1 sizeBld
  go_enter Tryd.func41, Tryd.ntmps41
  go_wp2
  rw [Lib.run_to_unsafe w ⟨b, 0, none⟩ Tryd.underlying46 Tryd.underlying90 hj (by rw [hjs]; decide) hsh (Nat.zero_lt_succ 1)]
  simp only [Result.andThen]
  rw [Oper.upon_value]
  go_wp2
  rw [run_callFunc_extern Tryd.func55 (by kernel_rfl) (by kernel_rfl) (by kernel_rfl) (e := Extern.AbiNoEscape.same) (by kernel_rfl)]
  rw [Lib.run_noEscape]
  simp only [Result.andThen]
  rw [Oper.upon_value]
  go_wp2
  rw [Lib.run_from_unsafe w ⟨b, 0, none⟩ Tryd.underlying90 Tryd.underlying46 hj hsh liesBld]
  simp only [Result.andThen]
  rw [Oper.upon_value]
  go_wp2
  go_end0
  exact ⟨rfl, rfl⟩
/-- Worlds that part at one block alone. -/
structure OneBlk (g : Nat) (w w' : World) : Prop where
  os : w'.os = w.os
  tape : w'.tape = w.tape
  output : w'.output = w.output
  size : w'.heap.size = w.heap.size
  block : ∀ k, k ≠ g → w'.heap[k]? = w.heap[k]?
theorem cc_any (b : Nat) (u v : Value) (w : World) (hb : w.heap[b]? = some (.cells #[u, v] 48 (0, 0))) (hu : u = .pointer none ∨ u = .pointer (some ⟨b, 0, none⟩)) :
    Calls Tryd.prog 41 #[.pointer (some ⟨b, 0, none⟩)] w fun e w' => e = .returned (.tuple #[]) ∧ w'.heap[b]? = some (.cells #[.pointer (some ⟨b, 0, none⟩), v] 48 (0, 0)) ∧ OneBlk b w w' := by
  have c0 : w.cell? ⟨b, 0, none⟩ = some u := by rw [Lib.cell_of_heap hb]; rfl
  rcases hu with rfl | rfl
  · refine (cc_fresh b w c0 (by simp [World.shape?, hb]) (Lib.frozen_of_heap hb 0)).mono ?_
    rintro e w' ⟨rfl, rfl⟩
    refine ⟨rfl, ?_, ⟨rfl, rfl, rfl, by simp, fun k hk => heap_setCell_other w _ k _ hk⟩⟩
    rw [heap_setCell_same w b 0 _ _ _ hb]
    rfl
  · refine (cc_used b w c0).mono ?_
    rintro e w' ⟨rfl, rfl⟩
    exact ⟨rfl, hb, ⟨rfl, rfl, rfl, rfl, fun _ _ => rfl⟩⟩
theorem byteInfo : (Tryd.prog.info? 5).map (fun i => (i.zero, i.size, i.bytes)) = some (some (.int .u8 0), 1, 1) := by kernel_rfl
theorem cellsU8 : Tryd.prog.cellsOf 5 = 1 := by kernel_rfl
set_option maxHeartbeats 4000000 in
theorem ws_walk (b : Nat) (u v : Value) (bs : List Value) (s : ByteArray) (w : World) (hb : w.heap[b]? = some (.cells #[u, v] 48 (0, 0))) (hu : u = .pointer none ∨ u = .pointer (some ⟨b, 0, none⟩))
    (hown : w.ownsRow 0 5 1 v bs.length bs) (hlen : bs.length + s.size ≤ 140737488355328) :
    Calls Tryd.prog 24 #[.pointer (some ⟨b, 0, none⟩), .string s] w fun e w' => e = .returned (.tuple #[.int .i64 s.size, .nilIface]) ∧ ∃ v', w'.heap[b]? = some (.cells #[.pointer (some ⟨b, 0, none⟩), v'] 48 (0, 0)) ∧
      w'.ownsRow 0 5 1 v' (bs.length + s.size) (bs ++ Lib.strCells s) ∧ (v'.ownBlock = none ∨ v'.ownBlock = v.ownBlock ∨ v'.ownBlock = some w.heap.size) ∧ w'.os = w.os ∧ w'.tape = w.tape ∧ w'.output = w.output ∧ w.heap.size ≤ w'.heap.size ∧
      ∀ k, k < w.heap.size → k ≠ b → some k ≠ v.ownBlock → w'.heap[k]? = w.heap[k]? := by
  obtain ⟨i0, hi, hz0, hz1, hz2⟩ := info_parts byteInfo
  have eCC : ∀ args w, (callFunc 41 args).run Tryd.prog w = .ok (.enter 41 args) w := enters_of Tryd.func41 (by kernel_rfl) rfl
  have hlt : b < w.heap.size := (Array.getElem?_eq_some_iff.1 hb).1
  have hne : v.ownBlock ≠ some b := fun e => by
    rcases hown.2 with ⟨rfl, _⟩ | ⟨g, cap, cur, rfl, _, hg, _⟩
    · cases e
    · injection e with e; subst e
      rw [hb] at hg; injection hg with hg; injection hg with _ hg _; cases hg
  go_enter Tryd.func24, Tryd.ntmps24
  go_wp2_with (go_at_fn 41; refine (cc_any b u v _ hb hu).mono ?_)
  rintro e w1 ⟨rfl, hbk, hob⟩
  have hown1 : w1.ownsRow 0 5 1 v bs.length bs := ownsRow_move hown fun g hg => hob.block g fun e => hne (by rw [hg, e])
  have c0 : w1.cell? ⟨b, 0, none⟩ = some (.pointer (some ⟨b, 0, none⟩)) := by rw [Lib.cell_of_heap hbk]; rfl
  have c1 : w1.cell? ⟨b, 1, none⟩ = some v := by rw [Lib.cell_of_heap hbk]; rfl
  go_wp2_with (at_builtin; refine wpList_appStr rfl _ _ 35 9 rfl 5 i0 Tryd.underlying35 Tryd.underlying9 hi hz0 hz1 hz2 _ _ _ rfl hown1 s rfl hlen ?_)
  intro v' w2 hown' hgrow hat
  have hb2 : w2.heap[b]? = some (.cells #[.pointer (some ⟨b, 0, none⟩), v] 48 (0, 0)) := by
    rw [hgrow.block b (by rw [hob.size]; exact hlt) (fun e => hne e.symm)]
    exact hbk
  have d0 : w2.cell? ⟨b, 0, none⟩ = some (.pointer (some ⟨b, 0, none⟩)) := by rw [Lib.cell_of_heap hb2]; rfl
  have d1 : w2.cell? ⟨b, 1, none⟩ = some v := by rw [Lib.cell_of_heap hb2]; rfl
  have f1 : w2.frozen? ⟨b, 1, none⟩ = false := Lib.frozen_of_heap hb2 1
  obtain ⟨ao, n', cap, rfl⟩ : ∃ ao n' cap, v' = .slice ao n' cap := by
    rcases hown'.2 with ⟨hv, _⟩ | ⟨g, cap, cur, hv, _⟩
    · exact ⟨_, _, _, hv⟩
    · exact ⟨_, _, _, hv⟩
  go_wp2
  go_ret2
  have hne' : ∀ g, (Value.slice ao n' cap).ownBlock = some g → g ≠ b := fun g hg e => by
    subst e
    rcases hown'.2 with ⟨hv, _⟩ | ⟨g2, cap2, cur, hv, _, hg2, _⟩
    · rw [hv] at hg; cases hg
    · rw [hv] at hg; injection hg with hg; subst hg
      rw [hb2] at hg2; injection hg2 with hg2; injection hg2 with _ hg2 _; cases hg2
  refine ⟨rfl, _, ?_, ownsRow_move hown' fun g hg => heap_setCell_other w2 _ g _ (hne' g hg), ?_, by rw [← hob.os, ← hgrow.os]; rfl, by rw [← hob.tape, ← hgrow.tape]; rfl, by rw [← hob.output, ← hgrow.output]; rfl, ?_, fun k hk hkb hkv => ?_⟩
  · rw [heap_setCell_same w2 b 1 _ _ _ hb2]; rfl
  · rw [hob.size] at hat; exact hat
  · have := hgrow.size; rw [hob.size] at this; simpa using this
  · rw [heap_setCell_other w2 _ k _ hkb, hgrow.block k (by rw [hob.size]; exact hk) hkv, hob.block k hkb]
theorem cs_two {w : World} {g : Nat} {cs : Array Value} {e : TypeId} {u v : Value} (h : w.heap[g]? = some (.cells cs e (0, 0))) (hs : cs.size = 2) (h0 : w.cell? ⟨g, 0, none⟩ = some u) (h1 : w.cell? ⟨g, 1, none⟩ = some v) : cs = #[u, v] := by
  rw [cell_of_row w g 0 cs e (0, 0) h] at h0
  rw [cell_of_row w g 1 cs e (0, 0) h] at h1
  apply Array.ext_getElem?
  intro i
  match i with
  | 0 => rw [h0]; rfl
  | 1 => rw [h1]; rfl
  | i + 2 => rw [Array.getElem?_eq_none (by omega), Array.getElem?_eq_none (by simp)]
/-- Writing of a text. -/
theorem Builder_WriteString (l : Bs) (s : ByteArray) (hlen : l.length + s.size ≤ 140737488355328) : AFnK Tryd.prog 24 [.bx 0 0, av (.string s)] [[.me 48, .us 5 (strU l)]] [0] (.tup [.one (vi s.size), .one (.v .nilIface)]) [[.me 48, .us 5 (strU (l ++ tb s))]] := by
  refine ⟨enters_of Tryd.func24 (by kernel_rfl) rfl, fun w F0 ow0 L vs hcx hlt hobj hks hvl hargs => ?_⟩
  match vs, hvl with
  | [v0, v1], _ =>
    have a1 := avr_one_v (hargs 1 _ v1 rfl rfl)
    subst a1
    have a0 := hargs 0 _ v0 rfl rfl
    cases a0 with
    | @bx _ _ g _ _ h2 h3 h4 =>
      have hO := hobj 0 _ rfl
      rw [h4] at hO
      obtain ⟨hg1, cs, e, hg2, hg3⟩ := hO.blk g rfl
      obtain ⟨u, cs', hu1, hu2, hu3⟩ := hO.me 48 g rfl rfl
      obtain ⟨v, hv1, hv2⟩ := hO.cell 1 _ rfl
      rw [hg2] at hu3
      injection hu3 with hu3
      injection hu3 with hu4 hu5 _
      subst hu4; subst hu5
      have hcs := cs_two hg2 hg3 hu1 hv1
      subst hcs
      obtain ⟨hown, how⟩ := us_bytes hv2 cellsU8
      rw [← Lib.byteCells_length l] at hown
      refine (ws_walk g u v _ s w hg2 hu2 hown (by rw [Lib.byteCells_length]; exact hlen)).mono ?_
      rintro e w' ⟨rfl, v', k1, k2, k3, k4, k5, k6, k7, k8⟩
      have hgl : g < w.heap.size := (Array.getElem?_eq_some_iff.1 hg2).1
      have hvl : ∀ k, v'.ownBlock = some k → k < w'.heap.size ∧ (ow0 k ≠ none ∨ w.heap.size ≤ k) ∧ k ≠ g := fun k hk => by
        refine ⟨(k2.lt k hk).2, ?_, fun e => ?_⟩
        · rcases k3 with h | h | h
          · rw [h] at hk; cases hk
          · rw [h] at hk; exact .inl (by rw [how k hk]; simp)
          · rw [h] at hk; injection hk with hk; exact .inr (by omega)
        · subst e
          rcases k2.2 with ⟨hv, _⟩ | ⟨g2, cap2, cur, hv, _, hg2', _⟩
          · rw [hv] at hk; cases hk
          · rw [hv] at hk; injection hk with hk; subst hk
            rw [k1] at hg2'; injection hg2' with hg2'; injection hg2' with _ hg2' _; cases hg2'
      refine ⟨_, fun k => if k = g then some [0] else if v'.ownBlock = some k then some [0, 1] else none, rfl, ⟨k4, k5, k6, k7, fun k hk ho => k8 k hk (fun e => ?_) (fun e => ?_)⟩, fun k p hk => ?_, .tone (.v rfl) (.tone (.v rfl) .tnil), rfl, fun id cells hid => ?_⟩
      · subst e; rw [hg1] at ho; cases ho
      · have := how k e.symm; rw [ho] at this; cases this
      · by_cases hkg : k = g
        · subst hkg; exact ⟨Nat.lt_of_lt_of_le hgl k7, .inl (by rw [hg1]; simp)⟩
        · simp only [hkg, if_false] at hk
          split at hk
          · rename_i hkv; exact ⟨(hvl k hkv).1, (hvl k hkv).2.1⟩
          · cases hk
      · cases id with
        | succ id => simp at hid
        | zero =>
          simp at hid
          subst hid
          rw [h4]
          have hc0 : w'.cell? ⟨g, 0, none⟩ = some (.pointer (some ⟨g, 0, none⟩)) := by rw [Lib.cell_of_heap k1]; rfl
          have hc1 : w'.cell? ⟨g, 1, none⟩ = some v' := by rw [Lib.cell_of_heap k1]; rfl
          refine ⟨fun g' hg' => ?_, fun j c hj => ?_, fun T g' hg' hT => ?_⟩
          · injection hg' with hg'; subst hg'
            exact ⟨by simp, _, _, k1, rfl⟩
          · match j with
            | 0 => simp at hj; subst hj; exact ⟨_, hc0, .me rfl⟩
            | 1 =>
              simp at hj; subst hj
              refine ⟨v', hc1, bytes_us cellsU8 ?_ fun k hk => ?_⟩
              · rw [strCells_eq, byteCells_app, Lib.byteCells_length] at k2
                rw [List.length_append, tb_len]
                exact k2
              · simp only [(hvl k hk).2.2, if_false, hk, if_true]
            | j + 2 => simp at hj
          · injection hg' with hg'; subst hg'
            simp at hT; subst hT
            exact ⟨_, _, hc0, .inr rfl, k1⟩
theorem ptrU8 : ∃ e, Tryd.prog.underlying 73 = some (.pointer e) ∧ e = 5 := ⟨_, Tryd.underlying73, rfl⟩
set_option maxHeartbeats 4000000 in
theorem str_some (b g cap : Nat) (p : Value) (l : Bs) (cur : Array Value) (w : World) (h0 : l ≠ []) (hbk : w.heap[b]? = some (.cells #[p, .slice (some ⟨g, 0, none⟩) l.length cap] 48 (0, 0))) (hg : w.heap[g]? = some (.cells cur 5 (0, 0))) (hcm : cap ≤ maxLen) (hnc : l.length ≤ cap) (hcs : cur.size = cap * 1)
    (hcells : ∀ j u, (Lib.byteCells l)[j]? = some u → w.cell? ((⟨g, 0, none⟩ : Addr).add j) = some u) :
    Calls Tryd.prog 27 #[.pointer (some ⟨b, 0, none⟩)] w fun e w' => e = .returned (.string ⟨l.toArray⟩) ∧ w' = w.drew.freeze ⟨g, 0, none⟩ l.length := by
  have hl0 : l.length ≠ 0 := by simpa using h0
  have c1 : w.drew.cell? ⟨b, 1, none⟩ = some (.slice (some ⟨g, 0, none⟩) l.length cap) := by
    have : w.drew.heap[b]? = some (.cells #[p, .slice (some ⟨g, 0, none⟩) l.length cap] 48 (0, 0)) := hbk
    rw [Lib.cell_of_heap this]; rfl
  have hSD : (Builtin.unsafeSliceData_ #[35] 73 #[.slice (some ⟨g, 0, none⟩) l.length cap]).run Tryd.prog w.drew = .ok (.pointer (some ⟨g, 0, none⟩)) w.drew :=
    Lib.run_unsafeSliceData_row _ _ _ _ _ _ (by omega)
  have hUS : (Builtin.unsafeString_ #[73, 3] 9 #[.pointer (some ⟨g, 0, none⟩), .int .i64 l.length]).run Tryd.prog w.drew = .ok (.string ⟨l.toArray⟩) (w.drew.freeze ⟨g, 0, none⟩ l.length) := by
    refine Lib.run_unsafeString_row w.drew 73 3 9 5 Tryd.underlying73 cellsU8 g cur.size (by have hg' : w.drew.heap[g]? = some (.cells cur 5 (0, 0)) := hg; simp [World.shape?, hg']) l h0 (by omega) (by unfold maxLen at hcm; omega) ?_
    intro j x hx
    exact hcells j (.int .u8 x.toNat) (by simp [Lib.byteCells, hx])
  have mx := mixed
  go_enter Tryd.func27, Tryd.ntmps27
  go_wp2
  go_region_o
  all_goals (go_wp2; go_ret; exact ⟨rfl, rfl⟩)
set_option maxHeartbeats 4000000 in
theorem str_nil (b : Nat) (p : Value) (w : World) (hbk : w.heap[b]? = some (.cells #[p, .slice none 0 0] 48 (0, 0))) :
    Calls Tryd.prog 27 #[.pointer (some ⟨b, 0, none⟩)] w fun e w' => e = .returned (.string ⟨#[]⟩) ∧ w' = w.drew := by
  have hUS := fun (W : World) (q : Option Addr) => Lib.run_unsafeString_none (P := Tryd.prog) W 73 3 9 q
  have c1 : w.drew.cell? ⟨b, 1, none⟩ = some (.slice none 0 0) := by
    have : w.drew.heap[b]? = some (.cells #[p, .slice none 0 0] 48 (0, 0)) := hbk
    rw [Lib.cell_of_heap this]; rfl
  have hSD : (Builtin.unsafeSliceData_ #[35] 73 #[.slice none 0 0]).run Tryd.prog w.drew = .ok (.pointer none) w.drew := rfl
  have mx := mixed
  go_enter Tryd.func27, Tryd.ntmps27
  go_wp2
  go_region_o
  all_goals (go_wp2; go_ret; exact ⟨rfl, rfl⟩)
set_option maxHeartbeats 4000000 in
theorem str_noroom (b g : Nat) (p : Value) (cur : Array Value) (w : World) (hbk : w.heap[b]? = some (.cells #[p, .slice (some ⟨g, 0, none⟩) 0 0] 48 (0, 0))) (hg : w.heap[g]? = some (.cells cur 5 (0, 0))) :
    Calls Tryd.prog 27 #[.pointer (some ⟨b, 0, none⟩)] w fun e w' => e = .returned (.string ⟨#[]⟩) ∧ w' = w.drew.alloc (.view ⟨g, 0, none⟩ 5) := by
  have hUS := fun (W : World) (q : Option Addr) => Lib.run_unsafeString_none (P := Tryd.prog) W 73 3 9 q
  have hlt : b < w.heap.size := (Array.getElem?_eq_some_iff.1 hbk).1
  have c1 : w.drew.cell? ⟨b, 1, none⟩ = some (.slice (some ⟨g, 0, none⟩) 0 0) := by
    have : w.drew.heap[b]? = some (.cells #[p, .slice (some ⟨g, 0, none⟩) 0 0] 48 (0, 0)) := hbk
    rw [Lib.cell_of_heap this]; rfl
  have hSD : (Builtin.unsafeSliceData_ #[35] 73 #[.slice (some ⟨g, 0, none⟩) 0 0]).run Tryd.prog w.drew = .ok (.pointer (some ⟨w.drew.heap.size, 0, none⟩)) (w.drew.alloc (.view ⟨g, 0, none⟩ 5)) :=
    Lib.run_unsafeSliceData_zero w.drew _ _ 5 Tryd.underlying73 ⟨g, 0, none⟩ 0 (5, cur.size) (by have hg' : w.drew.heap[g]? = some (.cells cur 5 (0, 0)) := hg; simp [World.shape?, hg'])
  have c2 : (w.drew.alloc (.view ⟨g, 0, none⟩ 5)).cell? ⟨b, 1, none⟩ = some (.slice (some ⟨g, 0, none⟩) 0 0) := by
    have : (w.drew.alloc (.view ⟨g, 0, none⟩ 5)).heap[b]? = _ := (Lib.alloc_old w.drew _ b hlt).trans hbk
    rw [Lib.cell_of_heap this]; rfl
  have c3 : (w.alloc (.view ⟨g, 0, none⟩ 5)).drew.cell? ⟨b, 1, none⟩ = some (.slice (some ⟨g, 0, none⟩) 0 0) := c2
  have c0 : w.cell? ⟨b, 1, none⟩ = some (.slice (some ⟨g, 0, none⟩) 0 0) := c1
  have mx := mixed
  go_enter Tryd.func27, Tryd.ntmps27
  go_wp2
  go_region_o
  all_goals (go_wp2; go_ret; exact ⟨rfl, rfl⟩)
set_option maxHeartbeats 4000000 in
theorem str_room (b g cap : Nat) (p : Value) (w : World) (hc0 : cap ≠ 0) (hbk : w.heap[b]? = some (.cells #[p, .slice (some ⟨g, 0, none⟩) 0 cap] 48 (0, 0))) :
    Calls Tryd.prog 27 #[.pointer (some ⟨b, 0, none⟩)] w fun e w' => e = .returned (.string ⟨#[]⟩) ∧ w' = w.drew := by
  have hUS := fun (W : World) (q : Option Addr) => Lib.run_unsafeString_none (P := Tryd.prog) W 73 3 9 q
  have c1 : w.drew.cell? ⟨b, 1, none⟩ = some (.slice (some ⟨g, 0, none⟩) 0 cap) := by
    have : w.drew.heap[b]? = some (.cells #[p, .slice (some ⟨g, 0, none⟩) 0 cap] 48 (0, 0)) := hbk
    rw [Lib.cell_of_heap this]; rfl
  have hSD : (Builtin.unsafeSliceData_ #[35] 73 #[.slice (some ⟨g, 0, none⟩) 0 cap]).run Tryd.prog w.drew = .ok (.pointer (some ⟨g, 0, none⟩)) w.drew :=
    Lib.run_unsafeSliceData_row _ _ _ _ _ _ hc0
  have mx := mixed
  clear hc0
  go_enter Tryd.func27, Tryd.ntmps27
  go_wp2
  go_region_o
  all_goals (go_wp2; go_ret; exact ⟨rfl, rfl⟩)
theorem froze_same {w : World} {g n : Nat} {cur : Array Value} {e : TypeId} (hn : n ≠ 0) (h : w.heap[g]? = some (.cells cur e (0, 0))) : ∃ fz, (w.drew.freeze ⟨g, 0, none⟩ n).heap[g]? = some (.cells cur e fz) := by
  have h' : w.drew.heap[g]? = some (.cells cur e (0, 0)) := h
  unfold World.freeze
  rw [if_neg hn]
  simp only [Array.getElem?_modify, if_true, h', Option.map_some]
  exact ⟨_, rfl⟩
theorem froze_other {w : World} {g n k : Nat} (hk : k ≠ g) : (w.drew.freeze ⟨g, 0, none⟩ n).heap[k]? = w.heap[k]? := by
  unfold World.freeze
  split
  · rfl
  · simp only [Array.getElem?_modify, if_neg (Ne.symm hk)]
    rfl
theorem froze_size {w : World} {g n : Nat} : (w.drew.freeze ⟨g, 0, none⟩ n).heap.size = w.heap.size := by
  unfold World.freeze
  split
  · rfl
  · simp only [Array.size_modify]
    rfl
theorem froze_os {w : World} {g n : Nat} : (w.drew.freeze ⟨g, 0, none⟩ n).os = w.os ∧ (w.drew.freeze ⟨g, 0, none⟩ n).tape = w.tape ∧ (w.drew.freeze ⟨g, 0, none⟩ n).output = w.output := by
  unfold World.freeze
  split <;> exact ⟨rfl, rfl, rfl⟩
theorem cell_of_any {w : World} {g j : Nat} {cur : Array Value} {e : TypeId} {fz : Nat × Nat} (h : w.heap[g]? = some (.cells cur e fz)) : w.cell? ⟨g, j, none⟩ = cur[j]? := by simp [World.cell?, h]
set_option maxHeartbeats 2000000 in
/-- What was written. -/
theorem Builder_String (l : Bs) : AFnK Tryd.prog 27 [.bx 0 0] [[.me 48, .us 5 (strU l)]] [0] (.one (vs (bt l))) [[.me 48, .sl (strU l)]] := by
  refine ⟨enters_of Tryd.func27 (by kernel_rfl) rfl, fun w F0 ow0 L vs hcx hlt hobj hks hvl hargs => ?_⟩
  match vs, hvl with
  | [v0], _ =>
    have a0 := hargs 0 _ v0 rfl rfl
    cases a0 with
    | @bx _ _ g _ _ h2 h3 h4 =>
      have hO := hobj 0 _ rfl
      rw [h4] at hO
      obtain ⟨hg1, cs, e, hg2, hg3⟩ := hO.blk g rfl
      obtain ⟨u, cs', hu1, hu2, hu3⟩ := hO.me 48 g rfl rfl
      obtain ⟨v, hv1, hv2⟩ := hO.cell 1 _ rfl
      rw [hg2] at hu3
      injection hu3 with hu3
      injection hu3 with hu4 hu5 _
      subst hu4; subst hu5
      have hcs := cs_two hg2 hg3 hu1 hv1
      subst hcs
      obtain ⟨hown, how⟩ := us_bytes hv2 cellsU8
      have hgl : g < w.heap.size := (Array.getElem?_eq_some_iff.1 hg2).1
      let ow' : Ev.Own := fun k => if k = g then some [0] else none
      have fin : ∀ (e : Ending) (w' : World), e = .returned (.string (bt l)) → Keeps w w' ow0 → w'.heap[g]? = w.heap[g]? → FR w' (FF w F0 ow0 w' ow') (.sl (strU l)) v →
          ∃ v ow2, e = .returned v ∧ Keeps w w' ow0 ∧ (∀ k p, ow2 k = some p → k < w'.heap.size ∧ (ow0 k ≠ none ∨ w.heap.size ≤ k)) ∧ RVR Tryd.prog w' (FF w F0 ow0 w' ow2) ow2 1 0 (.one (Ev.vs (bt l))) v ∧ 1 = 1 ∧
            ∀ (id : Nat) (cells : List C), [[C.me 48, .sl (strU l)]][id]? = some cells → ObjR Tryd.prog w' (FF w F0 ow0 w' ow2) ow2 id (L id) cells := by
        intro e w' he hk hgs hfr
        refine ⟨_, ow', he, hk, fun k p hkp => ?_, .one (.v rfl), rfl, fun id cells hid => ?_⟩
        · by_cases hkg : k = g
          · subst hkg; exact ⟨Nat.lt_of_lt_of_le hgl hk.size, .inl (by rw [hg1]; simp)⟩
          · simp only [ow', hkg, if_false] at hkp; cases hkp
        · cases id with
          | succ id => simp at hid
          | zero =>
            simp at hid
            subst hid
            rw [h4]
            rw [hg2] at hgs
            have hc0 : w'.cell? ⟨g, 0, none⟩ = some u := by rw [Lib.cell_of_heap hgs]; rfl
            have hc1 : w'.cell? ⟨g, 1, none⟩ = some v := by rw [Lib.cell_of_heap hgs]; rfl
            refine ⟨fun g' hg' => ?_, fun j c hj => ?_, fun T g' hg' hT => ?_⟩
            · injection hg' with hg'; subst hg'
              exact ⟨by simp [ow'], _, _, hgs, rfl⟩
            · match j with
              | 0 => simp at hj; subst hj; exact ⟨_, hc0, .me (by rcases hu2 with rfl | rfl <;> rfl)⟩
              | 1 => simp at hj; subst hj; exact ⟨v, hc1, .sl hfr⟩
              | j + 2 => simp at hj
            · injection hg' with hg'; subst hg'
              simp at hT; subst hT
              exact ⟨_, _, hc0, hu2, hgs⟩
      rcases hown.2 with ⟨hv, hn⟩ | ⟨g2, cap, cur, hv, _, hb2, hnc, hcm, hcs, htake⟩
      · have hl : l = [] := List.length_eq_zero_iff.1 hn
        subst hl; subst hv
        refine (str_nil g u w hg2).mono ?_
        rintro e w' ⟨he, rfl⟩
        exact fin e _ he ⟨rfl, rfl, rfl, Nat.le_refl _, fun _ _ _ => rfl⟩ rfl (.sl (sz := 1) (fun _ _ => undef) rfl (Nat.le_refl _) (by simp [maxLen]) (by simp [strU]) (by simp [strU]) (by simp [strU]))
      · have hne : g2 ≠ g := fun e => by
          subst e
          rw [hg2] at hb2; injection hb2 with hb2; injection hb2 with _ hb2 _; cases hb2
        subst hv
        have hog : ow0 g2 = some [0, 1] := how g2 rfl
        by_cases hl : l = []
        · subst hl
          have hfr : ∀ (w' : World) (F' : Frs), FR w' F' (.sl (strU [])) (.slice (some ⟨g2, 0, none⟩) 0 cap) := fun w' F' => .sl (sz := 1) (fun _ _ => undef) rfl (Nat.zero_le _) hcm (by simp [strU]) (by simp [strU]) (by simp [strU])
          by_cases hc0 : cap = 0
          · subst hc0
            refine (str_noroom g g2 u cur w hg2 hb2).mono ?_
            rintro e w' ⟨he, rfl⟩
            have hgr := (Grow.drew w).trans (Grow.alloc w.drew (.view ⟨g2, 0, none⟩ 5))
            exact fin e _ he ⟨hgr.os, hgr.tape, hgr.output, hgr.size, fun k hk _ => hgr.block k hk⟩ (hgr.block g hgl) (hfr _ _)
          · refine (str_room g g2 cap u w hc0 hg2).mono ?_
            rintro e w' ⟨he, rfl⟩
            exact fin e _ he ⟨rfl, rfl, rfl, Nat.le_refl _, fun _ _ _ => rfl⟩ rfl (hfr _ _)
        · refine (str_some g g2 cap u l cur w hl hg2 hb2 hcm hnc hcs (hown.cells (g := g2) rfl)).mono ?_
          rintro e w' ⟨he, rfl⟩
          have hl0 : l.length ≠ 0 := by simpa using hl
          obtain ⟨fz, hfz⟩ := froze_same hl0 hb2
          refine fin e _ he ⟨froze_os.1, froze_os.2.1, froze_os.2.2, by rw [froze_size (w := w) (g := g2) (n := l.length)]; exact Nat.le_refl w.heap.size, fun k hk ho => froze_other fun e => ?_⟩ (froze_other (Ne.symm hne)) ?_
          · subst e; rw [hog] at ho; cases ho
          · refine .sl (sz := 1) (fun i j => (Lib.byteCells l).getD i undef) (strU_len l) hnc hcm (fun r hr => ?_) (fun i r j c hi hj => ?_) (fun i r j c hi hj => ?_)
            · obtain ⟨b, _, rfl⟩ := List.mem_map.1 hr; rfl
            · obtain ⟨b, hb, rfl⟩ := Option.map_eq_some_iff.1 (by rw [← List.getElem?_map]; exact hi : (l[i]?).map encU = some r)
              have hil := (List.getElem?_eq_some_iff.1 hb).1
              cases j with
              | succ j => simp [encU] at hj
              | zero =>
                refine ⟨g2, 0, rfl, .inr ⟨by rw [froze_size]; exact (Array.getElem?_eq_some_iff.1 hb2).1, by simp [ow', hne], .inl (by rw [hog]; simp)⟩, ?_⟩
                rw [cell_of_any hfz, Nat.zero_add, Nat.mul_one, Nat.add_zero]
                have h5 := hown.cells (g := g2) rfl i ((Lib.byteCells l).getD i undef) (by rw [List.getD_eq_getElem?_getD, List.getElem?_eq_getElem (by rw [Lib.byteCells_length]; exact hil)]; rfl)
                rw [addr_add, cell_of_any hb2, Nat.zero_add] at h5
                exact h5
            · obtain ⟨b, hb, rfl⟩ := Option.map_eq_some_iff.1 (by rw [← List.getElem?_map]; exact hi : (l[i]?).map encU = some r)
              cases j with
              | succ j => simp [encU] at hj
              | zero =>
                simp [encU] at hj
                subst hj
                have : (Lib.byteCells l).getD i undef = .int .u8 b.toNat := by rw [List.getD_eq_getElem?_getD]; simp [Lib.byteCells, hb]
                rw [this]
                exact .v rfl
end
section
open Go.RowKit Go.Shelf
def lays137_ren : Go.Shelf.Ren := ⟨fun | 137 => 67 | 217 => 75 | 266 => 83 | n => n, fun | 9 => 9 | 5 => 5 | 3 => 3 | n => n, fun | n => n⟩
theorem lays137 : Go.Proofs.Lays.n137 Tryd.prog lays137_ren := {
  mixed := by kernel_rfl
  f137 := Tryd.func67.trans (congrArg some (by kernel_rfl))
  f217 := Tryd.func75.trans (congrArg some (by kernel_rfl))
  f266 := Tryd.func83.trans (congrArg some (by kernel_rfl))
  t3 := Tryd.underlying3
  a3 := Tryd.isAgg3
  z3 := Tryd.sizeOf3
  v3 := Tryd.zeroValue3
  t5 := Tryd.underlying5
  a5 := Tryd.isAgg5
  z5 := Tryd.sizeOf5
  v5 := Tryd.zeroValue5
  t9 := Tryd.underlying9
  a9 := Tryd.isAgg9
  z9 := Tryd.sizeOf9
  v9 := Tryd.zeroValue9 }
def laysM171_ren : Go.Shelf.Ren := ⟨fun | 171 => 25 | 243 => 42 | 246 => 56 | 283 => 63 | 284 => 64 | 285 => 65 | 286 => 66 | 129 => 71 | 317 => 70 | 318 => 72 | 319 => 73 | 320 => 74 | 337 => 81 | 338 => 82 | n => n, fun | 3 => 3 | 9 => 9 | 2 => 2 | 4 => 4 | 171 => 101 | 0 => 0 | 53 => 102 | 37 => 35 | 5 => 5 | 173 => 105 | 212 => 110 | 51 => 111 | 20 => 20 | 213 => 112 | 46 => 113 | 232 => 128 | 233 => 129 | n => n, fun | 17 => 0 | 18 => 3 | 19 => 4 | n => n⟩
theorem laysM171 : Go.Proofs.LaysM.n171 Tryd.prog laysM171_ren := {
  mixed := by kernel_rfl
  f129 := Tryd.func71.trans (congrArg some (by kernel_rfl))
  f171 := Tryd.func25.trans (congrArg some (by kernel_rfl))
  f243 := Tryd.func42.trans (congrArg some (by kernel_rfl))
  f246 := Tryd.func56.trans (congrArg some (by kernel_rfl))
  f283 := Tryd.func63.trans (congrArg some (by kernel_rfl))
  f284 := Tryd.func64.trans (congrArg some (by kernel_rfl))
  f285 := Tryd.func65.trans (congrArg some (by kernel_rfl))
  f286 := Tryd.func66.trans (congrArg some (by kernel_rfl))
  f317 := Tryd.func70.trans (congrArg some (by kernel_rfl))
  f318 := Tryd.func72.trans (congrArg some (by kernel_rfl))
  f319 := Tryd.func73.trans (congrArg some (by kernel_rfl))
  f320 := Tryd.func74.trans (congrArg some (by kernel_rfl))
  f337 := Tryd.func81.trans (congrArg some (by kernel_rfl))
  f338 := Tryd.func82.trans (congrArg some (by kernel_rfl))
  t0 := Tryd.underlying0
  a0 := Tryd.isAgg0
  z0 := Tryd.sizeOf0
  v0 := Tryd.zeroValue0
  t2 := Tryd.underlying2
  a2 := Tryd.isAgg2
  z2 := Tryd.sizeOf2
  v2 := Tryd.zeroValue2
  t3 := Tryd.underlying3
  a3 := Tryd.isAgg3
  z3 := Tryd.sizeOf3
  v3 := Tryd.zeroValue3
  t4 := Tryd.underlying4
  a4 := Tryd.isAgg4
  z4 := Tryd.sizeOf4
  v4 := Tryd.zeroValue4
  t5 := Tryd.underlying5
  a5 := Tryd.isAgg5
  z5 := Tryd.sizeOf5
  v5 := Tryd.zeroValue5
  t9 := Tryd.underlying9
  a9 := Tryd.isAgg9
  z9 := Tryd.sizeOf9
  v9 := Tryd.zeroValue9
  t20 := Tryd.underlying20
  a20 := Tryd.isAgg20
  z20 := Tryd.sizeOf20
  v20 := Tryd.zeroValue20
  t37 := Tryd.underlying35
  a37 := Tryd.isAgg35
  z37 := Tryd.sizeOf35
  v37 := Tryd.zeroValue35
  t46 := Tryd.underlying113
  a46 := Tryd.isAgg113
  z46 := Tryd.sizeOf113
  v46 := Tryd.zeroValue113
  t51 := Tryd.underlying111
  a51 := Tryd.isAgg111
  z51 := Tryd.sizeOf111
  v51 := Tryd.zeroValue111
  t53 := Tryd.underlying102
  a53 := Tryd.isAgg102
  z53 := Tryd.sizeOf102
  v53 := Tryd.zeroValue102
  t171 := Tryd.underlying101
  a171 := Tryd.isAgg101
  z171 := Tryd.sizeOf101
  v171 := Tryd.zeroValue101
  t173 := Tryd.underlying105
  a173 := Tryd.isAgg105
  z173 := Tryd.sizeOf105
  v173 := Tryd.zeroValue105
  t212 := Tryd.underlying110
  a212 := Tryd.isAgg110
  z212 := Tryd.sizeOf110
  v212 := Tryd.zeroValue110
  t213 := Tryd.underlying112
  a213 := Tryd.isAgg112
  z213 := Tryd.sizeOf112
  t232 := Tryd.underlying128
  a232 := Tryd.isAgg128
  z232 := Tryd.sizeOf128
  v232 := Tryd.zeroValue128
  t233 := Tryd.underlying129
  a233 := Tryd.isAgg129
  z233 := Tryd.sizeOf129
  v233 := Tryd.zeroValue129
  g17 := by kernel_rfl
  g18 := by kernel_rfl
  g19 := by kernel_rfl
  i0 := by kernel_rfl
  i2 := by kernel_rfl
  i3 := by kernel_rfl
  i4 := by kernel_rfl
  i5 := by kernel_rfl
  i9 := by kernel_rfl
  i20 := by kernel_rfl
  i37 := by kernel_rfl
  i46 := by kernel_rfl
  i51 := by kernel_rfl
  i53 := by kernel_rfl
  i171 := by kernel_rfl
  i173 := by kernel_rfl
  i212 := by kernel_rfl
  i232 := by kernel_rfl
  i233 := by kernel_rfl
  m17 := by kernel_rfl
  m18 := by kernel_rfl
  m19 := by kernel_rfl }
def laysC172_ren : Go.Shelf.Ren := ⟨fun | 172 => 61 | 244 => 68 | 245 => 69 | 247 => 76 | 279 => 77 | 280 => 78 | 281 => 79 | 282 => 80 | 287 => 84 | 316 => 85 | 171 => 25 | 205 => 86 | 321 => 87 | 322 => 88 | 243 => 42 | 246 => 56 | 283 => 63 | 284 => 64 | 285 => 65 | 286 => 66 | 129 => 71 | 317 => 70 | 318 => 72 | 319 => 73 | 320 => 74 | 337 => 81 | 338 => 82 | n => n, fun | 9 => 9 | 3 => 3 | 75 => 50 | 76 => 51 | 4 => 4 | 5 => 5 | 167 => 115 | 37 => 35 | 0 => 0 | 85 => 116 | 2 => 2 | 168 => 118 | 53 => 102 | 175 => 122 | 46 => 113 | 210 => 126 | 127 => 73 | 145 => 133 | 143 => 131 | 21 => 21 | 171 => 101 | 173 => 105 | 212 => 110 | 51 => 111 | 20 => 20 | 213 => 112 | 232 => 128 | 233 => 129 | 80 => 55 | n => n, fun | 15 => 1 | 16 => 2 | 17 => 0 | 18 => 3 | 19 => 4 | n => n⟩
theorem laysC172 : Go.Proofs.LaysC.n172 Tryd.prog laysC172_ren := {
  mixed := by kernel_rfl
  f129 := Tryd.func71.trans (congrArg some (by kernel_rfl))
  f171 := Tryd.func25.trans (congrArg some (by kernel_rfl))
  f172 := Tryd.func61.trans (congrArg some (by kernel_rfl))
  f205 := Tryd.func86.trans (congrArg some (by kernel_rfl))
  f243 := Tryd.func42.trans (congrArg some (by kernel_rfl))
  f244 := Tryd.func68.trans (congrArg some (by kernel_rfl))
  f245 := Tryd.func69.trans (congrArg some (by kernel_rfl))
  f246 := Tryd.func56.trans (congrArg some (by kernel_rfl))
  f247 := Tryd.func76.trans (congrArg some (by kernel_rfl))
  f279 := Tryd.func77.trans (congrArg some (by kernel_rfl))
  f280 := Tryd.func78.trans (congrArg some (by kernel_rfl))
  f281 := Tryd.func79.trans (congrArg some (by kernel_rfl))
  f282 := Tryd.func80.trans (congrArg some (by kernel_rfl))
  f283 := Tryd.func63.trans (congrArg some (by kernel_rfl))
  f284 := Tryd.func64.trans (congrArg some (by kernel_rfl))
  f285 := Tryd.func65.trans (congrArg some (by kernel_rfl))
  f286 := Tryd.func66.trans (congrArg some (by kernel_rfl))
  f287 := Tryd.func84.trans (congrArg some (by kernel_rfl))
  f316 := Tryd.func85.trans (congrArg some (by kernel_rfl))
  f317 := Tryd.func70.trans (congrArg some (by kernel_rfl))
  f318 := Tryd.func72.trans (congrArg some (by kernel_rfl))
  f319 := Tryd.func73.trans (congrArg some (by kernel_rfl))
  f320 := Tryd.func74.trans (congrArg some (by kernel_rfl))
  f321 := Tryd.func87.trans (congrArg some (by kernel_rfl))
  f322 := Tryd.func88.trans (congrArg some (by kernel_rfl))
  f337 := Tryd.func81.trans (congrArg some (by kernel_rfl))
  f338 := Tryd.func82.trans (congrArg some (by kernel_rfl))
  t0 := Tryd.underlying0
  a0 := Tryd.isAgg0
  z0 := Tryd.sizeOf0
  v0 := Tryd.zeroValue0
  t2 := Tryd.underlying2
  a2 := Tryd.isAgg2
  z2 := Tryd.sizeOf2
  v2 := Tryd.zeroValue2
  t3 := Tryd.underlying3
  a3 := Tryd.isAgg3
  z3 := Tryd.sizeOf3
  v3 := Tryd.zeroValue3
  t4 := Tryd.underlying4
  a4 := Tryd.isAgg4
  z4 := Tryd.sizeOf4
  v4 := Tryd.zeroValue4
  t5 := Tryd.underlying5
  a5 := Tryd.isAgg5
  z5 := Tryd.sizeOf5
  v5 := Tryd.zeroValue5
  t9 := Tryd.underlying9
  a9 := Tryd.isAgg9
  z9 := Tryd.sizeOf9
  v9 := Tryd.zeroValue9
  t20 := Tryd.underlying20
  a20 := Tryd.isAgg20
  z20 := Tryd.sizeOf20
  v20 := Tryd.zeroValue20
  t21 := Tryd.underlying21
  a21 := Tryd.isAgg21
  z21 := Tryd.sizeOf21
  v21 := Tryd.zeroValue21
  t37 := Tryd.underlying35
  a37 := Tryd.isAgg35
  z37 := Tryd.sizeOf35
  v37 := Tryd.zeroValue35
  t46 := Tryd.underlying113
  a46 := Tryd.isAgg113
  z46 := Tryd.sizeOf113
  v46 := Tryd.zeroValue113
  t51 := Tryd.underlying111
  a51 := Tryd.isAgg111
  z51 := Tryd.sizeOf111
  v51 := Tryd.zeroValue111
  t53 := Tryd.underlying102
  a53 := Tryd.isAgg102
  z53 := Tryd.sizeOf102
  v53 := Tryd.zeroValue102
  t75 := Tryd.underlying50
  a75 := Tryd.isAgg50
  z75 := Tryd.sizeOf50
  v75 := Tryd.zeroValue50
  t76 := Tryd.underlying51
  a76 := Tryd.isAgg51
  z76 := Tryd.sizeOf51
  v76 := Tryd.zeroValue51
  t85 := Tryd.underlying116
  a85 := Tryd.isAgg116
  z85 := Tryd.sizeOf116
  v85 := Tryd.zeroValue116
  t127 := Tryd.underlying73
  a127 := Tryd.isAgg73
  z127 := Tryd.sizeOf73
  v127 := Tryd.zeroValue73
  t143 := Tryd.underlying131
  a143 := Tryd.isAgg131
  z143 := Tryd.sizeOf131
  v143 := Tryd.zeroValue131
  t145 := Tryd.underlying133
  a145 := Tryd.isAgg133
  z145 := Tryd.sizeOf133
  v145 := Tryd.zeroValue133
  t167 := Tryd.underlying115
  a167 := Tryd.isAgg115
  z167 := Tryd.sizeOf115
  v167 := Tryd.zeroValue115
  t168 := Tryd.underlying118
  a168 := Tryd.isAgg118
  z168 := Tryd.sizeOf118
  v168 := Tryd.zeroValue118
  t171 := Tryd.underlying101
  a171 := Tryd.isAgg101
  z171 := Tryd.sizeOf101
  v171 := Tryd.zeroValue101
  t173 := Tryd.underlying105
  a173 := Tryd.isAgg105
  z173 := Tryd.sizeOf105
  v173 := Tryd.zeroValue105
  t175 := Tryd.underlying122
  a175 := Tryd.isAgg122
  z175 := Tryd.sizeOf122
  v175 := Tryd.zeroValue122
  t210 := Tryd.underlying126
  a210 := Tryd.isAgg126
  z210 := Tryd.sizeOf126
  v210 := Tryd.zeroValue126
  t212 := Tryd.underlying110
  a212 := Tryd.isAgg110
  z212 := Tryd.sizeOf110
  v212 := Tryd.zeroValue110
  t213 := Tryd.underlying112
  a213 := Tryd.isAgg112
  z213 := Tryd.sizeOf112
  t232 := Tryd.underlying128
  a232 := Tryd.isAgg128
  z232 := Tryd.sizeOf128
  v232 := Tryd.zeroValue128
  t233 := Tryd.underlying129
  a233 := Tryd.isAgg129
  z233 := Tryd.sizeOf129
  v233 := Tryd.zeroValue129
  g15 := by kernel_rfl
  g16 := by kernel_rfl
  g17 := by kernel_rfl
  g18 := by kernel_rfl
  g19 := by kernel_rfl
  t80 := Tryd.underlying55
  a80 := Tryd.isAgg55
  z80 := Tryd.sizeOf55
  v80 := Tryd.zeroValue55
  i0 := by kernel_rfl
  i2 := by kernel_rfl
  i3 := by kernel_rfl
  i4 := by kernel_rfl
  i5 := by kernel_rfl
  i9 := by kernel_rfl
  i20 := by kernel_rfl
  i21 := by kernel_rfl
  i37 := by kernel_rfl
  i46 := by kernel_rfl
  i51 := by kernel_rfl
  i53 := by kernel_rfl
  i75 := by kernel_rfl
  i76 := by kernel_rfl
  i80 := by kernel_rfl
  i85 := by kernel_rfl
  i127 := by kernel_rfl
  i143 := by kernel_rfl
  i145 := by kernel_rfl
  i167 := by kernel_rfl
  i168 := by kernel_rfl
  i171 := by kernel_rfl
  i173 := by kernel_rfl
  i175 := by kernel_rfl
  i210 := by kernel_rfl
  i212 := by kernel_rfl
  i232 := by kernel_rfl
  i233 := by kernel_rfl
  m15 := by kernel_rfl
  m16 := by kernel_rfl
  m17 := by kernel_rfl
  m18 := by kernel_rfl
  m19 := by kernel_rfl
  c0 := by kernel_rfl
  c2 := by kernel_rfl
  c3 := by kernel_rfl
  c4 := by kernel_rfl
  c5 := by kernel_rfl
  c9 := by kernel_rfl
  c20 := by kernel_rfl
  c21 := by kernel_rfl
  c37 := by kernel_rfl
  c46 := by kernel_rfl
  c51 := by kernel_rfl
  c53 := by kernel_rfl
  c75 := by kernel_rfl
  c76 := by kernel_rfl
  c80 := by kernel_rfl
  c85 := by kernel_rfl
  c127 := by kernel_rfl
  c143 := by kernel_rfl
  c145 := by kernel_rfl
  c167 := by kernel_rfl
  c168 := by kernel_rfl
  c171 := by kernel_rfl
  c173 := by kernel_rfl
  c175 := by kernel_rfl
  c210 := by kernel_rfl
  c212 := by kernel_rfl
  c213 := by kernel_rfl
  c232 := by kernel_rfl
  c233 := by kernel_rfl }

theorem same_ret {P : Program} {w w' : World} {F0 : Frs} {ow0 : Ev.Own} {L : Nat → Pl} {r : RV} {v : Value} (hk : Keeps w w' ow0) (h : ∀ F ow, RVR P w' F ow 0 0 r v) :
    ∃ v' ow', Ending.returned v = .returned v' ∧ Keeps w w' ow0 ∧ (∀ k p, ow' k = some p → k < w'.heap.size ∧ (ow0 k ≠ none ∨ w.heap.size ≤ k)) ∧ RVR P w' (FF w F0 ow0 w' ow') ow' ([] : List (List C)).length 0 r v' ∧ ([] : List (List C)).length = ([] : List (List C)).length ∧ ∀ (id : Nat) (cells : List C), ([] : List (List C))[id]? = some cells → ObjR P w' (FF w F0 ow0 w' ow') ow' id (L id) cells :=
  ⟨v, fun _ => none, rfl, hk, fun _ _ h => (nomatch h), h _ _, rfl, fun id cells h => by simp at h⟩
theorem keeps_same {w : World} {ow : Ev.Own} : Keeps w w ow := ⟨rfl, rfl, rfl, Nat.le_refl _, fun _ _ _ => rfl⟩
theorem Grow.keeps {w w' : World} {ow : Ev.Own} (h : Grow w w') : Keeps w w' ow := ⟨h.os, h.tape, h.output, h.size, fun k hk _ => h.block k hk⟩
theorem below_keeps {w w' : World} {ow : Ev.Own} (h : Below w.heap.size w w') : Keeps w w' ow := ⟨h.os, h.tape, h.output, h.size, fun k hk _ => h.block k hk⟩
theorem keeps_grow (w : World) (ow : Ev.Own) (k : Nat) (os : Array Obj) : Keeps w (Go.Sort.grow (w.drewN k) os) ow := by
  refine ⟨rfl, rfl, rfl, ?_, fun j hj _ => ?_⟩
  · show w.heap.size ≤ (w.heap ++ os).size
    rw [Array.size_append]
    omega
  · show (w.heap ++ os)[j]? = _
    rw [Array.getElem?_append_left hj]
/-- strings.IndexByte. -/
theorem strings_IndexByte (s : ByteArray) : AFn Tryd.prog 67 [av (.string s), av (.int .u8 32)] [] (.one (vi (Lib.indexByte (tb s) 32))) [] := by
  refine ⟨enters_of Tryd.func67 (by kernel_rfl) rfl, fun w F0 ow0 L vs hcx hlt hobj hks hvl hargs => ?_⟩
  match vs, hvl with
  | [v0, v1], _ =>
    have a0 := avr_one_v (hargs 0 _ v0 rfl rfl)
    have a1 := avr_one_v (hargs 1 _ v1 rfl rfl)
    subst a0; subst a1
    refine (Any.strings_IndexByte lays137 s 32 w).mono ?_
    rintro e w' ⟨rfl, rfl⟩
    exact same_ret keeps_same fun _ _ => .one (.v rfl)
/-- strconv.Itoa. -/
theorem strconv_Itoa (n : Int) (h0 : -9223372036854775808 ≤ n) (h1 : n ≤ 9223372036854775807) : AFn Tryd.prog 25 [av (.int .i64 n)] [] (.one (vs (bt (Lib.itoa n)))) [] := by
  refine ⟨enters_of Tryd.func25 (by kernel_rfl) rfl, fun w F0 ow0 L vs hcx hlt hobj hks hvl hargs => ?_⟩
  match vs, hvl with
  | [v0], _ =>
    have a0 := avr_one_v (hargs 0 _ v0 rfl rfl)
    subst a0
    obtain ⟨h2, h3, t, z, h4⟩ := hcx.wp.1 0 (by kernel_rfl)
    refine (Any.strconv_Itoa laysM171 n h0 h1 w ?_).mono ?_
    · have hg : Tryd.prog.globalNamed _ = some 0 := laysM171.m17
      unfold Lib.TabIs World.var?
      rw [hg, Option.bind_some, h4]
    · rintro e w' ⟨rfl, k, os, rfl⟩
      exact same_ret (keeps_grow w ow0 k os) fun _ _ => .one (.v rfl)
end
def lrd (s : ByteArray) (p : Nat) : List C := [vs s, vi p]
theorem minE {a b e : Nat} (h : e = min b a) : (if true = true then (if (a : Int) < (b : Int) then (a : Int) else (b : Int)) else (if (b : Int) < (a : Int) then (a : Int) else (b : Int))) = (e : Int) := by
  rw [if_pos rfl]
  by_cases hab : (a : Int) < (b : Int)
  · rw [if_pos hab]; omega
  · rw [if_neg hab]; omega
theorem reader_wordY (s : ByteArray) (p : Nat) (hs : s.size ≤ 1048576) (hp : p ≤ s.size) (w : ByteArray) (q : Nat) (h : wordB s p = some (w, q)) : AFnK Tryd.prog 60 [.bx 0 0] [lrd s p] [0] (.tup [.one (vs w), .one (vb true)]) [lrd s q] := by
  have hex : ∃ e : Nat, e = min s.size (p + 9) := ⟨_, rfl⟩
  obtain ⟨e, he⟩ := hex
  have hT := ahead_tb s p hp e he
  have hM := minE (a := p + 7 + 1 + 1) (b := s.size) he
  obtain ⟨i, hi, hwq⟩ := Option.map_eq_some_iff.1 h
  have hI := strings_IndexByte (s.extract p e)
  rw [idx_find, hT, hi] at hI
  have hI2 : AFn Tryd.prog 67 [av (.string (s.extract p (e : Int).toNat)), av (.int .u8 32)] [] (.one (vi (i : Nat))) [] := hI
  injection hwq with e1 e2
  have hil : i < 9 ∧ p + i < s.size := by
    rw [List.findIdx?_eq_some_iff_getElem] at hi
    obtain ⟨h1, _, _⟩ := hi
    rw [List.length_take, List.length_drop, tb_len] at h1
    omega
  have hsz : (s.extract p (e : Int).toNat).size = e - p := by rw [ByteArray.size_extract]; omega
  have hres : RV.tup [.one (vs ((s.extract p (e : Int).toNat).extract 0 i)), .one (vb true)] = RV.tup [.one (vs w), .one (vb true)] := by
    rw [← e1, show ((e : Int)).toNat = e by omega, ext_take s p e i (by omega)]
  have hb : (0 : Int) ≤ p ∧ (p : Int) ≤ (e : Int) ∧ (e : Int) ≤ s.size := by omega
  have hb2 : (0 : Int) ≤ 0 ∧ (0 : Int) ≤ (i : Int) ∧ (i : Int) ≤ ((s.extract p (e : Int).toNat).size : Int) := by omega
  have hq : ((p : Int) + ((i + 1 : Nat) : Int)) = (q : Int) := by omega
  clear hsz e2
  rw [← hM] at hI2 hres hb hb2
  clear hI hT hi h
  refine AFnK.introX (E := En 1 md0) (en_ok 1 md0) Tryd.func60 rfl rfl rfl fun _ _ => ?_
  refine Num.mk _ (wrapS (by omega)) ?_
  refine Num.mk _ (wrapS (by omega)) ?_
  refine Need.mk hb ?_
  refine Need.mk rfl ?_
  refine ACall.mk _ _ hI2 ?_
  refine Split.mk fun t h1 => ?_
  cases t
  case true => cases h1
  refine Num.mk _ (wrapS (by omega)) ?_
  refine Num.mk (q : Int) (by rw [wrapI] <;> omega) ?_
  refine Need.mk hb2 ?_
  exact Need.mk ⟨[], _, .same, hres, rfl⟩ trivial
theorem reader_wordN (s : ByteArray) (p : Nat) (hs : s.size ≤ 1048576) (hp : p ≤ s.size) (h : wordB s p = none) : AFnK Tryd.prog 60 [.bx 0 0] [lrd s p] [0] (.tup [.one (vs ⟨#[]⟩), .one (vb false)]) [lrd s p] := by
  have hex : ∃ e : Nat, e = min s.size (p + 9) := ⟨_, rfl⟩
  obtain ⟨e, he⟩ := hex
  have hT := ahead_tb s p hp e he
  have hM := minE (a := p + 7 + 1 + 1) (b := s.size) he
  have hi := Option.map_eq_none_iff.1 h
  have hI := strings_IndexByte (s.extract p e)
  rw [idx_find, hT, hi] at hI
  have hI2 : AFn Tryd.prog 67 [av (.string (s.extract p (e : Int).toNat)), av (.int .u8 32)] [] (.one (vi (-1))) [] := hI
  have hb : (0 : Int) ≤ p ∧ (p : Int) ≤ (e : Int) ∧ (e : Int) ≤ s.size := by omega
  rw [← hM] at hI2 hb
  clear hI hT hi h
  refine AFnK.introX (E := En 1 md0) (en_ok 1 md0) Tryd.func60 rfl rfl rfl fun _ _ => ?_
  refine Num.mk _ (wrapS (by omega)) ?_
  refine Num.mk _ (wrapS (by omega)) ?_
  refine Need.mk hb ?_
  refine Need.mk rfl ?_
  refine ACall.mk _ _ hI2 ?_
  refine Split.mk fun t h1 => ?_
  cases t
  case false => cases h1
  exact Need.mk ⟨[], _, .same, rfl, rfl⟩ trivial
section
open Go.RowKit Go.Shelf
set_option maxHeartbeats 4000000 in
theorem num_walk (v0 : Value) (w : ByteArray) (hsz : w.size ≤ 281474976710656) (hA : Lib.atoiAll w.data.toList = Lib.NumEnd.ofOption none) (W : World) (G : World → Prop) (X : Ending → World → Prop) (hv : ∀ w1, G w1 → ∃ te pe, w1.cell? ⟨1, 0, none⟩ = some (.iface te pe))
    (hW : Calls Tryd.prog 60 #[v0] W fun e w' => e = .returned (.tuple #[.string w, .bool true]) ∧ G w')
    (hX : ∀ w1 w2, G w1 → Below w1.heap.size w1 w2 → X (.returned (.tuple #[.int .i64 0, .bool false])) w2) :
    Calls Tryd.prog 45 #[v0] W X := by
  have eWd : ∀ args w, (callFunc 60 args).run Tryd.prog w = .ok (.enter 60 args) w := enters_of Tryd.func60 (by kernel_rfl) rfl
  have eAt : ∀ args w, (callFunc 61 args).run Tryd.prog w = .ok (.enter 61 args) w := enters_of Tryd.func61 (by kernel_rfl) rfl
  have mx := mixed
  go_enter Tryd.func45, Tryd.ntmps45
  go_wp2_with (go_at_fn 60; refine hW.mono ?_)
  rintro e w1 ⟨rfl, hG⟩
  obtain ⟨te, pe, hv1⟩ := hv w1 hG
  go_wp2_with (go_at_fn 61; refine (Any.strconv_Atoi_syntax laysC172 w hsz hA _ _ hv1 (.inr ⟨te, pe, rfl⟩)).mono ?_)
  rintro e w2 ⟨N, rfl, h1, h2, h3⟩
  go_wp2
  go_region_o
  all_goals (go_wp2; exact hX _ _ hG (Below.drew h3))
set_option maxHeartbeats 4000000 in
theorem num_walkY (v0 : Value) (w : ByteArray) (hsz : w.size ≤ 1048576) (n : Int) (hA : Lib.atoiAll w.data.toList = .ok n) (W : World) (G : World → Prop) (X : Ending → World → Prop) 
    (hW : Calls Tryd.prog 60 #[v0] W fun e w' => e = .returned (.tuple #[.string w, .bool true]) ∧ G w')
    (hX : ∀ w1 w2, G w1 → Below w1.heap.size w1 w2 → X (.returned (.tuple #[.int .i64 n, .bool true])) w2) :
    Calls Tryd.prog 45 #[v0] W X := by
  have eWd : ∀ args w, (callFunc 60 args).run Tryd.prog w = .ok (.enter 60 args) w := enters_of Tryd.func60 (by kernel_rfl) rfl
  have eAt : ∀ args w, (callFunc 61 args).run Tryd.prog w = .ok (.enter 61 args) w := enters_of Tryd.func61 (by kernel_rfl) rfl
  have mx := mixed
  go_enter Tryd.func45, Tryd.ntmps45
  go_wp2_with (go_at_fn 60; refine hW.mono ?_)
  rintro e w1 ⟨rfl, hG⟩
  go_wp2_with (go_at_fn 61; refine (Any.strconv_Atoi_ok laysC172 w (by omega) n hA _).mono ?_)
  rintro e w2 ⟨rfl, hw2⟩
  have h3 : Below w1.heap.size w1 w2 := by
    rcases hw2 with rfl | ⟨t, rfl⟩
    · exact Below.refl _ _
    · exact Lib.bytesWorld_below w1 _ t
  clear hw2
  go_wp2
  go_region_o
  all_goals (go_wp2; exact hX _ _ hG (Below.drew h3))
/-- A call, and what is laid behind all blocks, is a call still. -/
theorem post_below {P : Program} {w w1 w2 : World} {F0 : Frs} {ow0 ow1 : Ev.Own} {L : Nat → Pl} {objs' : List (List C)} (hcx : CxOk P w F0 ow0) (hk : Keeps w w1 ow0) (ho : ∀ k p, ow1 k = some p → k < w1.heap.size ∧ (ow0 k ≠ none ∨ w.heap.size ≤ k))
    (hobj : ∀ (id : Nat) (cells : List C), objs'[id]? = some cells → ObjR P w1 (FF w F0 ow0 w1 ow1) ow1 id (L id) cells) (hb : Below w1.heap.size w1 w2) :
    Keeps w w2 ow0 ∧ (∀ k p, ow1 k = some p → k < w2.heap.size ∧ (ow0 k ≠ none ∨ w.heap.size ≤ k)) ∧ ∀ (id : Nat) (cells : List C), objs'[id]? = some cells → ObjR P w2 (FF w F0 ow0 w2 ow1) ow1 id (L id) cells := by
  refine ⟨⟨hb.os.trans hk.os, hb.tape.trans hk.tape, hb.output.trans hk.output, Nat.le_trans hk.size hb.size, fun k h1 h2 => (hb.block k (Nat.lt_of_lt_of_le h1 hk.size)).trans (hk.block k h1 h2)⟩, fun k p h => ⟨Nat.lt_of_lt_of_le (ho k p h).1 hb.size, (ho k p h).2⟩, fun id cells h => (hobj id cells h).move (fun k h1 => ?_) fun k r h1 => ⟨hb.block k (ho k _ h1).1, h1⟩⟩
  rcases h1 with h1 | ⟨h1, h2, h3⟩
  · exact ⟨hb.block k (Nat.lt_of_lt_of_le (hcx.fr k h1).1 hk.size), .inl h1⟩
  · exact ⟨hb.block k h1, .inr ⟨Nat.lt_of_lt_of_le h1 hb.size, h2, h3⟩⟩
theorem tuple_two {P : Program} {w : World} {F : Frs} {ow : Ev.Own} {m : Nat} {a b v : Value} (h : RVR P w F ow m 0 (.tup [.one (.v a), .one (.v b)]) v) : v = .tuple #[a, b] := by
  cases h with
  | tone h1 h2 =>
    cases h1
    cases h2 with
    | tone h3 h4 =>
      cases h3
      cases h4
      rfl
theorem reader_numberF (s : ByteArray) (p : Nat) (hs : s.size ≤ 1048576) (hp : p ≤ s.size) (w : ByteArray) (q : Nat) (h : wordB s p = some (w, q)) (hn : numI (tb w) = none) : AFnK Tryd.prog 45 [.bx 0 0] [lrd s p] [0] (.tup [.one (vi 0), .one (vb false)]) [lrd s q] := by
  have hW := reader_wordY s p hs hp w q h
  obtain ⟨_, _, _, hw8⟩ := wordB_some hp h
  have hA : Lib.atoiAll w.data.toList = Lib.NumEnd.ofOption none := by
    have := numI_atoi (w := tb w) (by rw [tb_len]; omega)
    rw [hn] at this
    exact this
  refine ⟨enters_of Tryd.func45 (by kernel_rfl) rfl, fun W F0 ow0 L vs hcx hlt hobj hks hvl hargs => ?_⟩
  match vs, hvl with
  | [v0], hvl =>
    refine num_walk v0 w (by omega) hA W (fun w1 => ∃ ow1 : Ev.Own, Keeps W w1 ow0 ∧ (∀ k p, ow1 k = some p → k < w1.heap.size ∧ (ow0 k ≠ none ∨ W.heap.size ≤ k)) ∧ ∀ (id : Nat) (cells : List C), [lrd s q][id]? = some cells → ObjR Tryd.prog w1 (FF W F0 ow0 w1 ow1) ow1 id (L id) cells) _ (fun w1 ⟨ow1, k1, k2, k3⟩ => ?_)
      ((hW.2 W F0 ow0 L [v0] hcx hlt hobj hks hvl hargs).mono ?_) (fun w1 w2 ⟨ow1, k1, k2, k3⟩ hb => ?_)
    · obtain ⟨g1, g2, t, pe, g3⟩ := hcx.wp.2 1 (by kernel_rfl)
      exact ⟨t, pe, (cell_of_heap (k1.block 1 g1 g2)).trans g3⟩
    · rintro e w1 ⟨v, ow1, rfl, k1, k2, k3, k4, k5⟩
      rw [tuple_two k3]
      exact ⟨rfl, ow1, k1, k2, k5⟩
    · obtain ⟨j1, j2, j3⟩ := post_below hcx k1 k2 k3 hb
      exact ⟨_, ow1, rfl, j1, j2, .tone (.v rfl) (.tone (.v rfl) .tnil), rfl, j3⟩

theorem reader_numberT (s : ByteArray) (p : Nat) (hs : s.size ≤ 1048576) (hp : p ≤ s.size) (w : ByteArray) (q : Nat) (h : wordB s p = some (w, q)) (n : Int) (hn : numI (tb w) = some n) : AFnK Tryd.prog 45 [.bx 0 0] [lrd s p] [0] (.tup [.one (vi n), .one (vb true)]) [lrd s q] := by
  have hW := reader_wordY s p hs hp w q h
  obtain ⟨_, _, _, hw8⟩ := wordB_some hp h
  have hA : Lib.atoiAll w.data.toList = .ok n := by
    have := numI_atoi (w := tb w) (by rw [tb_len]; omega)
    rw [hn] at this
    exact this
  refine ⟨enters_of Tryd.func45 (by kernel_rfl) rfl, fun W F0 ow0 L vs hcx hlt hobj hks hvl hargs => ?_⟩
  match vs, hvl with
  | [v0], hvl =>
    refine num_walkY v0 w (by omega) n hA W (fun w1 => ∃ ow1 : Ev.Own, Keeps W w1 ow0 ∧ (∀ k p, ow1 k = some p → k < w1.heap.size ∧ (ow0 k ≠ none ∨ W.heap.size ≤ k)) ∧ ∀ (id : Nat) (cells : List C), [lrd s q][id]? = some cells → ObjR Tryd.prog w1 (FF W F0 ow0 w1 ow1) ow1 id (L id) cells) _
      ((hW.2 W F0 ow0 L [v0] hcx hlt hobj hks hvl hargs).mono ?_) (fun w1 w2 ⟨ow1, k1, k2, k3⟩ hb => ?_)
    · rintro e w1 ⟨v, ow1, rfl, k1, k2, k3, k4, k5⟩
      rw [tuple_two k3]
      exact ⟨rfl, ow1, k1, k2, k5⟩
    · obtain ⟨j1, j2, j3⟩ := post_below hcx k1 k2 k3 hb
      exact ⟨_, ow1, rfl, j1, j2, .tone (.v rfl) (.tone (.v rfl) .tnil), rfl, j3⟩

theorem reader_number (s : ByteArray) (p : Nat) (hs : s.size ≤ 1048576) (hp : p ≤ s.size) (n : Int) (c : Bool) (q : Nat) (h : numB s p = (n, c, q)) : AFnK Tryd.prog 45 [.bx 0 0] [lrd s p] [0] (.tup [.one (vi n), .one (vb c)]) [lrd s q] := by
  unfold numB at h
  cases hw : wordB s p with
  | none =>
    rw [hw] at h
    injection h with e1 h
    injection h with e2 e3
    subst e1; subst e2; subst e3
    have hW := reader_wordN s p hs hp hw
    refine AFnK.introX (E := En 1 md0) (en_ok 1 md0) Tryd.func45 rfl rfl rfl fun _ _ => ?_
    refine ACall.mk _ _ hW ?_
    refine Split.mk fun t h1 => ?_
    cases t
    case true => cases h1
    exact Need.mk ⟨[], _, .same, rfl, rfl⟩ trivial
  | some r =>
    obtain ⟨w, q'⟩ := r
    rw [hw] at h
    simp only at h
    cases hn : numI (tb w) with
    | none =>
      rw [hn] at h
      injection h with e1 h
      injection h with e2 e3
      subst e1; subst e2; subst e3
      exact reader_numberF s p hs hp w q' hw hn
    | some m =>
      rw [hn] at h
      injection h with e1 h
      injection h with e2 e3
      subst e1; subst e2; subst e3
      exact reader_numberT s p hs hp w q' hw m hn
theorem reader_takeY (s : ByteArray) (p n : Nat) (hs : s.size ≤ 1048576) (hp : p + n ≤ s.size) : AFnK Tryd.prog 46 [.bx 0 0, av (.int .i64 n)] [lrd s p] [0] (.tup [.one (vs (s.extract p (p + n))), .one (vb true)]) [lrd s (p + n)] := by
  have hq : ((p : Int) + (n : Int)) = ((p + n : Nat) : Int) := by omega
  have hsub : IntKind.i64.wrap ((p : Int) + (n : Int) - (n : Int)) = (p : Int) := by rw [wrapI] <;> omega
  refine AFnK.introX (E := En 1 md0) (en_ok 1 md0) Tryd.func46 rfl rfl rfl fun _ _ => ?_
  refine Split.mk fun t h1 => ?_
  cases t
  case true => cases h1
  refine Num.mk _ (wrapI (by omega) (by omega)) ?_
  refine Split.mk fun t h2 => ?_
  cases t
  case true => (exfalso; rw [decide_eq_true_iff] at h2; omega)
  rw [decide_eq_false_iff_not] at h2
  refine Need.mk (rfl) ?_
  refine Num.mk _ (wrapI (by omega) (by omega)) ?_
  refine Num.mk _ hsub ?_
  refine Need.mk (by omega) ?_
  refine Need.mk (rfl) ?_
  exact Need.mk ⟨[], _, .same, rfl, rfl⟩ trivial
theorem reader_takeN (s : ByteArray) (p : Nat) (n : Int) (hs : s.size ≤ 1048576) (hp : p ≤ s.size) (h : n < 0 ∨ (s.size : Int) - p < n) : AFnK Tryd.prog 46 [.bx 0 0, av (.int .i64 n)] [lrd s p] [0] (.tup [.one (vs ⟨#[]⟩), .one (vb false)]) [lrd s p] := by
  by_cases hn : n < 0
  · refine AFnK.introX (E := En 1 md0) (en_ok 1 md0) Tryd.func46 rfl rfl rfl fun _ _ => ?_
    refine Split.mk fun t h1 => ?_
    cases t
    case false => (exfalso; rw [decide_eq_false_iff_not] at h1; omega)
    rw [decide_eq_true_iff] at h1
    refine Need.mk (rfl) ?_
    exact Need.mk ⟨[], _, .same, rfl, rfl⟩ trivial
  · have h2 : (s.size : Int) - p < n := by omega
    refine AFnK.introX (E := En 1 md0) (en_ok 1 md0) Tryd.func46 rfl rfl rfl fun _ _ => ?_
    refine Split.mk fun t h1 => ?_
    cases t
    case true => (exfalso; rw [decide_eq_true_iff] at h1; omega)
    rw [decide_eq_false_iff_not] at h1
    refine Num.mk _ (wrapI (by omega) (by omega)) ?_
    refine Split.mk fun t h2 => ?_
    cases t
    case false => (exfalso; rw [decide_eq_false_iff_not] at h2; omega)
    rw [decide_eq_true_iff] at h2
    refine Need.mk (rfl) ?_
    exact Need.mk ⟨[], _, .same, rfl, rfl⟩ trivial
end
theorem reader_entryW (s : ByteArray) (p : Nat) (hs : s.size ≤ 1048576) (hp : p ≤ s.size) (h : wordB s p = none) : AFnK Tryd.prog 47 [.bx 0 0] [lrd s p] [0] (.tup [.agg ent0.enc, .one (vb false)]) [lrd s p] := by
  have hW := reader_wordN s p hs hp h
  refine AFnK.introX (E := En 1 md0) (en_ok 1 md0) Tryd.func47 rfl rfl rfl fun _ _ => ?_
  refine ACall.mk _ _ hW ?_
  refine Split.mk fun t h1 => ?_
  cases t
  case true => cases h1
  exact Need.mk ⟨[], _, .same, rfl, rfl⟩ trivial
theorem reader_entryX (s : ByteArray) (p : Nat) (hs : s.size ≤ 1048576) (hp : p ≤ s.size) (w : ByteArray) (N : Nat → Int) (Q : Nat → Nat) (hw : wordB s p = some (w, Q 0)) (k : Nat) (hk : k ≤ 4)
    (hY : ∀ i, i < k → numB s (Q i) = (N i, true, Q (i + 1))) (hN : k < 4 → numB s (Q k) = (0, false, Q (k + 1))) (hQ : ∀ i, i ≤ k → Q i ≤ s.size) (t : ByteArray) (c : Bool) (q : Nat) (hT : k = 4 → AFnK Tryd.prog 46 [.bx 0 0, av (.int .i64 (N 3))] [lrd s (Q 4)] [0] (.tup [.one (vs t), .one (vb c)]) [lrd s q])
    (r : RV) (o : List C) (hF : k < 4 → r = (.tup [.agg ent0.enc, .one (vb false)]) ∧ o = lrd s (Q (k + 1))) (hE : k = 4 → (c = true → r = (.tup [.agg [vs w, vi (N 0), vi (N 1), vs t, vi (N 2)], .one (vb true)])) ∧ (c = false → r = (.tup [.agg ent0.enc, .one (vb false)])) ∧ o = lrd s q) :
    AFnK Tryd.prog 47 [.bx 0 0] [lrd s p] [0] r [o] := by
  have hW := reader_wordY s p hs hp w (Q 0) hw
  have hrd : ∀ i, i < k → AFnK Tryd.prog 45 [.bx 0 0] [lrd s (Q i)] [0] (.tup [.one (vi (N i)), .one (vb true)]) [lrd s (Q (i + 1))] := fun i hi => reader_number s (Q i) hs (hQ i (by omega)) _ _ _ (hY i hi)
  have hrn : k < 4 → AFnK Tryd.prog 45 [.bx 0 0] [lrd s (Q k)] [0] (.tup [.one (vi 0), .one (vb false)]) [lrd s (Q (k + 1))] := fun hi => reader_number s (Q k) hs (hQ k (by omega)) _ _ _ (hN hi)
  refine AFnK.introX (E := En 1 md0) (en_ok 1 md0) Tryd.func47 rfl rfl rfl fun _ _ => ?_
  refine ACall.mk _ _ hW ?_
  refine Split.mk fun t h1 => ?_
  cases t
  case false => cases h1
  let S : Nat → Int → Int → Int → Int → Nat → St := fun i x0 x1 x2 x3 q => ⟨some (.bx 0 0) :: none :: some (.bx 3 0) :: none :: some (av (.string w)) :: none :: some (.bx 7 0) :: none :: none :: none :: none :: none :: none :: none :: none :: none :: none :: some (av (.int .i64 i)) :: List.replicate 32 none, ⟨0, 0, some [vs s, vi q]⟩ :: absent :: absent :: ⟨0, 0, some [vs ({ data := #[] }), vi 0, vi 0, vs ({ data := #[] }), vi 0]⟩ :: absent :: absent :: absent :: ⟨0, 0, some [vi x0, vi x1, vi x2, vi x3]⟩ :: List.replicate 43 absent⟩
  refine ALoop.mk (fun m st => ∃ i : Nat, m = 4 - i ∧ i ≤ k ∧ ((i = 0 ∧ st = S 0 0 0 0 0 (Q 0)) ∨ (i = 1 ∧ st = S 1 (N 0) 0 0 0 (Q 1)) ∨ (i = 2 ∧ st = S 2 (N 0) (N 1) 0 0 (Q 2)) ∨ (i = 3 ∧ st = S 3 (N 0) (N 1) (N 2) 0 (Q 3)) ∨ (i = 4 ∧ st = S 4 (N 0) (N 1) (N 2) (N 3) (Q 4))))
    ⟨_, _, Weak.nrm [true, false, true, false, true, false, true, false, false, false, false, false, false, false, false, false, false, true] [(0, 0), (3, 3), (7, 7)] rfl rfl rfl, 0, rfl, Nat.zero_le _, .inl ⟨rfl, rfl⟩⟩ ?_
  rintro m st ⟨i, rfl, hik, hcase⟩
  by_cases hlt : i < k
  · have hR := hrd i hlt
    refine Or.elim hcase (fun hst => ?_) fun hcase => Or.elim hcase (fun hst => ?_) fun hcase => Or.elim hcase (fun hst => ?_) fun hcase => Or.elim hcase (fun hst => ?_) fun hst => absurd hst.1 (by omega)
    · have hi := hst.1
      have h5 := hst.2
      clear hst hcase
      subst hi
      subst h5
      refine Split.mk fun t h1 => ?_
      cases t
      case false => cases h1
      refine ACall.mk _ _ hR ?_
      refine Split.mk fun t h2 => ?_
      cases t
      case false => cases h2
      refine Need.mk (by omega) ?_
      refine Num.mk _ (wrapS (by omega)) ?_
      exact ⟨_, _, by omega, Weak.nrm [true, false, true, false, true, false, true, false, false, false, false, false, false, false, false, false, false, true] [(0, 0), (3, 3), (7, 7)] rfl rfl rfl, 1, rfl, by omega, .inr (.inl ⟨rfl, rfl⟩)⟩
    · have hi := hst.1
      have h5 := hst.2
      clear hst hcase
      subst hi
      subst h5
      refine Split.mk fun t h1 => ?_
      cases t
      case false => cases h1
      refine ACall.mk _ _ hR ?_
      refine Split.mk fun t h2 => ?_
      cases t
      case false => cases h2
      refine Need.mk (by omega) ?_
      refine Num.mk _ (wrapS (by omega)) ?_
      exact ⟨_, _, by omega, Weak.nrm [true, false, true, false, true, false, true, false, false, false, false, false, false, false, false, false, false, true] [(0, 0), (3, 3), (7, 7)] rfl rfl rfl, 2, rfl, by omega, .inr (.inr (.inl ⟨rfl, rfl⟩))⟩
    · have hi := hst.1
      have h5 := hst.2
      clear hst hcase
      subst hi
      subst h5
      refine Split.mk fun t h1 => ?_
      cases t
      case false => cases h1
      refine ACall.mk _ _ hR ?_
      refine Split.mk fun t h2 => ?_
      cases t
      case false => cases h2
      refine Need.mk (by omega) ?_
      refine Num.mk _ (wrapS (by omega)) ?_
      exact ⟨_, _, by omega, Weak.nrm [true, false, true, false, true, false, true, false, false, false, false, false, false, false, false, false, false, true] [(0, 0), (3, 3), (7, 7)] rfl rfl rfl, 3, rfl, by omega, .inr (.inr (.inr (.inl ⟨rfl, rfl⟩)))⟩
    · have hi := hst.1
      have h5 := hst.2
      clear hst hcase
      subst hi
      subst h5
      refine Split.mk fun t h1 => ?_
      cases t
      case false => cases h1
      refine ACall.mk _ _ hR ?_
      refine Split.mk fun t h2 => ?_
      cases t
      case false => cases h2
      refine Need.mk (by omega) ?_
      refine Num.mk _ (wrapS (by omega)) ?_
      exact ⟨_, _, by omega, Weak.nrm [true, false, true, false, true, false, true, false, false, false, false, false, false, false, false, false, false, true] [(0, 0), (3, 3), (7, 7)] rfl rfl rfl, 4, rfl, by omega, .inr (.inr (.inr (.inr ⟨rfl, rfl⟩)))⟩
  · have hie : i = k := by omega
    clear hlt hY hN hQ hrd
    subst hie
    by_cases h4 : i = 4
    · have hst : st = S 4 (N 0) (N 1) (N 2) (N 3) (Q 4) := by
        rcases hcase with h | h | h | h | h
        · exact absurd h.1 (by omega)
        · exact absurd h.1 (by omega)
        · exact absurd h.1 (by omega)
        · exact absurd h.1 (by omega)
        · exact h.2
      have hT := hT h4
      have hE := hE h4
      have ho := hE.2.2
      clear hcase hF hrn
      subst ho
      cases c with
      | true =>
        have hr := hE.1 rfl
        clear hE
        subst hr
        subst hst
        refine Split.mk fun t h1 => ?_
        cases t
        case true => cases h1
        refine Need.mk (by omega) ?_
        refine ACall.mk _ _ hT ?_
        refine Split.mk fun t h2 => ?_
        cases t
        case false => cases h2
        refine Need.mk (by omega) ?_
        refine Need.mk (by omega) ?_
        refine Need.mk (by omega) ?_
        exact Need.mk ⟨[], _, .same, rfl, rfl⟩ trivial
      | false =>
        have hr := hE.2.1 rfl
        clear hE
        subst hr
        subst hst
        refine Split.mk fun t h1 => ?_
        cases t
        case true => cases h1
        refine Need.mk (by omega) ?_
        refine ACall.mk _ _ hT ?_
        refine Split.mk fun t h2 => ?_
        cases t
        case true => cases h2
        exact Need.mk ⟨[], _, .same, rfl, rfl⟩ trivial
    · have hR := hrn (by omega)
      have hr := (hF (by omega)).1
      have ho := (hF (by omega)).2
      clear hF hE hT hrn
      subst hr
      subst ho
      refine Or.elim hcase (fun hst => ?_) fun hcase => Or.elim hcase (fun hst => ?_) fun hcase => Or.elim hcase (fun hst => ?_) fun hcase => Or.elim hcase (fun hst => ?_) fun hst => absurd hst.1 h4
      · have hi := hst.1
        have h5 := hst.2
        clear hst hcase
        subst hi
        subst h5
        refine Split.mk fun t h1 => ?_
        cases t
        case false => cases h1
        refine ACall.mk _ _ hR ?_
        refine Split.mk fun t h2 => ?_
        cases t
        case true => cases h2
        refine Need.mk (by omega) ?_
        exact Need.mk ⟨[], _, .same, rfl, rfl⟩ trivial
      · have hi := hst.1
        have h5 := hst.2
        clear hst hcase
        subst hi
        subst h5
        refine Split.mk fun t h1 => ?_
        cases t
        case false => cases h1
        refine ACall.mk _ _ hR ?_
        refine Split.mk fun t h2 => ?_
        cases t
        case true => cases h2
        refine Need.mk (by omega) ?_
        exact Need.mk ⟨[], _, .same, rfl, rfl⟩ trivial
      · have hi := hst.1
        have h5 := hst.2
        clear hst hcase
        subst hi
        subst h5
        refine Split.mk fun t h1 => ?_
        cases t
        case false => cases h1
        refine ACall.mk _ _ hR ?_
        refine Split.mk fun t h2 => ?_
        cases t
        case true => cases h2
        refine Need.mk (by omega) ?_
        exact Need.mk ⟨[], _, .same, rfl, rfl⟩ trivial
      · have hi := hst.1
        have h5 := hst.2
        clear hst hcase
        subst hi
        subst h5
        refine Split.mk fun t h1 => ?_
        cases t
        case false => cases h1
        refine ACall.mk _ _ hR ?_
        refine Split.mk fun t h2 => ?_
        cases t
        case true => cases h2
        refine Need.mk (by omega) ?_
        exact Need.mk ⟨[], _, .same, rfl, rfl⟩ trivial
theorem reader_entry (s : ByteArray) (p : Nat) (hs : s.size ≤ 1048576) (hp : p ≤ s.size) :
    (∃ (e : Ent) (q : Nat), RI.ent ((tb s).drop p) = some (e, (tb s).drop q) ∧ p < q ∧ q ≤ s.size ∧ AFnK Tryd.prog 47 [.bx 0 0] [lrd s p] [0] (.tup [.agg e.enc, .one (vb true)]) [lrd s q]) ∨
    (RI.ent ((tb s).drop p) = none ∧ ∃ q : Nat, AFnK Tryd.prog 47 [.bx 0 0] [lrd s p] [0] (.tup [.agg ent0.enc, .one (vb false)]) [lrd s q]) := by
  cases hw : wordB s p with
  | none =>
    have hR : RI.word ((tb s).drop p) = none := wordB_none.1 hw
    refine .inr ⟨?_, p, reader_entryW s p hs hp hw⟩
    unfold Rdr.ent
    rw [hR, Option.bind_none]
  | some r =>
    obtain ⟨w, p0⟩ := r
    obtain ⟨hR, l0, i0, w8⟩ := wordB_some hp hw
    have hR : RI.word ((tb s).drop p) = some (tb w, (tb s).drop p0) := hR
    have hent : RI.ent ((tb s).drop p) = (RI.numW ((tb s).drop p0)).bind fun a => (RI.numW a.2).bind fun b => (RI.numW b.2).bind fun c => (RI.numW c.2).bind fun d =>
        if 0 ≤ d.1 ∧ d.1 ≤ d.2.length then some (⟨bt (tb w), a.1, b.1, bt (d.2.take d.1.toNat), c.1⟩, d.2.drop d.1.toNat) else none := by
      unfold Rdr.ent
      rw [hR, Option.bind_some]
    rw [hent]
    clear hent hR
    have fail : ∀ (k : Nat) (N : Nat → Int) (Q : Nat → Nat), k < 4 → Q 0 = p0 → (∀ i, i < k → numB s (Q i) = (N i, true, Q (i + 1))) → numB s (Q k) = (0, false, Q (k + 1)) → (∀ i, i ≤ k → Q i ≤ s.size) →
        ∃ q : Nat, AFnK Tryd.prog 47 [.bx 0 0] [lrd s p] [0] (.tup [.agg ent0.enc, .one (vb false)]) [lrd s q] := fun k N Q hk h0 hY hN hQ =>
      ⟨Q (k + 1), reader_entryX s p hs hp w N Q (by rw [h0]; exact hw) k (by omega) hY (fun _ => hN) hQ ⟨#[]⟩ false 0 (fun h => absurd h (by omega)) _ _ (fun _ => ⟨rfl, rfl⟩) (fun h => absurd h (by omega))⟩
    have hex1 : ∃ x, numB s p0 = x := ⟨_, rfl⟩
    obtain ⟨⟨a, c1, p1⟩, h1⟩ := hex1
    cases c1 with
    | false =>
      obtain ⟨g1, g2⟩ := numB_no i0 h1
      subst g2
      refine .inr ⟨by rw [g1, Option.bind_none], ?_⟩
      refine fail 0 (fun _ => 0) (fun | 0 => p0 | _ => p1) (by decide) rfl (fun i hi => absurd hi (by omega)) h1 (fun i hi => ?_)
      have : i = 0 := by omega
      subst this
      exact i0
    | true =>
      obtain ⟨g1, l1, i1, n1, n1'⟩ := numB_ok i0 h1
      rw [g1]
      simp only [Option.bind_some]
      have hex2 : ∃ x, numB s p1 = x := ⟨_, rfl⟩
      obtain ⟨⟨b, c2, p2⟩, h2⟩ := hex2
      cases c2 with
      | false =>
        obtain ⟨g2, g2'⟩ := numB_no i1 h2
        subst g2'
        refine .inr ⟨by rw [g2, Option.bind_none], ?_⟩
        refine fail 1 (fun _ => a) (fun | 0 => p0 | 1 => p1 | _ => p2) (by decide) rfl (fun i hi => ?_) h2 (fun i hi => ?_)
        · have : i = 0 := by omega
          subst this; exact h1
        · rcases (by omega : i = 0 ∨ i = 1) with rfl | rfl
          · exact i0
          · exact i1
      | true =>
        obtain ⟨g2, l2, i2, n2, n2'⟩ := numB_ok i1 h2
        rw [g2]
        simp only [Option.bind_some]
        have hex3 : ∃ x, numB s p2 = x := ⟨_, rfl⟩
        obtain ⟨⟨c, c3, p3⟩, h3⟩ := hex3
        cases c3 with
        | false =>
          obtain ⟨g3, g3'⟩ := numB_no i2 h3
          subst g3'
          refine .inr ⟨by rw [g3, Option.bind_none], ?_⟩
          refine fail 2 (fun | 0 => a | _ => b) (fun | 0 => p0 | 1 => p1 | 2 => p2 | _ => p3) (by decide) rfl (fun i hi => ?_) h3 (fun i hi => ?_)
          · rcases (by omega : i = 0 ∨ i = 1) with rfl | rfl
            · exact h1
            · exact h2
          · rcases (by omega : i = 0 ∨ i = 1 ∨ i = 2) with rfl | rfl | rfl
            · exact i0
            · exact i1
            · exact i2
        | true =>
          obtain ⟨g3, l3, i3, n3, n3'⟩ := numB_ok i2 h3
          rw [g3]
          simp only [Option.bind_some]
          have hex4 : ∃ x, numB s p3 = x := ⟨_, rfl⟩
          obtain ⟨⟨d, c4, p4⟩, h4⟩ := hex4
          cases c4 with
          | false =>
            obtain ⟨g4, g4'⟩ := numB_no i3 h4
            subst g4'
            refine .inr ⟨by rw [g4, Option.bind_none], ?_⟩
            refine fail 3 (fun | 0 => a | 1 => b | _ => c) (fun | 0 => p0 | 1 => p1 | 2 => p2 | 3 => p3 | _ => p4) (by decide) rfl (fun i hi => ?_) h4 (fun i hi => ?_)
            · rcases (by omega : i = 0 ∨ i = 1 ∨ i = 2) with rfl | rfl | rfl
              · exact h1
              · exact h2
              · exact h3
            · rcases (by omega : i = 0 ∨ i = 1 ∨ i = 2 ∨ i = 3) with rfl | rfl | rfl | rfl
              · exact i0
              · exact i1
              · exact i2
              · exact i3
          | true =>
            obtain ⟨g4, l4, i4, n4, n4'⟩ := numB_ok i3 h4
            rw [g4]
            simp only [Option.bind_some]
            have hlen : ((tb s).drop p4).length = s.size - p4 := by rw [List.length_drop, tb_len]
            rw [hlen]
            have whole : ∀ (t : ByteArray) (q : Nat) (r : RV) (cc : Bool), AFnK Tryd.prog 46 [.bx 0 0, av (.int .i64 d)] [lrd s p4] [0] (.tup [.one (vs t), .one (vb cc)]) [lrd s q] →
                ((cc = true → r = (.tup [.agg [vs w, vi a, vi b, vs t, vi c], .one (vb true)])) ∧ (cc = false → r = (.tup [.agg ent0.enc, .one (vb false)]))) →
                AFnK Tryd.prog 47 [.bx 0 0] [lrd s p] [0] r [lrd s q] := fun t q r cc hT hr => by
              refine reader_entryX s p hs hp w (fun | 0 => a | 1 => b | 2 => c | _ => d) (fun | 0 => p0 | 1 => p1 | 2 => p2 | 3 => p3 | _ => p4) hw 4 (by omega) (fun i hi => ?_) (fun h => absurd h (by omega)) (fun i hi => ?_) t cc q (fun _ => hT) r _ (fun h => absurd h (by omega)) (fun _ => ⟨hr.1, hr.2, rfl⟩)
              · rcases (by omega : i = 0 ∨ i = 1 ∨ i = 2 ∨ i = 3) with rfl | rfl | rfl | rfl
                · exact h1
                · exact h2
                · exact h3
                · exact h4
              · rcases (by omega : i = 0 ∨ i = 1 ∨ i = 2 ∨ i = 3 ∨ i = 4) with rfl | rfl | rfl | rfl | rfl
                · exact i0
                · exact i1
                · exact i2
                · exact i3
                · exact i4
            by_cases hd : 0 ≤ d ∧ d ≤ ((s.size - p4 : Nat) : Int)
            · rw [if_pos hd]
              have e1 : ((d.toNat : Nat) : Int) = d := by omega
              have hT := reader_takeY s p4 d.toNat hs (by omega)
              rw [e1] at hT
              refine .inl ⟨⟨w, a, b, s.extract p4 (p4 + d.toNat), c⟩, p4 + d.toNat, ?_, by omega, by omega, whole _ _ _ true hT ⟨fun _ => rfl, fun h => nomatch h⟩⟩
              rw [bt_tb, extract_tb, List.drop_drop]
              congr 4
              congr 2
              omega
            · rw [if_neg hd]
              have hT := reader_takeN s p4 d hs i4 (by omega)
              exact .inr ⟨rfl, p4, whole _ _ _ false hT ⟨(fun h => nomatch h), fun _ => rfl⟩⟩
theorem impl_batchOk (b : List Ent) (hb : OkE b) (hl : b.length ≤ 1048576) : AFn Tryd.prog 23 [.one (.c (.sl (b.map Ent.enc)))] [] (rb (batOk b)) [] := by
  have hol : (b.map Ent.enc).length = b.length := List.length_map ..
  have hround : ∀ i : Nat, i < b.length → (∀ (j : Nat) (e : Ent), j < i → b[j]? = some e → entOk e = true) → (∀ (j : Nat) (x y : Ent), j + 1 < i → b[j]? = some x → b[j + 1]? = some y → y.seq = x.seq + 1) →
      ∃ e : Ent, (b.map Ent.enc)[i]? = some e.enc ∧ AFn Tryd.prog 40 [.agg (e.enc.map .c)] [] (rb (entOk e)) [] ∧ (entOk e = true → (∀ (j : Nat) (e' : Ent), j < i + 1 → b[j]? = some e' → entOk e' = true) ∧
        (i ≠ 0 → ∃ x : Ent, (b.map Ent.enc)[i - 1]? = some x.enc ∧ (1 ≤ x.seq ∧ x.seq ≤ 100000) ∧ (e.seq = x.seq + 1 → ∀ (j : Nat) (x y : Ent), j + 1 < i + 1 → b[j]? = some x → b[j + 1]? = some y → y.seq = x.seq + 1) ∧ (e.seq ≠ x.seq + 1 → batOk b = false))) ∧
        (entOk e = false → batOk b = false) := by
    intro i hlt hok hco
    obtain ⟨e, he⟩ : ∃ e, b[i]? = some e := ⟨_, List.getElem?_eq_getElem hlt⟩
    have hrow : (b.map Ent.enc)[i]? = some e.enc := by rw [List.getElem?_map, he]; rfl
    refine ⟨e, hrow, impl_EntryOk e (hb e (List.mem_of_getElem? he)), fun hbad => ⟨fun j e' hj hje => ?_, fun h0 => ?_⟩, fun hbad => bat_bad1 he hbad⟩
    · by_cases hji : j = i
      · subst hji; rw [he] at hje; injection hje with hje; rw [← hje]; exact hbad
      · exact hok j e' (by omega) hje
    · obtain ⟨x, hx⟩ : ∃ x, b[i - 1]? = some x := ⟨_, List.getElem?_eq_getElem (by omega)⟩
      have hrow1 : (b.map Ent.enc)[i - 1]? = some x.enc := by rw [List.getElem?_map, hx]; rfl
      have hxs := (entOk_p (hok (i - 1) x (by omega) hx)).2.1
      refine ⟨x, hrow1, hxs, fun hne j x' y hj hjx hjy => ?_, fun hne => bat_bad2 hx (by rw [show i - 1 + 1 = i by omega]; exact he) hne⟩
      by_cases hji : j + 1 = i
      · have e1 : j = i - 1 := by omega
        subst e1
        rw [hx] at hjx; injection hjx with hjx
        rw [hji, he] at hjy; injection hjy with hjy
        rw [← hjx, ← hjy]; exact hne
      · exact hco j x' y (by omega) hjx hjy
  by_cases hl0 : b.length < 1
  · have hres : rb false = rb (batOk b) := by unfold batOk; rw [decide_eq_false (by omega)]; rfl
    refine AFn.introX (E := En 0 md0) (en_ok 0 md0) Tryd.func23 rfl rfl rfl fun _ _ => ?_
    refine Split.mk fun t h1 => ?_
    cases t
    case false => (exfalso; rw [decide_eq_false_iff_not] at h1; omega)
    rw [decide_eq_true_iff] at h1
    exact Need.mk ⟨[], _, .same, hres, rfl⟩ trivial
  · by_cases hl12 : 12 < b.length
    · have hres : rb false = rb (batOk b) := by rw [bat_len hl12]
      refine AFn.introX (E := En 0 md0) (en_ok 0 md0) Tryd.func23 rfl rfl rfl fun _ _ => ?_
      refine Split.mk fun t h1 => ?_
      cases t
      case true => (exfalso; rw [decide_eq_true_iff] at h1; omega)
      rw [decide_eq_false_iff_not] at h1
      refine Split.mk fun t h2 => ?_
      cases t
      case false => (exfalso; rw [decide_eq_false_iff_not] at h2; omega)
      rw [decide_eq_true_iff] at h2
      exact Need.mk ⟨[], _, .same, hres, rfl⟩ trivial
    · refine AFn.introX (E := En 0 md0) (en_ok 0 md0) Tryd.func23 rfl rfl rfl fun _ _ => ?_
      refine Split.mk fun t h1 => ?_
      cases t
      case true => (exfalso; rw [decide_eq_true_iff] at h1; omega)
      rw [decide_eq_false_iff_not] at h1
      refine Split.mk fun t h2 => ?_
      cases t
      case true => (exfalso; rw [decide_eq_true_iff] at h2; omega)
      rw [decide_eq_false_iff_not] at h2
      let S : Nat → St := fun i => ⟨some (.one (.c (.sl (b.map Ent.enc)))) :: none :: none :: none :: none :: none :: none :: none :: none :: none :: none :: none :: none :: some (.one (.c (.sl (b.map Ent.enc)))) :: some (av (.int .i64 (↑(b.map Ent.enc).length))) :: some (av (.int .i64 i)) :: List.replicate 24 none, List.replicate 40 absent⟩
      refine ALoop.mk (fun m s' => ∃ i : Nat, (i ≤ b.length ∧ m = b.length - i) ∧ (∀ (j : Nat) (e : Ent), j < i → b[j]? = some e → entOk e = true) ∧ (∀ (j : Nat) (x y : Ent), j + 1 < i → b[j]? = some x → b[j + 1]? = some y → y.seq = x.seq + 1) ∧ s' = S i)
        ⟨_, _, Weak.nrm [true, false, false, false, false, false, false, false, false, false, false, false, false, true, true, true] [] rfl rfl rfl, 0, ⟨Nat.zero_le _, rfl⟩, fun j e h => absurd h (Nat.not_lt_zero _), fun j x y h => absurd h (Nat.not_lt_zero _), rfl⟩ ?_
      rintro m st ⟨i, ⟨hi, rfl⟩, hok, hco, hst⟩
      by_cases hlt : i < b.length
      · have hbr := hround i hlt hok hco
        refine Exists.elim hbr fun e hx => ?_
        have hrow := hx.1
        have hE := hx.2.1
        have hx := hx.2.2
        by_cases hbad : entOk e = true
        · rw [hbad] at hE
          have hx := hx.1 hbad
          have hok2 := hx.1
          have hx := hx.2
          by_cases h0 : i = 0
          · clear hx
            subst h0
            subst hst
            refine Split.mk fun t h1 => ?_
            cases t
            case false => (exfalso; rw [decide_eq_false_iff_not] at h1; omega)
            rw [decide_eq_true_iff] at h1
            refine Need.mk (by omega) ?_
            refine Row.mk _ hrow ?_
            refine ACall.mk _ _ hE ?_
            refine Split.mk fun t h2 => ?_
            cases t
            case false => cases h2
            refine Split.mk fun t h3 => ?_
            cases t
            case true => cases h3
            refine Need.mk (rfl) ?_
            refine Num.mk _ (wrapS (by omega)) ?_
            exact ⟨_, _, by omega, Weak.nrm [true, false, false, false, false, false, false, false, false, false, false, false, false, true, true, true] [] rfl rfl rfl, 0 + 1, ⟨by omega, rfl⟩, hok2, fun j x y hj => absurd hj (by omega), rfl⟩
          · refine Exists.elim (hx h0) fun x hy => ?_
            have hrow1 := hy.1
            have hxs := hy.2.1
            have hy := hy.2.2
            have hsub : IntKind.i64.wrap ((i : Int) - 1) = ((i - 1 : Nat) : Int) := wrapI' (by omega) (by omega)
            by_cases hne : e.seq = x.seq + 1
            · have hco2 := hy.1 hne
              clear hy hx hbr
              subst hst
              refine Split.mk fun t h1 => ?_
              cases t
              case false => (exfalso; rw [decide_eq_false_iff_not] at h1; omega)
              rw [decide_eq_true_iff] at h1
              refine Need.mk (by omega) ?_
              refine Row.mk _ hrow ?_
              refine ACall.mk _ _ hE ?_
              refine Split.mk fun t h2 => ?_
              cases t
              case false => cases h2
              refine Split.mk fun t h3 => ?_
              cases t
              case false => (exfalso; rw [decide_eq_false_iff_not] at h3; omega)
              rw [decide_eq_true_iff] at h3
              refine Num.mk _ hsub ?_
              refine Need.mk (by omega) ?_
              refine Row.mk _ hrow1 ?_
              refine Num.mk _ (wrapI (by omega) (by omega)) ?_
              refine Split.mk fun t h4 => ?_
              cases t
              case true => (exfalso; rw [bne_iff_ne] at h4; omega)
              rw [bne_eq_false_iff_eq] at h4
              refine Need.mk (rfl) ?_
              refine Num.mk _ (wrapS (by omega)) ?_
              exact ⟨_, _, by omega, Weak.nrm [true, false, false, false, false, false, false, false, false, false, false, false, false, true, true, true] [] rfl rfl rfl, i + 1, ⟨by omega, rfl⟩, hok2, hco2, rfl⟩
            · have hres : rb false = rb (batOk b) := by rw [hy.2 hne]
              clear hy hx hbr
              subst hst
              refine Split.mk fun t h1 => ?_
              cases t
              case false => (exfalso; rw [decide_eq_false_iff_not] at h1; omega)
              rw [decide_eq_true_iff] at h1
              refine Need.mk (by omega) ?_
              refine Row.mk _ hrow ?_
              refine ACall.mk _ _ hE ?_
              refine Split.mk fun t h2 => ?_
              cases t
              case false => cases h2
              refine Split.mk fun t h3 => ?_
              cases t
              case false => (exfalso; rw [decide_eq_false_iff_not] at h3; omega)
              rw [decide_eq_true_iff] at h3
              refine Num.mk _ hsub ?_
              refine Need.mk (by omega) ?_
              refine Row.mk _ hrow1 ?_
              refine Num.mk _ (wrapI (by omega) (by omega)) ?_
              refine Split.mk fun t h4 => ?_
              cases t
              case false => (exfalso; rw [bne_eq_false_iff_eq] at h4; omega)
              rw [bne_iff_ne] at h4
              refine Need.mk (rfl) ?_
              exact Need.mk ⟨[], _, .same, hres, rfl⟩ trivial
        · have hbad2 : entOk e = false := by simpa using hbad
          rw [hbad2] at hE
          have hres : rb false = rb (batOk b) := by rw [hx.2 hbad2]
          clear hx hbr
          by_cases h0 : i = 0
          · subst h0
            subst hst
            refine Split.mk fun t h1 => ?_
            cases t
            case false => (exfalso; rw [decide_eq_false_iff_not] at h1; omega)
            rw [decide_eq_true_iff] at h1
            refine Need.mk (by omega) ?_
            refine Row.mk _ hrow ?_
            refine ACall.mk _ _ hE ?_
            refine Split.mk fun t h2 => ?_
            cases t
            case true => cases h2
            refine Need.mk (rfl) ?_
            exact Need.mk ⟨[], _, .same, hres, rfl⟩ trivial
          · subst hst
            refine Split.mk fun t h1 => ?_
            cases t
            case false => (exfalso; rw [decide_eq_false_iff_not] at h1; omega)
            rw [decide_eq_true_iff] at h1
            refine Need.mk (by omega) ?_
            refine Row.mk _ hrow ?_
            refine ACall.mk _ _ hE ?_
            refine Split.mk fun t h2 => ?_
            cases t
            case true => cases h2
            refine Need.mk (rfl) ?_
            exact Need.mk ⟨[], _, .same, hres, rfl⟩ trivial
      · have hres : rb true = rb (batOk b) := by
          rw [bat_good (fun j e hj => hok j e (by have := (List.getElem?_eq_some_iff.1 hj).1; omega) hj) (fun j x y hx hy => hco j x y (by have := (List.getElem?_eq_some_iff.1 hy).1; omega) hx hy), decide_eq_true (by omega), decide_eq_true (by omega)]
          rfl
        subst hst
        refine Split.mk fun t h1 => ?_
        cases t
        case true => (exfalso; rw [decide_eq_true_iff] at h1; omega)
        rw [decide_eq_false_iff_not] at h1
        exact Need.mk ⟨[], _, .same, hres, rfl⟩ trivial
theorem Builder_Len (l : Bs) (hl : l.length ≤ 140737488355328) : AFnK Tryd.prog 26 [.bx 0 0] [[.me 48, .us 5 (strU l)]] [0] (.one (vi l.length)) [[.me 48, .us 5 (strU l)]] := by
  have hol := strU_len l
  have hres : RV.one (vi (((strU l).length : Nat) : Int)) = RV.one (vi (l.length : Int)) := by rw [strU_len]
  refine AFnK.introX (E := En 1 md0) (en_ok 1 md0) Tryd.func26 rfl rfl rfl fun _ _ => ?_
  exact Need.mk ⟨[], _, .same, hres, rfl⟩ trivial
theorem Builder_LenF (l : Bs) (hl : l.length ≤ 140737488355328) : AFnK Tryd.prog 26 [.bx 0 0] [[.me 48, .sl (strU l)]] [0] (.one (vi l.length)) [[.me 48, .sl (strU l)]] := by
  have hol := strU_len l
  have hres : RV.one (vi (((strU l).length : Nat) : Int)) = RV.one (vi (l.length : Int)) := by rw [strU_len]
  refine AFnK.introX (E := En 1 md0) (en_ok 1 md0) Tryd.func26 rfl rfl rfl fun _ _ => ?_
  exact Need.mk ⟨[], _, .same, hres, rfl⟩ trivial
theorem impl_FrameText0 (b : List Ent) (hb : OkE b) (hl : b.length ≤ 1048576) (h : batOk b = false) : AFn Tryd.prog 9 [.one (.c (.sl (b.map Ent.enc)))] [] (.one (vs (bt (frameT b)))) [] := by
  have hB := impl_batchOk b hb hl
  rw [h] at hB
  have hres : RV.one (vs ⟨#[]⟩) = RV.one (vs (bt (frameT b))) := by rw [frameT_neg (by rw [h]; decide)]; rfl
  refine AFn.introX (E := En 0 md0) (en_ok 0 md0) Tryd.func9 rfl rfl rfl fun _ _ => ?_
  refine ACall.mk _ _ hB ?_
  refine Split.mk fun t h1 => ?_
  cases t
  case true => cases h1
  exact Need.mk ⟨[], _, .same, hres, rfl⟩ trivial
theorem impl_FrameText1 (b : List Ent) (hb : OkE b) (hl : b.length ≤ 1048576) (h : batOk b = true) : AFn Tryd.prog 9 [.one (.c (.sl (b.map Ent.enc)))] [] (.one (vs (bt (frameT b)))) [] := by
  have hB := impl_batchOk b hb hl
  rw [h] at hB
  have hol : (b.map Ent.enc).length = b.length := List.length_map ..
  have hb12 := (batOk_p h).2.1
  have hround : ∀ i : Nat, i < b.length → ∃ (e : Ent) (l0 l1 l2 l3 l4 l5 : Bs) (d1 d2 d3 d4 : ByteArray), (b.map Ent.enc)[i]? = some e.enc ∧ bodyT (b.take i) = l0 ∧ (e.key.size ≤ 8 ∧ d1.size ≤ 8 ∧ d2.size ≤ 8 ∧ d3.size ≤ 8 ∧ d4.size ≤ 8 ∧ e.text.size ≤ 60) ∧
      AFn Tryd.prog 25 [av (.int .i64 e.seq)] [] (.one (vs d1)) [] ∧ AFn Tryd.prog 25 [av (.int .i64 e.kind)] [] (.one (vs d2)) [] ∧ AFn Tryd.prog 25 [av (.int .i64 e.n)] [] (.one (vs d3)) [] ∧ AFn Tryd.prog 25 [av (.int .i64 (e.text.size : Int))] [] (.one (vs d4)) [] ∧
      AFnK Tryd.prog 24 [.bx 0 0, av (.string (e.key ++ ⟨#[32]⟩))] [[.me 48, .us 5 (strU l0)]] [0] (.tup [.one (vi (e.key ++ ⟨#[32]⟩).size), .one (.v .nilIface)]) [[.me 48, .us 5 (strU l1)]] ∧
      AFnK Tryd.prog 24 [.bx 0 0, av (.string (d1 ++ ⟨#[32]⟩))] [[.me 48, .us 5 (strU l1)]] [0] (.tup [.one (vi (d1 ++ ⟨#[32]⟩).size), .one (.v .nilIface)]) [[.me 48, .us 5 (strU l2)]] ∧
      AFnK Tryd.prog 24 [.bx 0 0, av (.string (d2 ++ ⟨#[32]⟩))] [[.me 48, .us 5 (strU l2)]] [0] (.tup [.one (vi (d2 ++ ⟨#[32]⟩).size), .one (.v .nilIface)]) [[.me 48, .us 5 (strU l3)]] ∧
      AFnK Tryd.prog 24 [.bx 0 0, av (.string (d3 ++ ⟨#[32]⟩))] [[.me 48, .us 5 (strU l3)]] [0] (.tup [.one (vi (d3 ++ ⟨#[32]⟩).size), .one (.v .nilIface)]) [[.me 48, .us 5 (strU l4)]] ∧
      AFnK Tryd.prog 24 [.bx 0 0, av (.string (d4 ++ ⟨#[32]⟩))] [[.me 48, .us 5 (strU l4)]] [0] (.tup [.one (vi (d4 ++ ⟨#[32]⟩).size), .one (.v .nilIface)]) [[.me 48, .us 5 (strU l5)]] ∧
      AFnK Tryd.prog 24 [.bx 0 0, av (.string (e.text))] [[.me 48, .us 5 (strU l5)]] [0] (.tup [.one (vi (e.text).size), .one (.v .nilIface)]) [[.me 48, .us 5 (strU (bodyT (b.take (i + 1))))]] := by
    intro i hlt
    have hob := body_lt h i
    obtain ⟨e, he⟩ : ∃ e, b[i]? = some e := ⟨_, List.getElem?_eq_getElem hlt⟩
    have hrow : (b.map Ent.enc)[i]? = some e.enc := by rw [List.getElem?_map, he]; rfl
    obtain ⟨p1, p2, p3, p4, p5⟩ := entOk_p (bat_get h he)
    have p0 := (keyOk_no32 p1).2
    have hT : bodyT (b.take i) ++ tb (e.key ++ ⟨#[32]⟩) ++ tb (bt (Lib.itoa e.seq) ++ ⟨#[32]⟩) ++ tb (bt (Lib.itoa e.kind) ++ ⟨#[32]⟩) ++ tb (bt (Lib.itoa e.n) ++ ⟨#[32]⟩) ++ tb (bt (Lib.itoa (e.text.size : Int)) ++ ⟨#[32]⟩) ++ tb e.text = bodyT (b.take (i + 1)) := by
      rw [body_step he]
      have e32 : (⟨#[32]⟩ : ByteArray) = bt [32] := rfl
      have ek : e.key = bt (tb e.key) := (bt_tb _).symm
      rw [e32, ek]
      simp only [bt_app, tb_bt]
      unfold entT
      simp
    rw [tb_len] at p0
    have z1 := itoaB (n := e.seq) (by omega) (by omega)
    have z2 := itoaB (n := e.kind) (by omega) (by omega)
    have z3 := itoaB (n := e.n) (by omega) (by omega)
    have z4 := itoaB (n := (e.text.size : Int)) (by omega) (by omega)
    have D1 := strconv_Itoa e.seq (by omega) (by omega)
    have D2 := strconv_Itoa e.kind (by omega) (by omega)
    have D3 := strconv_Itoa e.n (by omega) (by omega)
    have D4 := strconv_Itoa (e.text.size : Int) (by omega) (by omega)
    have t32 : ∀ x : ByteArray, (tb (x ++ ⟨#[32]⟩)).length = x.size + 1 := fun x => by rw [tb_len, ByteArray.size_append]; rfl
    have s32 : ∀ x : ByteArray, (x ++ ⟨#[32]⟩).size = x.size + 1 := fun x => by rw [ByteArray.size_append]; rfl
    have W5 := Builder_WriteString (bodyT (b.take i) ++ tb (e.key ++ ⟨#[32]⟩) ++ tb (bt (Lib.itoa e.seq) ++ ⟨#[32]⟩) ++ tb (bt (Lib.itoa e.kind) ++ ⟨#[32]⟩) ++ tb (bt (Lib.itoa e.n) ++ ⟨#[32]⟩) ++ tb (bt (Lib.itoa (e.text.size : Int)) ++ ⟨#[32]⟩)) e.text (by simp only [List.length_append, t32]; omega)
    rw [hT] at W5
    exact ⟨e, _, _, _, _, _, _, _, _, _, _, hrow, rfl, ⟨p0, z1, z2, z3, z4, p3⟩, D1, D2, D3, D4, Builder_WriteString _ _ (by simp only [s32]; omega), Builder_WriteString _ _ (by simp only [List.length_append, t32, s32]; omega), Builder_WriteString _ _ (by simp only [List.length_append, t32, s32]; omega), Builder_WriteString _ _ (by simp only [List.length_append, t32, s32]; omega), Builder_WriteString _ _ (by simp only [List.length_append, t32, s32]; omega), W5⟩
  have hlast : ∀ i : Nat, ¬ i < b.length → ∃ (l : Bs) (d : ByteArray), bodyT (b.take i) = l ∧ (l.length ≤ 1260 ∧ d.size ≤ 8 ∧ (bt l).size ≤ 1260) ∧ AFn Tryd.prog 25 [av (.int .i64 (l.length : Int))] [] (.one (vs d)) [] ∧ AFnK Tryd.prog 26 [.bx 0 0] [[.me 48, .us 5 (strU l)]] [0] (.one (vi l.length)) [[.me 48, .us 5 (strU l)]] ∧
      AFnK Tryd.prog 27 [.bx 0 0] [[.me 48, .us 5 (strU l)]] [0] (.one (vs (bt l))) [[.me 48, .sl (strU l)]] ∧ RV.one (vs (d ++ bt [32] ++ bt l ++ bt [10])) = RV.one (vs (bt (frameT b))) := by
    intro i hlt
    have hob := body_lt h i
    have hieq : b.take i = b := List.take_of_length_le (by omega)
    rw [hieq] at hob ⊢
    have z := itoaB (n := ((bodyT b).length : Int)) (by omega) (by omega)
    refine ⟨_, _, rfl, ⟨hob, z, by rw [bt_size]; exact hob⟩, strconv_Itoa _ (by omega) (by omega), Builder_Len _ (by omega), Builder_String _, ?_⟩
    have := frame_text h
    rw [bt_size] at this
    rw [this]
  refine AFn.introX (E := En 0 md0 (me := some 48)) (en_ok 0 md0 [] [] [] [] [] (some 48)) Tryd.func9 rfl rfl rfl fun _ _ => ?_
  refine ACall.mk _ _ hB ?_
  refine Split.mk fun t h1 => ?_
  cases t
  case false => cases h1
  let S : Nat → Bs → St := fun i l => ⟨none :: none :: none :: some (.bx 3 0) :: none :: none :: none :: none :: none :: none :: none :: some (.one (.c (.sl (b.map Ent.enc)))) :: some (av (.int .i64 (↑(b.map Ent.enc).length))) :: some (av (.int .i64 i)) :: List.replicate 37 none, absent :: absent :: absent :: ⟨0, 0, some [.me 48, .us 5 (strU l)]⟩ :: List.replicate 47 absent⟩
  refine ALoop.mk (fun m s => ∃ i : Nat, (i ≤ b.length ∧ m = b.length - i) ∧ s = S i (bodyT (b.take i)))
    ⟨_, _, Weak.nrm [false, false, false, true, false, false, false, false, false, false, false, true, true, true] [(3, 3)] rfl rfl rfl, 0, ⟨Nat.zero_le _, rfl⟩, rfl⟩ ?_
  rintro m s ⟨i, ⟨hi, rfl⟩, hst⟩
  by_cases hlt : i < b.length
  · refine Exists.elim (hround i hlt) fun e hx => ?_
    refine Exists.elim hx fun l0 hx => ?_
    refine Exists.elim hx fun l1 hx => ?_
    refine Exists.elim hx fun l2 hx => ?_
    refine Exists.elim hx fun l3 hx => ?_
    refine Exists.elim hx fun l4 hx => ?_
    refine Exists.elim hx fun l5 hx => ?_
    refine Exists.elim hx fun d1 hx => ?_
    refine Exists.elim hx fun d2 hx => ?_
    refine Exists.elim hx fun d3 hx => ?_
    refine Exists.elim hx fun d4 hx => ?_
    have hrow := hx.1
    have ho := hx.2.1
    have hz := hx.2.2.1
    have hD1 := hx.2.2.2.1
    have hD2 := hx.2.2.2.2.1
    have hD3 := hx.2.2.2.2.2.1
    have hD4 := hx.2.2.2.2.2.2.1
    have hW0 := hx.2.2.2.2.2.2.2.1
    have hW1 := hx.2.2.2.2.2.2.2.2.1
    have hW2 := hx.2.2.2.2.2.2.2.2.2.1
    have hW3 := hx.2.2.2.2.2.2.2.2.2.2.1
    have hW4 := hx.2.2.2.2.2.2.2.2.2.2.2.1
    have hW5 := hx.2.2.2.2.2.2.2.2.2.2.2.2
    clear hx
    rw [ho] at hst
    subst hst
    refine Split.mk fun t h1 => ?_
    cases t
    case false => (exfalso; rw [decide_eq_false_iff_not] at h1; omega)
    rw [decide_eq_true_iff] at h1
    refine Need.mk (by omega) ?_
    refine Row.mk _ hrow ?_
    refine Need.mk (strFits (by simp only [ByteArray.size_append, sz32, sz10]; omega)) ?_
    refine ACall.mk _ _ hW0 ?_
    let S2 : Nat → Bs → St := fun j l => ⟨none :: none :: none :: some (.bx 3 0) :: none :: some (.bx 5 0) :: none :: none :: none :: none :: none :: some (.one (.c (.sl (b.map Ent.enc)))) :: some (av (.int .i64 (↑(b.map Ent.enc).length))) :: some (av (.int .i64 i)) :: none :: none :: none :: none :: none :: none :: none :: none :: none :: none :: none :: none :: none :: none :: none :: none :: some (.one (.ref 30 0 (.cell 0))) :: some (av (.int .i64 4)) :: some (av (.int .i64 j)) :: List.replicate 18 none,
      absent :: absent :: absent :: ⟨0, 0, some [.me 48, .us 5 (strU l)]⟩ :: absent :: ⟨0, 0, some [vs e.key, vi e.seq, vi e.kind, vs e.text, vi e.n]⟩ :: absent :: absent :: absent :: absent :: absent :: absent :: absent :: absent :: absent :: absent :: absent :: absent :: absent :: absent :: absent :: absent :: absent :: absent :: absent :: absent :: absent :: absent :: absent :: absent :: ⟨0, 1, some [.us 3 [[vi e.seq], [vi e.kind], [vi e.n], [vi e.text.size]]]⟩ :: List.replicate 20 absent⟩
    refine ALoop.mk (fun m st => (m = 4 ∧ st = S2 0 l1) ∨ (m = 3 ∧ st = S2 1 l2) ∨ (m = 2 ∧ st = S2 2 l3) ∨ (m = 1 ∧ st = S2 3 l4) ∨ (m = 0 ∧ st = S2 4 l5))
      ⟨_, _, Weak.trans (Weak.nrm [false, false, false, true, false, true, false, false, false, false, false, true, true, true, false, false, false, false, false, false, false, false, false, false, false, false, false, false, false, false, true, true, true] [(3, 3), (5, 5), (30, 30)] rfl rfl rfl) Weak.one, .inl ⟨rfl, rfl⟩⟩ ?_
    rintro m st hcase
    clear hW0 hrow
    refine Or.elim hcase (fun hst => ?_) fun hcase => Or.elim hcase (fun hst => ?_) fun hcase => Or.elim hcase (fun hst => ?_) fun hcase => Or.elim hcase (fun hst => ?_) fun hst => ?_
    · have h5 := hst.2
      have h6 := hst.1
      clear hst hcase
      subst h6
      subst h5
      refine Split.mk fun t h1 => ?_
      cases t
      case false => cases h1
      refine Need.mk (by simp) ?_
      refine Row.mk _ rfl ?_
      refine ACall.mk _ _ hD1 ?_
      refine Need.mk (strFits (by simp only [ByteArray.size_append, sz32, sz10]; omega)) ?_
      refine ACall.mk _ _ hW1 ?_
      refine Num.mk _ (wrapS (by omega)) ?_
      exact ⟨_, _, by omega, Weak.nrm [false, false, false, true, false, true, false, false, false, false, false, true, true, true, false, false, false, false, false, false, false, false, false, false, false, false, false, false, false, false, true, true, true] [(3, 3), (5, 5), (30, 30)] rfl rfl rfl, .inr (.inl ⟨rfl, rfl⟩)⟩
    · have h5 := hst.2
      have h6 := hst.1
      clear hst hcase
      subst h6
      subst h5
      refine Split.mk fun t h1 => ?_
      cases t
      case false => cases h1
      refine Need.mk (by simp) ?_
      refine Row.mk _ rfl ?_
      refine ACall.mk _ _ hD2 ?_
      refine Need.mk (strFits (by simp only [ByteArray.size_append, sz32, sz10]; omega)) ?_
      refine ACall.mk _ _ hW2 ?_
      refine Num.mk _ (wrapS (by omega)) ?_
      exact ⟨_, _, by omega, Weak.nrm [false, false, false, true, false, true, false, false, false, false, false, true, true, true, false, false, false, false, false, false, false, false, false, false, false, false, false, false, false, false, true, true, true] [(3, 3), (5, 5), (30, 30)] rfl rfl rfl, .inr (.inr (.inl ⟨rfl, rfl⟩))⟩
    · have h5 := hst.2
      have h6 := hst.1
      clear hst hcase
      subst h6
      subst h5
      refine Split.mk fun t h1 => ?_
      cases t
      case false => cases h1
      refine Need.mk (by simp) ?_
      refine Row.mk _ rfl ?_
      refine ACall.mk _ _ hD3 ?_
      refine Need.mk (strFits (by simp only [ByteArray.size_append, sz32, sz10]; omega)) ?_
      refine ACall.mk _ _ hW3 ?_
      refine Num.mk _ (wrapS (by omega)) ?_
      exact ⟨_, _, by omega, Weak.nrm [false, false, false, true, false, true, false, false, false, false, false, true, true, true, false, false, false, false, false, false, false, false, false, false, false, false, false, false, false, false, true, true, true] [(3, 3), (5, 5), (30, 30)] rfl rfl rfl, .inr (.inr (.inr (.inl ⟨rfl, rfl⟩)))⟩
    · have h5 := hst.2
      have h6 := hst.1
      clear hst hcase
      subst h6
      subst h5
      refine Split.mk fun t h1 => ?_
      cases t
      case false => cases h1
      refine Need.mk (by simp) ?_
      refine Row.mk _ rfl ?_
      refine ACall.mk _ _ hD4 ?_
      refine Need.mk (strFits (by simp only [ByteArray.size_append, sz32, sz10]; omega)) ?_
      refine ACall.mk _ _ hW4 ?_
      refine Num.mk _ (wrapS (by omega)) ?_
      exact ⟨_, _, by omega, Weak.nrm [false, false, false, true, false, true, false, false, false, false, false, true, true, true, false, false, false, false, false, false, false, false, false, false, false, false, false, false, false, false, true, true, true] [(3, 3), (5, 5), (30, 30)] rfl rfl rfl, .inr (.inr (.inr (.inr ⟨rfl, rfl⟩)))⟩
    · have h5 := hst.2
      have h6 := hst.1
      clear hst hcase
      subst h6
      subst h5
      refine Split.mk fun t h1 => ?_
      cases t
      case true => cases h1
      refine ACall.mk _ _ hW5 ?_
      refine Num.mk _ (wrapS (by omega)) ?_
      exact ⟨_, _, by omega, Weak.nrm [false, false, false, true, false, false, false, false, false, false, false, true, true, true] [(3, 3)] rfl rfl rfl, i + 1, ⟨by omega, rfl⟩, rfl⟩
  · refine Exists.elim (hlast i hlt) fun l hx => ?_
    refine Exists.elim hx fun d hx => ?_
    have ho := hx.1
    have hz := hx.2.1
    have hD := hx.2.2.1
    have hN := hx.2.2.2.1
    have hS := hx.2.2.2.2.1
    have hres := hx.2.2.2.2.2
    clear hx
    rw [ho] at hst
    subst hst
    refine Split.mk fun t h1 => ?_
    cases t
    case true => (exfalso; rw [decide_eq_true_iff] at h1; omega)
    rw [decide_eq_false_iff_not] at h1
    refine ACall.mk _ _ hN ?_
    refine ACall.mk _ _ hD ?_
    refine Need.mk (strFits (by simp only [ByteArray.size_append, sz32, sz10]; omega)) ?_
    refine ACall.mk _ _ hS ?_
    refine Need.mk (strFits (by simp only [ByteArray.size_append, sz32, sz10]; omega)) ?_
    refine Need.mk (strFits (by simp only [ByteArray.size_append, sz32, sz10]; omega)) ?_
    exact Need.mk ⟨[], _, .same, hres, rfl⟩ trivial
theorem impl_FrameText (b : List Ent) (hb : OkE b) (hl : b.length ≤ 1048576) : AFn Tryd.prog 9 [.one (.c (.sl (b.map Ent.enc)))] [] (.one (vs (bt (frameT b)))) [] := by
  cases h : batOk b with
  | true => exact impl_FrameText1 b hb hl h
  | false => exact impl_FrameText0 b hb hl h
end Go.Proofs.YtncnajcpoacdjaaDoor
