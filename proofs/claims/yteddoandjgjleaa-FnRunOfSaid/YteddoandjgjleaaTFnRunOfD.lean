/-
  Contracts of functions, part 4.
-/
import Derived.Test.YteddoandjgjleaaTFnRunOfC
namespace Go.Proofs.Yteddoandjgjleaa
open Go Go.Proofs Ev
set_option maxRecDepth 100000
theorem laws_eqRun (a b : Rn) : AFn Try.prog 36 [.agg (a.enc.map .c), .agg (b.enc.map .c)] [] (rb (decide (a = b))) [] := by
  refine AFn.introX (E := En 0 md0) (en_ok 0 md0) Try.func36 rfl rfl rfl fun _ _ => ?_
  have fin : ∀ {c : Bool}, c = decide (a = b) → rb c = rb (decide (a = b)) := fun h => by rw [h]
  refine ACall.mk _ _ (laws_eqEntryS a.ents b.ents) ?_
  refine Split.mk fun t ht => ?_
  cases t
  · exact Need.mk ⟨[], _, .same, fin (by cases a; cases b; simp_all), rfl⟩ trivial
  · refine Split.mk fun t ht1 => ?_
    cases t
    · exact Need.mk ⟨[], _, .same, fin (by cases a; cases b; simp_all), rfl⟩ trivial
    · exact Need.mk ⟨[], _, .same, fin (by cases a; cases b; simp_all), rfl⟩ trivial
end Go.Proofs.Yteddoandjgjleaa

namespace Go.Proofs.Yteddoandjgjleaa
open Go Go.Proofs Ev
set_option maxRecDepth 100000
theorem laws_markText (k : Nat) (hk : k ≤ 4611686018427387904) : AFn Try.prog 96 [av (.int .i64 k)] [] (.one (vs (markT k))) [] := by
  refine AFn.introX (E := En 0 md0) (en_ok 0 md0) Try.func96 rfl rfl rfl fun _ _ => ?_
  refine Split.mk fun t ht => ?_
  cases t
  · have h0 : 0 < k := by simp at ht; omega
    refine ALoop.mk (fun n s => ∃ (j : Nat) (out : ByteArray), n = j ∧ j + out.size ≤ 4611686018427387904 ∧ digs j out = digs k ⟨#[]⟩ ∧
      s = ⟨some (av (.int .i64 j)) :: none :: some (av (.string ⟨#[]⟩)) :: some (av (.string out)) :: List.replicate 16 none, List.replicate 20 absent⟩)
      ⟨k, _, Weak.nrm [true, false, true, true] [] rfl rfl rfl, k, ⟨#[]⟩, rfl, hk, rfl, rfl⟩ ?_
    rintro j s ⟨_, out, rfl, hb, hd, rfl⟩
    refine Split.mk fun t ht => ?_
    cases t
    · have hj : j = 0 := by simp at ht; omega
      subst hj
      refine Need.mk (strFits1 (by omega)) ?_
      refine Need.mk ⟨[], _, .same, ?_, rfl⟩ trivial
      have : markT k = ⟨#[109]⟩ ++ digs k ⟨#[]⟩ := by simp [markT]; omega
      rw [this, ← hd, digs_zero]; rfl
    · have hj : 0 < j := by simpa using ht
      refine Need.mk (by decide) ?_
      refine Num.mk ((48 + j % 10 : Nat) : Int) (by rw [show ((j : Int).tmod 10) = ((j % 10 : Nat) : Int) from rfl, wrapI] <;> omega) ?_
      refine Num.mk ((48 + j % 10 : Nat) : Int) (by rw [wrapU8] <;> omega) ?_
      refine Need.mk (strFits1 (by omega)) ?_
      refine Need.mk (by decide) ?_
      refine Num.mk ((j / 10 : Nat) : Int) (by rw [show ((j : Int).tdiv 10) = ((j / 10 : Nat) : Int) from rfl, wrapI] <;> omega) ?_
      refine ⟨j / 10, _, by omega, Weak.nrm [true, false, true, true] [] rfl rfl rfl, j / 10, dig j ++ out, rfl, ?_, ?_, rfl⟩
      · rw [ByteArray.size_append, show (dig j).size = 1 from rfl]; omega
      · rw [← digs_succ hj]; exact hd
  · have h0 : k = 0 := by simp at ht; omega
    subst h0
    exact Need.mk ⟨[], _, .same, rfl, rfl⟩ trivial
end Go.Proofs.Yteddoandjgjleaa

namespace Go.Proofs.Yteddoandjgjleaa
open Go Go.Proofs Ev
set_option maxRecDepth 100000
theorem laws_markEntryS (xs : List Ent) (k : Nat) (hk : k + 5 * xs.length ≤ 4611686018427387904) : AFn Try.prog 44 [.one (.ref 0 0 (.cell 0)), av (.int .i64 k)] [[.us 82 (xs.map Ent.enc)]] (.one (vi ((k + 5 * xs.length : Nat) : Int))) [[.us 82 ((markL k xs.length).map Ent.enc)]] := by
  refine AFn.introX (E := En 1 md0) (en_ok 1 md0) Try.func44 rfl rfl rfl fun _ _ => ?_
  let S : List (List C) → Nat → Nat → St := fun rows i m => ⟨some (.one (.ref 0 0 (.cell 0))) :: some (av (.int .i64 m)) :: none :: none :: none :: some (av (.int .i64 i)) :: List.replicate 44 none, ⟨0, 1, some [.us 82 rows]⟩ :: List.replicate 50 absent⟩
  refine ALoop.mk (fun n s => ∃ (i : Nat) (ys : List Ent), i ≤ xs.length ∧ n = xs.length - i ∧ ys.length = xs.length ∧ (∀ j : Nat, j < i → ys[j]? = some (markE (k + 5 * j))) ∧ s = S (ys.map Ent.enc) i (k + 5 * i))
    ⟨xs.length, _, Weak.nrm [true, true, false, false, false, true] [(0, 0)] rfl rfl rfl, 0, xs, Nat.zero_le _, rfl, rfl, by intro j hj; omega, rfl⟩ ?_
  rintro n s ⟨i, ys, hi, rfl, hl, hm, rfl⟩
  refine Split.mk fun t ht => ?_
  rw [List.length_map] at ht
  cases t
  · have hia : i = xs.length := by simp at ht; omega
    subst hia
    refine Need.mk ⟨[], _, .same, rfl, ?_⟩ trivial
    rw [← markL_of hl hm]; rfl
  · have hia : i < ys.length := by simpa using ht
    have hlen : i < (ys.map Ent.enc).length := by rw [List.length_map]; exact hia
    refine ACall.mk _ _ (laws_markText (k + 5 * i) (by omega)) ?_
    refine Need.mk ⟨by omega, by simpa using hia⟩ ?_
    refine Row.mk _ (map_get _ ys i hia) ?_
    refine Num.mk _ (wrapS (by omega)) ?_
    refine Need.mk ⟨by omega, by simpa using hia⟩ ?_
    refine Row.mk _ (set_get _ _ _ hlen) ?_
    refine Num.mk _ (wrapS (by omega)) ?_
    refine Need.mk ⟨by omega, by simpa using hia⟩ ?_
    refine Row.mk _ (set_get _ _ _ (by simpa using hia)) ?_
    refine Num.mk _ (wrapS (by omega)) ?_
    refine ACall.mk _ _ (laws_markText (k + 5 * i + 1 + 1 + 1) (by omega)) ?_
    refine Need.mk ⟨by omega, by simpa using hia⟩ ?_
    refine Row.mk _ (set_get _ _ _ (by simpa using hia)) ?_
    refine Num.mk _ (wrapS (by omega)) ?_
    refine Need.mk ⟨by omega, by simpa using hia⟩ ?_
    refine Row.mk _ (set_get _ _ _ (by simpa using hia)) ?_
    refine Num.mk _ (wrapS (by omega)) ?_
    refine Num.mk _ (wrapS (by omega)) ?_
    refine ⟨xs.length - (i + 1), _, by omega, Weak.nrm [true, true, false, false, false, true] [(0, 0)] rfl rfl rfl, i + 1, ys.set i (markE (k + 5 * i)), by omega, rfl, by simpa using hl, fun j hj => ?_, ?_⟩
    · by_cases hji : j = i
      · subst hji; exact List.getElem?_set_self hia
      · rw [List.getElem?_set_ne (Ne.symm hji)]; exact hm j (by omega)
    · refine Eq.trans (b := S ((((((ys.map Ent.enc).set i _).set i _).set i _).set i _).set i (markE (k + 5 * i)).enc) (i + 1) (k + 5 * i + 1 + 1 + 1 + 1 + 1)) rfl ?_
      simp only [List.set_set, List.map_set]
      rfl
end Go.Proofs.Yteddoandjgjleaa

namespace Go.Proofs.Yteddoandjgjleaa
open Go Go.Proofs Ev
set_option maxRecDepth 100000
theorem laws_heldEntryS (k n : Nat) (hk : k + 5 * n ≤ 4611686018427387904) : AFn Try.prog 45 [sl ((markL k n).map Ent.enc), av (.int .i64 k)] [] (.one (vi ((k + 5 * n : Nat) : Int))) [] := by
  refine AFn.introX (E := En 0 md0) (en_ok 0 md0) Try.func45 rfl rfl rfl fun _ _ => ?_
  have hn : ((markL k n).map Ent.enc).length = n := by rw [List.length_map, markL_len]
  refine ALoop.mk (fun m s => ∃ i : Nat, i ≤ n ∧ m = n - i ∧
      s = ⟨some (sl ((markL k n).map Ent.enc)) :: some (av (.int .i64 ((k + 5 * i : Nat) : Int))) :: none :: none :: none :: some (av (.int .i64 i)) :: List.replicate 54 none, List.replicate 60 absent⟩)
    ⟨n, _, Weak.nrm [true, true, false, false, false, true] [] rfl rfl rfl, 0, Nat.zero_le _, rfl, rfl⟩ ?_
  rintro m s ⟨i, hi, rfl, rfl⟩
  refine Split.mk fun t ht => ?_
  rw [hn] at ht
  cases t
  · have hin : i = n := by simp at ht; omega
    subst hin
    exact Need.mk ⟨[], _, .same, rfl, rfl⟩ trivial
  · have hin : i < n := by simpa using ht
    have hget : ((markL k n).map Ent.enc)[i]? = some (markE (k + 5 * i)).enc := by rw [List.getElem?_map, markL_get hin]; rfl
    refine Need.mk (by omega) ?_
    refine Row.mk _ hget ?_
    refine ACall.mk _ _ (laws_markText (k + 5 * i) (by omega)) ?_
    refine Split.mk fun t ht => ?_
    rw [bytes_beq] at ht
    cases t
    · refine Need.mk rfl ?_
      refine Num.mk _ (wrapS (by omega)) ?_
      refine Need.mk (by omega) ?_
      refine Row.mk _ hget ?_
      refine Split.mk fun t ht => ?_
      cases t
      · refine Num.mk _ (wrapS (by omega)) ?_
        refine Need.mk (by omega) ?_
        refine Row.mk _ hget ?_
        refine Split.mk fun t ht => ?_
        cases t
        · refine Num.mk _ (wrapS (by omega)) ?_
          refine Need.mk (by omega) ?_
          refine Row.mk _ hget ?_
          refine ACall.mk _ _ (laws_markText (k + 5 * i + 1 + 1 + 1) (by omega)) ?_
          refine Split.mk fun t ht => ?_
          rw [bytes_beq] at ht
          cases t
          · refine Need.mk rfl ?_
            refine Num.mk _ (wrapS (by omega)) ?_
            refine Need.mk (by omega) ?_
            refine Row.mk _ hget ?_
            refine Split.mk fun t ht => ?_
            cases t
            · refine Num.mk _ (wrapS (by omega)) ?_
              refine Num.mk _ (wrapS (by omega)) ?_
              exact ⟨n - (i + 1), _, by omega, Weak.nrm [true, true, false, false, false, true] [] rfl rfl rfl, i + 1, by omega, rfl, rfl⟩
            · simp [markE] at ht <;> omega
          · simp [markE] at ht <;> omega
        · simp [markE] at ht <;> omega
      · simp [markE] at ht <;> omega
    · simp [markE] at ht <;> omega
end Go.Proofs.Yteddoandjgjleaa

namespace Go.Proofs.Yteddoandjgjleaa
open Go Go.Proofs Ev
set_option maxRecDepth 100000
theorem laws_markRun (r : Rn) (k : Nat) (hk : k + 5 * r.ents.length ≤ 4611686018427387904) : AFn Try.prog 50 [.agg [.ref 0 0 (.cell 0), .c (vi r.mask)], av (.int .i64 k)] [[.us 82 (r.ents.map Ent.enc)]] (.one (vi ((k + 5 * r.ents.length : Nat) : Int))) [[.us 82 ((markL k r.ents.length).map Ent.enc)]] := by
  refine AFn.introX (E := En 1 (md1 [44]) [2]) (en_ok 1 _ _) Try.func50 rfl rfl rfl fun _ hs => ?_
  refine ACall.mk _ _ (laws_markEntryS r.ents k hk) ?_
  exact Need.mk ⟨[], _, .same, rfl, rfl⟩ trivial
theorem laws_heldRun (m : Int) (k n : Nat) (hk : k + 5 * n ≤ 4611686018427387904) : AFn Try.prog 51 [.agg [.c (.sl ((markL k n).map Ent.enc)), .c (vi m)], av (.int .i64 k)] [] (.one (vi ((k + 5 * n : Nat) : Int))) [] := by
  refine AFn.introX (E := En 0 md0) (en_ok 0 md0) Try.func51 rfl rfl rfl fun _ hs => ?_
  refine ACall.mk _ _ (laws_heldEntryS k n hk) ?_
  refine Split.mk fun b hb => ?_
  cases b
  · exact Need.mk ⟨[], _, .same, rfl, rfl⟩ trivial
  · first | (simp at hb; done) | (simp at hb; omega)
end Go.Proofs.Yteddoandjgjleaa

namespace Go.Proofs.Yteddoandjgjleaa
open Go Go.Proofs Ev
set_option maxRecDepth 100000
set_option maxHeartbeats 2000000
theorem closed_rof (e : TypeId) (xs : List Ent) (v w : Value) : ∀ c ∈ ([C.us e (xs.map Ent.enc), .v v, .v w] : List C), Closed c := fun c hc => by
  simp only [List.mem_cons, List.not_mem_nil, or_false] at hc
  rcases hc with h | h | h <;> subst h
  · exact closedE e xs
  · exact .v
  · exact .v
theorem laws_FnExactRunOf (xs : List Ent) (hx : OkE xs) : AFn Try.prog 9 [sl (xs.map Ent.enc)] [] (rb true) [] := by
  refine AFn.introX (E := En 0 (mdv [44, 50] [47])) (en_ok 0 _) Try.func9 rfl rfl rfl fun _ _ => ?_
  by_cases h1 : sizeE xs ≤ 1048576
  · have hl : xs.length ≤ 1048576 := by unfold sizeE at h1; omega
    have hex : ∃ ys, isort eLess xs = ys := ⟨_, rfl⟩
    obtain ⟨ys, hy⟩ := hex
    have hyl : ys.length ≤ 1048576 := by rw [← hy, isort_len]; exact hl
    by_cases hg : good xs = true
    · have hS := spec_RunOf_ok xs hx hg
      have hI := impl_RunOf_ok xs hx hg
      rw [hy] at hS hI
      refine ACall.mk (.one (vi ((1048576 - sizeE xs : Nat) : Int))) [] (by rw [← cut_pos h1]; exact laws_szEntryS xs 1048576 hx (Nat.le_refl _)) ?_
      refine Split.mk fun t ht => ?_
      cases t
      case true => first | (simp at ht; done) | (simp at ht; omega)
      refine ACall.mk _ _ (laws_toEntryS xs hl) ?_
      refine Fz.mk _ (frzE xs) ?_
      refine ACall.mk _ _ hS ?_
      refine Split.mk fun t h2 => ?_
      cases t
      case false => cases h2
      refine ACall.mk _ _ (laws_toEntryS xs hl) ?_
      refine Fz.mk _ (frzE xs) ?_
      refine ACall.mk _ _ hI ?_
      refine Need.mk ⟨closed_rof _ ys _ _, no_objs⟩ ?_
      refine Split.mk fun t h3 => ?_
      cases t
      case false => cases h3
      refine Fz.mk _ (frzE ys) ?_
      refine ACall.mk _ _ (laws_eqRun ⟨ys, (rmask ys : Nat)⟩ ⟨ys, (rmask ys : Nat)⟩) ?_
      refine Need.mk ⟨closed_v, no_objs⟩ ?_
      refine Split.mk fun t h4 => ?_
      cases t
      case false => simp at h4
      refine Split.mk fun t h5 => ?_
      cases t
      case true => simp at h5
      refine ACall.mk _ _ (laws_toEntryS xs hl) ?_
      refine Fz.mk _ (frzE xs) ?_
      refine Fz.mk _ (frzE xs) ?_
      refine ACall.mk _ _ (laws_eqEntryS xs xs) ?_
      refine Need.mk ⟨closed_v, no_objs⟩ ?_
      refine Split.mk fun t h6 => ?_
      cases t
      case false => simp at h6
      refine ACall.mk _ _ (laws_markEntryS xs 1 (by omega)) ?_
      refine Split.mk fun t h7 => ?_
      cases t
      case true => first | (simp at h7; done) | (simp at h7; omega)
      refine Fz.mk _ (frzE ys) ?_
      refine ACall.mk _ _ (laws_eqRun ⟨ys, (rmask ys : Nat)⟩ ⟨ys, (rmask ys : Nat)⟩) ?_
      refine Need.mk ⟨closed_v, no_objs⟩ ?_
      refine Split.mk fun t h8 => ?_
      cases t
      case false => simp at h8
      refine Split.mk fun t h9 => ?_
      cases t
      case true => simp at h9
      refine ACall.mk _ _ (laws_markRun ⟨ys, (rmask ys : Nat)⟩ 1 (by show 1 + 5 * ys.length ≤ _; omega)) ?_
      refine Fz.mk _ (frzE (markL 1 ys.length)) ?_
      refine ACall.mk _ _ (laws_heldRun (rmask ys : Nat) 1 ys.length (by omega)) ?_
      refine Need.mk ⟨closed_v, no_objs⟩ ?_
      refine Split.mk fun t h10 => ?_
      cases t
      case true => first | (simp at h10; done) | (simp at h10; omega)
      refine Split.mk fun t h11 => ?_
      cases t
      case true => simp at h11
      refine ACall.mk _ _ (laws_toEntryS xs hl) ?_
      refine Fz.mk _ (frzE xs) ?_
      refine ACall.mk _ _ hI ?_
      refine Need.mk ⟨closed_rof _ ys _ _, no_objs⟩ ?_
      refine Split.mk fun t h12 => ?_
      cases t
      case false => cases h12
      refine Fz.mk _ (frzE ys) ?_
      refine ACall.mk _ _ (laws_eqRun ⟨ys, (rmask ys : Nat)⟩ ⟨ys, (rmask ys : Nat)⟩) ?_
      refine Need.mk ⟨closed_v, no_objs⟩ ?_
      refine Split.mk fun t h13 => ?_
      cases t
      case false => simp at h13
      refine Split.mk fun t h14 => ?_
      cases t
      case true => simp at h14
      refine Fz.mk _ (frzE (markL 1 ys.length)) ?_
      refine ACall.mk _ _ (laws_heldRun (rmask ys : Nat) 1 ys.length (by omega)) ?_
      refine Need.mk ⟨closed_v, no_objs⟩ ?_
      refine Split.mk fun t h15 => ?_
      cases t
      case true => first | (simp at h15; done) | (simp at h15; omega)
      refine Split.mk fun t h16 => ?_
      cases t
      case true => simp at h16
      exact Need.mk ⟨[], _, .same, rfl, rfl⟩ trivial
    · have hg : good xs = false := by simpa using hg
      have hS := spec_RunOf_bad xs hx hg
      have hI := impl_RunOf_bad xs hx hg
      refine ACall.mk (.one (vi ((1048576 - sizeE xs : Nat) : Int))) [] (by rw [← cut_pos h1]; exact laws_szEntryS xs 1048576 hx (Nat.le_refl _)) ?_
      refine Split.mk fun t ht => ?_
      cases t
      case true => first | (simp at ht; done) | (simp at ht; omega)
      refine ACall.mk _ _ (laws_toEntryS xs hl) ?_
      refine Fz.mk _ (frzE xs) ?_
      refine ACall.mk _ _ hS ?_
      refine Split.mk fun t h2 => ?_
      cases t
      case true => cases h2
      refine ACall.mk _ _ (laws_toEntryS xs hl) ?_
      refine Fz.mk _ (frzE xs) ?_
      refine ACall.mk _ _ hI ?_
      refine Need.mk ⟨closed_rof _ [] _ _, no_objs⟩ ?_
      refine Split.mk fun t h3 => ?_
      cases t
      case true => cases h3
      refine Fz.mk _ (frzE []) ?_
      refine Fz.mk _ (frzE []) ?_
      refine ACall.mk _ _ (laws_eqRun ⟨[], 0⟩ ⟨[], 0⟩) ?_
      refine Need.mk ⟨closed_v, no_objs⟩ ?_
      refine Split.mk fun t h4 => ?_
      cases t
      case false => simp at h4
      refine Split.mk fun t h5 => ?_
      cases t
      case true => simp at h5
      refine ACall.mk _ _ (laws_toEntryS xs hl) ?_
      refine Fz.mk _ (frzE xs) ?_
      refine Fz.mk _ (frzE xs) ?_
      refine ACall.mk _ _ (laws_eqEntryS xs xs) ?_
      refine Need.mk ⟨closed_v, no_objs⟩ ?_
      refine Split.mk fun t h6 => ?_
      cases t
      case false => simp at h6
      refine ACall.mk _ _ (laws_markEntryS xs 1 (by omega)) ?_
      refine Split.mk fun t h7 => ?_
      cases t
      case true => first | (simp at h7; done) | (simp at h7; omega)
      refine Fz.mk _ (frzE []) ?_
      refine Fz.mk _ (frzE []) ?_
      refine ACall.mk _ _ (laws_eqRun ⟨[], 0⟩ ⟨[], 0⟩) ?_
      refine Need.mk ⟨closed_v, no_objs⟩ ?_
      refine Split.mk fun t h8 => ?_
      cases t
      case false => simp at h8
      refine Split.mk fun t h9 => ?_
      cases t
      case true => simp at h9
      refine ACall.mk _ _ (laws_markRun ⟨[], 0⟩ 1 (by decide)) ?_
      refine Fz.mk _ (frzE (markL 1 0)) ?_
      refine ACall.mk _ _ (laws_heldRun 0 1 0 (by omega)) ?_
      refine Need.mk ⟨closed_v, no_objs⟩ ?_
      refine Split.mk fun t h10 => ?_
      cases t
      case true => first | (simp at h10; done) | (simp at h10; omega)
      refine Split.mk fun t h11 => ?_
      cases t
      case true => simp at h11
      refine ACall.mk _ _ (laws_toEntryS xs hl) ?_
      refine Fz.mk _ (frzE xs) ?_
      refine ACall.mk _ _ hI ?_
      refine Need.mk ⟨closed_rof _ [] _ _, no_objs⟩ ?_
      refine Split.mk fun t h12 => ?_
      cases t
      case true => cases h12
      refine Fz.mk _ (frzE []) ?_
      refine Fz.mk _ (frzE []) ?_
      refine ACall.mk _ _ (laws_eqRun ⟨[], 0⟩ ⟨[], 0⟩) ?_
      refine Need.mk ⟨closed_v, no_objs⟩ ?_
      refine Split.mk fun t h13 => ?_
      cases t
      case false => simp at h13
      refine Split.mk fun t h14 => ?_
      cases t
      case true => simp at h14
      refine Fz.mk _ (frzE (markL 1 0)) ?_
      refine ACall.mk _ _ (laws_heldRun 0 1 0 (by omega)) ?_
      refine Need.mk ⟨closed_v, no_objs⟩ ?_
      refine Split.mk fun t h15 => ?_
      cases t
      case true => first | (simp at h15; done) | (simp at h15; omega)
      refine Split.mk fun t h16 => ?_
      cases t
      case true => simp at h16
      exact Need.mk ⟨[], _, .same, rfl, rfl⟩ trivial
  · refine ACall.mk (.one (vi (-1))) [] (by rw [← cut_neg h1]; exact laws_szEntryS xs 1048576 hx (Nat.le_refl _)) ?_
    refine Split.mk fun t ht => ?_
    cases t
    · simp at ht
    · exact Need.mk ⟨[], _, .same, rfl, rfl⟩ trivial
theorem laws_FnExactRunOf_any (c0 : C) (h0 : Sh (.slice tyEnt) c0) : AFn Try.prog 9 [.one (.c c0)] [] (rb true) [] := by
  obtain ⟨xs, rfl, w⟩ := dec_ents h0
  exact laws_FnExactRunOf xs fun e he => (w e he).1
end Go.Proofs.Yteddoandjgjleaa

namespace Go.Proofs.Yteddoandjgjleaa
open Go Go.Proofs Ev
set_option maxRecDepth 100000
set_option maxHeartbeats 8000000
theorem FnRunOf_good (bs : List Nat) (xs ys : List Ent) (hbl : (bs.map encB).length = bs.length) (hl : bs.length ≤ 1048576) (hn : xs.length ≤ 160) (hxl : (xs.map Ent.enc).length = xs.length) (hg2 : 1 ≤ xs.length ∧ xs.length ≤ 150 ∧ ordOk ys = true)
    (hD : AFn Try.prog 54 [sl (bs.map encB)] [] (.one (.us 82 (xs.map Ent.enc))) [])
    (hI : AFn Try.prog 49 [sl (xs.map Ent.enc)] [] (.tup [.agg [.us 82 (ys.map Ent.enc), vi (rmask ys : Nat)], .one (vb true)]) [])
    (hS : AFn Try.prog 47 [sl (xs.map Ent.enc)] [] (.tup [.agg [.sl (ys.map Ent.enc), vi (rmask ys : Nat)], .one (vb true)]) [])
    (hI2 : AFn Try.prog 49 [sl (ys.map Ent.enc)] [] (.tup [.agg [.us 82 (ys.map Ent.enc), vi (rmask ys : Nat)], .one (vb true)]) [])
    (hlen : ys.length = xs.length) (hcnt : ∀ (i : Nat) (hi : i < xs.length), ys.countP (fun e => decide (e = xs[i])) = 1)
    (hless : ∀ (i : Nat) (_ : 0 < i) (hi : i < ys.length), AFn Try.prog 56 [.agg (ys[i - 1].enc.map .c), .agg (ys[i].enc.map .c)] [] (rb true) [])
    (hO : AFn Try.prog 57 [.agg ((⟨ys, (rmask ys : Nat)⟩ : Rn).enc.map .c)] [] (rb true) []) (hyl : (ys.map Ent.enc).length = ys.length) :
    AFn Try.prog 11 [sl (bs.map encB)] [] (rb true) [] := by
  have hE := impl_RunSame ⟨ys, (rmask ys : Nat)⟩ ⟨ys, (rmask ys : Nat)⟩
  rw [decide_eq_true rfl] at hE
  let S : Nat → St := fun i => ⟨none :: none :: none :: some (sl (xs.map Ent.enc)) :: some (.bx 4 0) :: none :: none :: none :: some (av (.int .i64 i)) :: List.replicate 103 none, absent :: absent :: absent :: absent :: ⟨0, 0, some [.us 82 (ys.map Ent.enc), vi (rmask ys : Nat)]⟩ :: List.replicate 107 absent⟩
  let S2 : Nat → Nat → Nat → St := fun i c k => ⟨none :: none :: none :: some (sl (xs.map Ent.enc)) :: some (.bx 4 0) :: none :: none :: none :: some (av (.int .i64 i)) :: some (av (.int .i64 c)) :: some (av (.int .i64 k)) :: List.replicate 101 none, absent :: absent :: absent :: absent :: ⟨0, 0, some [.us 82 (ys.map Ent.enc), vi (rmask ys : Nat)]⟩ :: List.replicate 107 absent⟩
  refine AFn.introX (E := En 0 md0 (fz := [3])) (en_ok 0 _ _ _ _ _) Try.func11 rfl rfl rfl fun _ _ => ?_
  refine Split.mk fun t ht => ?_
  rw [hbl] at ht
  cases t
  case true => rw [decide_eq_true_iff] at ht; omega
  refine ACall.mk _ _ hD ?_
  refine Fz.mk _ (frzE xs) ?_
  refine ACall.mk _ _ hI ?_
  refine Split.mk fun t h => ?_
  cases t
  case false => cases h
  refine ACall.mk _ _ hS ?_
  refine Split.mk fun t h => ?_
  cases t
  case false => cases h
  refine Split.mk fun t h => ?_
  cases t
  case true => cases h
  refine Fz.mk _ (frzE ys) ?_
  refine ACall.mk _ _ hE ?_
  refine Need.mk ⟨closed_v, no_objs⟩ ?_
  refine Split.mk fun t h => ?_
  cases t
  case false => cases h
  refine ALoop.mk (fun n s => ∃ i : Nat, i ≤ xs.length ∧ n = xs.length - i ∧ s = S i)
    ⟨xs.length, _, Weak.nrm [false, false, false, true, true, false, false, false, true] [(4, 4)] rfl rfl rfl, 0, Nat.zero_le _, rfl, rfl⟩ ?_
  rintro n s ⟨i, hi, rfl, hs⟩
  by_cases hin : i = xs.length
  · subst hs
    refine Split.mk fun t ht => ?_
    rw [hxl] at ht
    cases t
    case true => rw [decide_eq_true_iff] at ht; omega
    refine Fz.mk _ (frzE ys) ?_
    refine ACall.mk _ _ hI2 ?_
    refine Need.mk ⟨closed_rof _ ys _ _, no_objs⟩ ?_
    refine Split.mk fun t h => ?_
    cases t
    case false => cases h
    refine Fz.mk _ (frzE ys) ?_
    refine Fz.mk _ (frzE ys) ?_
    refine ACall.mk _ _ hE ?_
    refine Need.mk ⟨closed_v, no_objs⟩ ?_
    refine Split.mk fun t h => ?_
    cases t
    case false => cases h
    refine Fz.mk _ (frzE ys) ?_
    refine ACall.mk _ _ hO ?_
    refine Need.mk ⟨closed_v, no_objs⟩ ?_
    refine Split.mk fun t h => ?_
    cases t
    case false => cases h
    refine Split.mk fun t ht => ?_
    have ht : (((ys.map Ent.enc).length : Int) == ((xs.map Ent.enc).length : Nat)) = t := ht
    rw [hyl, hxl, hlen, beq_self_eq_true] at ht
    subst ht
    exact Need.mk ⟨[], _, .same, rfl, rfl⟩ trivial
  · have hia : i < xs.length := by omega
    have hrowx := map_get Ent.enc xs i hia
    have hc1 := hcnt i hia
    subst hs
    refine Split.mk fun t ht => ?_
    rw [hxl] at ht
    cases t
    case false => rw [decide_eq_false_iff_not] at ht; omega
    refine ALoop.mk (fun n s => ∃ k : Nat, k ≤ ys.length ∧ n = ys.length - k ∧ s = S2 i ((ys.take k).countP fun e => decide (e = xs[i])) k)
      ⟨ys.length, _, Weak.nrm [false, false, false, true, true, false, false, false, true, true, true] [(4, 4)] rfl rfl rfl, 0, Nat.zero_le _, rfl, rfl⟩ ?_
    rintro n s ⟨k, hk, rfl, hs⟩
    by_cases hkn : k = ys.length
    · rw [hkn, List.take_length, hc1] at hs
      by_cases hi0 : i = 0
      · subst hs
        refine Split.mk fun t ht => ?_
        rw [hyl] at ht
        cases t
        case true => rw [decide_eq_true_iff] at ht; omega
        refine Split.mk fun t ht => ?_
        cases t
        case true => cases ht
        refine Split.mk fun t ht => ?_
        cases t
        case true => rw [decide_eq_true_iff] at ht; omega
        refine Need.mk rfl ?_
        refine Num.mk _ (wrapS (by omega)) ?_
        exact ⟨xs.length - (i + 1), _, by omega, Weak.nrm [false, false, false, true, true, false, false, false, true] [(4, 4)] rfl rfl rfl, i + 1, by omega, rfl, rfl⟩
      · have hiy : i - 1 < ys.length := by omega
        have hiy2 : i < ys.length := by omega
        have hr1 := map_get Ent.enc ys (i - 1) hiy
        have hr2 := map_get Ent.enc ys i hiy2
        have hls := hless i (by omega) hiy2
        have n1 : (0 : Int) ≤ ((i - 1 : Nat) : Int) ∧ ((i - 1 : Nat) : Int) < ((ys.map Ent.enc).length : Nat) := by rw [hyl]; omega
        have n2 : (0 : Int) ≤ (i : Int) ∧ (i : Int) < ((ys.map Ent.enc).length : Nat) := by rw [hyl]; omega
        subst hs
        refine Split.mk fun t ht => ?_
        rw [hyl] at ht
        cases t
        case true => rw [decide_eq_true_iff] at ht; omega
        refine Split.mk fun t ht => ?_
        cases t
        case true => cases ht
        refine Split.mk fun t ht => ?_
        cases t
        case false => rw [decide_eq_false_iff_not] at ht; omega
        refine Num.mk ((i - 1 : Nat) : Int) (wrapI' (by omega) (by omega)) ?_
        refine Need.mk n1 ?_
        refine Row.mk _ hr1 ?_
        refine Need.mk n2 ?_
        refine Row.mk _ hr2 ?_
        refine ACall.mk _ _ hls ?_
        refine Split.mk fun t ht => ?_
        cases t
        case false => cases ht
        refine Need.mk rfl ?_
        refine Num.mk _ (wrapS (by omega)) ?_
        exact ⟨xs.length - (i + 1), _, by omega, Weak.nrm [false, false, false, true, true, false, false, false, true] [(4, 4)] rfl rfl rfl, i + 1, by omega, rfl, rfl⟩
    · have hka : k < ys.length := by omega
      have hr1 := map_get Ent.enc ys k hka
      have n1 : (0 : Int) ≤ (k : Int) ∧ (k : Int) < ((ys.map Ent.enc).length : Nat) := by rw [hyl]; omega
      have hcs := count_snoc ys xs[i] k hka
      have hcl : (ys.take k).countP (fun e => decide (e = xs[i])) ≤ 150 := Nat.le_trans List.countP_le_length (by rw [List.length_take]; omega)
      have hex : ∃ c, (ys.take k).countP (fun e => decide (e = xs[i])) = c := ⟨_, rfl⟩
      obtain ⟨c, hc⟩ := hex
      rw [hc] at hcs hcl hs
      by_cases hq : ys[k] = xs[i]
      · rw [if_pos hq] at hcs
        subst hs
        refine Split.mk fun t ht => ?_
        rw [hyl] at ht
        cases t
        case false => rw [decide_eq_false_iff_not] at ht; omega
        refine Need.mk n1 ?_
        refine Row.mk _ hr1 ?_
        refine Need.mk (by omega) ?_
        refine Row.mk _ hrowx ?_
        refine Split.mk fun t ht => ?_
        have ht : decide (ys[k] = xs[i]) = t := by rw [← ent_beq]; exact ht
        cases t
        case false => rw [decide_eq_true hq] at ht; cases ht
        refine Need.mk rfl ?_
        refine Num.mk _ (wrapS (by omega)) ?_
        refine Num.mk _ (wrapS (by omega)) ?_
        exact ⟨ys.length - (k + 1), _, by omega, Weak.nrm [false, false, false, true, true, false, false, false, true, true, true] [(4, 4)] rfl rfl rfl, k + 1, by omega, rfl, by rw [hcs]; rfl⟩
      · rw [if_neg hq, Nat.add_zero] at hcs
        subst hs
        refine Split.mk fun t ht => ?_
        rw [hyl] at ht
        cases t
        case false => rw [decide_eq_false_iff_not] at ht; omega
        refine Need.mk n1 ?_
        refine Row.mk _ hr1 ?_
        refine Need.mk (by omega) ?_
        refine Row.mk _ hrowx ?_
        refine Split.mk fun t ht => ?_
        have ht : decide (ys[k] = xs[i]) = t := by rw [← ent_beq]; exact ht
        cases t
        case true => rw [decide_eq_false hq] at ht; cases ht
        refine Need.mk rfl ?_
        refine Num.mk _ (wrapS (by omega)) ?_
        exact ⟨ys.length - (k + 1), _, by omega, Weak.nrm [false, false, false, true, true, false, false, false, true, true, true] [(4, 4)] rfl rfl rfl, k + 1, by omega, rfl, by rw [hcs]; rfl⟩
theorem laws_FnRunOf (bs : List Nat) (hb : ∀ b ∈ bs, b < 256) : AFn Try.prog 11 [sl (bs.map encB)] [] (rb true) [] := by
  have hbl : (bs.map encB).length = bs.length := List.length_map ..
  by_cases hl : bs.length ≤ 1048576
  · obtain ⟨xs, hD, hn, hEe⟩ := Draw_RunOf bs hb hl
    have hOk : OkE xs := fun e he => (hEe e he).ok
    have hxl : (xs.map Ent.enc).length = xs.length := List.length_map ..
    cases hg : good xs with
    | false =>
      have hI := impl_RunOf_bad xs hOk hg
      have hS := spec_RunOf_bad xs hOk hg
      have hE := impl_RunSame ⟨[], 0⟩ ⟨[], 0⟩
      rw [decide_eq_true rfl] at hE
      refine AFn.introX (E := En 0 md0 (fz := [3])) (en_ok 0 _ _ _ _ _) Try.func11 rfl rfl rfl fun _ _ => ?_
      refine Split.mk fun t ht => ?_
      rw [hbl] at ht
      cases t
      case true => rw [decide_eq_true_iff] at ht; omega
      refine ACall.mk _ _ hD ?_
      refine Fz.mk _ (frzE xs) ?_
      refine ACall.mk _ _ hI ?_
      refine Split.mk fun t h => ?_
      cases t
      case true => cases h
      refine ACall.mk _ _ hS ?_
      refine Split.mk fun t h => ?_
      cases t
      case true => cases h
      refine Split.mk fun t h => ?_
      cases t
      case true => cases h
      refine Fz.mk _ (frzE []) ?_
      refine Fz.mk _ (frzE []) ?_
      refine ACall.mk _ _ hE ?_
      refine Need.mk ⟨closed_v, no_objs⟩ ?_
      refine Split.mk fun t h => ?_
      cases t
      case false => cases h
      refine Fz.mk _ (frzE []) ?_
      refine ACall.mk _ _ hE ?_
      refine Need.mk ⟨closed_v, no_objs⟩ ?_
      refine Split.mk fun t h => ?_
      cases t
      case false => cases h
      exact Need.mk ⟨[], _, .same, rfl, rfl⟩ trivial
    | true =>
      have hI := impl_RunOf_ok xs hOk hg
      have hS := spec_RunOf_ok xs hOk hg
      have hyo : OkE (isort eLess xs) := fun e he => hOk e ((isort_mem _ _ _).1 he)
      have hg2 : 1 ≤ xs.length ∧ xs.length ≤ 150 ∧ ordOk (isort eLess xs) = true := by
        have := hg; simp only [good, Bool.and_eq_true, decide_eq_true_eq] at this; exact this
      have hlen : (isort eLess xs).length = xs.length := isort_len ..
      have hid := srt_id eLess_wk (ordOk_srt hg2.2.2)
      have hgy : good (isort eLess xs) = true := by
        simp only [good, Bool.and_eq_true, decide_eq_true_eq]
        exact ⟨by omega, by omega, by rw [hid]; exact hg2.2.2⟩
      have hI2 := impl_RunOf_ok _ hyo hgy
      rw [hid] at hI2
      have hpw := pw_of_ord hg2.2.2
      have hcnt : ∀ (i : Nat) (hi : i < xs.length), (isort eLess xs).countP (fun e => decide (e = xs[i])) = 1 := fun i hi => count_one hpw ((isort_mem _ _ _).2 (List.getElem_mem hi))
      have hless : ∀ (i : Nat) (_ : 0 < i) (hi : i < (isort eLess xs).length), AFn Try.prog 56 [.agg ((isort eLess xs)[i - 1].enc.map .c), .agg ((isort eLess xs)[i].enc.map .c)] [] (rb true) [] := fun i h0 hi => by
        have h1 := impl_EntryLess (isort eLess xs)[i - 1] (isort eLess xs)[i]
        have h2 := ((ordOk_iff _).1 hg2.2.2 i hi).2 (i - 1) (by omega)
        rwa [h2] at h1
      have hO := impl_RunOk ⟨isort eLess xs, (rmask (isort eLess xs) : Nat)⟩ hyo
      have hk : runOk ⟨isort eLess xs, (rmask (isort eLess xs) : Nat)⟩ = true := by
        simp only [runOk, Bool.and_eq_true, decide_eq_true_eq]
        exact ⟨by omega, by omega, hg2.2.2, trivial⟩
      rw [hk] at hO
      have hyl : ((isort eLess xs).map Ent.enc).length = (isort eLess xs).length := List.length_map ..
      exact FnRunOf_good bs xs _ hbl hl hn hxl hg2 hD hI hS hI2 hlen hcnt hless hO hyl
  · refine AFn.introX (E := En 0 md0) (en_ok 0 _) Try.func11 rfl rfl rfl fun _ _ => ?_
    refine Split.mk fun t ht => ?_
    rw [hbl] at ht
    cases t
    case false => rw [decide_eq_false_iff_not] at ht; omega
    exact Need.mk ⟨[], _, .same, rfl, rfl⟩ trivial
theorem laws_FnRunOf_any (c0 : C) (h0 : Sh (.slice tyB) c0) : AFn Try.prog 11 [.one (.c c0)] [] (rb true) [] := by
  obtain ⟨bs, rfl, hb⟩ := dec_bytes h0
  exact laws_FnRunOf bs hb
end Go.Proofs.Yteddoandjgjleaa
