/-
  Contracts of functions, part 4.
-/
import Derived.Test.YtlmdheeammfihaaTFnSquashPartsC
namespace Go.Proofs.Ytlmdheeammfihaa
open Go Go.Proofs Ev
set_option maxRecDepth 100000
set_option linter.unusedSimpArgs false
set_option linter.unusedVariables false
set_option maxHeartbeats 1000000
theorem l9_pick (bs : List Nat) (p : Nat) (n : Nat) (hb : OkB bs) (hp : p ≤ 1000000) (hn : n ≤ 4294967296) :
    AFnK Try.prog 67 [.bx 0 0, av (.int .i64 n)] [rd bs p] [0] (.one (vi (pickV bs p n))) [rd bs (p + 1)] := by
  refine AFnK.introX (E := En 1 md0) (en_ok 1 _) Try.func67 rfl rfl rfl fun _ _ => ?_
  have hl : (bs.map encB).length = bs.length := List.length_map ..
  have fin : ∀ {k : Int}, k = (pickV bs p n : Nat) → RV.one (vi k) = RV.one (vi (pickV bs p n)) := fun h => by rw [h]
  by_cases h0 : n < 1 ∨ bs = []
  · have hv : pickV bs p n = 0 := by rw [pickV, if_pos h0]
    rw [hv]
    refine Num.mk ((p + 1 : Nat) : Int) (wrapI' (by omega) (by omega)) ?_
    refine Split.mk fun t ht => ?_
    cases t
    · refine Split.mk fun t ht2 => ?_
      rw [hl] at ht2
      cases t
      · exfalso
        rcases h0 with h0 | h0
        · simp at ht; omega
        · subst h0; simp at ht2
      · exact Need.mk ⟨[], _, .same, rfl, rfl⟩ trivial
    · exact Need.mk ⟨[], _, .same, rfl, rfl⟩ trivial
  · have hn0 : 0 < n := by omega
    have hbl : 0 < bs.length := List.length_pos_iff.2 fun h => h0 (.inr h)
    by_cases hpl : p < bs.length
    · have hv : pickV bs p n = bs.getD p 0 % n := by rw [pickV, if_neg h0, if_pos hpl]
      have hbb := hb.get p
      have hrow := map_getD encB bs p 0 hpl
      rw [hv]
      refine Num.mk ((p + 1 : Nat) : Int) (wrapI' (by omega) (by omega)) ?_
      refine Split.mk fun t ht => ?_
      cases t
      case true => simp at ht; omega
      refine Split.mk fun t ht2 => ?_
      rw [hl] at ht2
      cases t
      case true => rw [beq_iff_eq] at ht2; omega
      refine Num.mk ((p : Nat) : Int) (wrapI' (by omega) (by omega)) ?_
      refine Split.mk fun t ht3 => ?_
      rw [hl] at ht3
      cases t
      · simp at ht3; omega
      refine Need.mk (by omega) ?_
      refine Row.mk _ hrow ?_
      refine Num.mk ((bs.getD p 0 : Nat) : Int) (wrapI' rfl (by omega)) ?_
      refine Need.mk (by omega) ?_
      exact Need.mk ⟨[], _, .same, rfl, rfl⟩ trivial
    · have hv : pickV bs p n = (pickX bs p ^^^ (pickX bs p / 64)) % n := by rw [pickV, if_neg h0, if_neg hpl]
      have hx := pickX_lt hb hp
      have hx64 : pickX bs p / 64 ≤ pickX bs p := Nat.div_le_self _ _
      have hxor := xorN (m := pickX bs p) (n := pickX bs p / 64) (by omega) (by omega)
      have hb1 := hb.get (p % bs.length)
      have hb2 := hb.get ((p * 7 + 3) % bs.length)
      have hr1 := map_getD encB bs (p % bs.length) 0 (Nat.mod_lt _ hbl)
      have hr2 := map_getD encB bs ((p * 7 + 3) % bs.length) 0 (Nat.mod_lt _ hbl)
      have hq : p / bs.length ≤ p := Nat.div_le_self _ _
      have hX : pickX bs p = bs.getD (p % bs.length) 0 * 131 + bs.getD ((p * 7 + 3) % bs.length) 0 * 1117 + p * 29 + p / bs.length * 53 := rfl
      have i1 : ((p : Int).tmod (((bs.map encB).length : Nat) : Int)).toNat = p % bs.length := by rw [hl, tmodN]; rfl
      have i2 : (((p * 7 + 3 : Nat) : Int).tmod (((bs.map encB).length : Nat) : Int)).toNat = (p * 7 + 3) % bs.length := by rw [hl, tmodN]; rfl
      have g1 : (0 : Int) ≤ (p : Int).tmod (((bs.map encB).length : Nat) : Int) := by rw [tmodN]; omega
      have g2 : (0 : Int) ≤ ((p * 7 + 3 : Nat) : Int).tmod (((bs.map encB).length : Nat) : Int) := by rw [tmodN]; omega
      have hne : (((bs.map encB).length : Nat) : Int) ≠ 0 := by rw [hl]; omega
      have hdiv : (p : Int).tdiv (((bs.map encB).length : Nat) : Int) = ((p / bs.length : Nat) : Int) := by rw [hl, tdivN]
      rw [hv]
      generalize hB1 : bs.getD (p % bs.length) 0 = b1 at *
      generalize hB2 : bs.getD ((p * 7 + 3) % bs.length) 0 = b2 at *
      generalize hQ : p / bs.length = q at *
      generalize pickX bs p = X at *
      refine Num.mk ((p + 1 : Nat) : Int) (wrapI' (by omega) (by omega)) ?_
      refine Split.mk fun t ht => ?_
      cases t
      case true => simp at ht; omega
      refine Split.mk fun t ht2 => ?_
      rw [hl] at ht2
      cases t
      case true => rw [beq_iff_eq] at ht2; omega
      refine Num.mk ((p : Nat) : Int) (wrapI' (by omega) (by omega)) ?_
      refine Split.mk fun t ht3 => ?_
      rw [hl] at ht3
      cases t
      case true => simp at ht3; omega
      refine Need.mk hne ?_
      refine Need.mk g1 ?_
      refine Row.mk (encB b1) (by rw [i1]; exact hr1) ?_
      refine Num.mk ((b1 : Nat) : Int) (wrapI' rfl (by omega)) ?_
      refine Num.mk ((b1 * 131 : Nat) : Int) (wrapI' (by omega) (by omega)) ?_
      refine Num.mk ((p * 7 : Nat) : Int) (wrapI' (by omega) (by omega)) ?_
      refine Num.mk ((p * 7 + 3 : Nat) : Int) (wrapI' (by omega) (by omega)) ?_
      refine Need.mk hne ?_
      refine Need.mk g2 ?_
      refine Row.mk (encB b2) (by rw [i2]; exact hr2) ?_
      refine Num.mk ((b2 : Nat) : Int) (wrapI' rfl (by omega)) ?_
      refine Num.mk ((b2 * 1117 : Nat) : Int) (wrapI' (by omega) (by omega)) ?_
      refine Num.mk ((b1 * 131 + b2 * 1117 : Nat) : Int) (wrapI' (by omega) (by omega)) ?_
      refine Num.mk ((p * 29 : Nat) : Int) (wrapI' (by omega) (by omega)) ?_
      refine Num.mk ((b1 * 131 + b2 * 1117 + p * 29 : Nat) : Int) (wrapI' (by omega) (by omega)) ?_
      refine Need.mk hne ?_
      refine Num.mk ((q : Nat) : Int) (wrapI' hdiv (by omega)) ?_
      refine Num.mk ((q * 53 : Nat) : Int) (wrapI' (by omega) (by omega)) ?_
      refine Num.mk ((X : Nat) : Int) (wrapI' (by omega) (by omega)) ?_
      refine Need.mk rfl ?_
      refine Need.mk (by decide) ?_
      refine Num.mk ((X / 64 : Nat) : Int) (wrapI' (tdivN' X 64) (by omega)) ?_
      refine Need.mk (by omega) ?_
      refine Need.mk ⟨[], _, .same, ?_, rfl⟩ trivial
      exact congrArg (fun z : Int => RV.one (vi (z.tmod (n : Int)))) hxor
theorem l9_of (bs : List Nat) (p : Nat) (xs : List ByteArray) (hb : OkB bs) (hp : p ≤ 1000000) (h0 : 0 < xs.length) (hx : xs.length ≤ 100) :
    AFnK Try.prog 54 [.bx 0 0, sl (xs.map encS)] [rd bs p] [0] (.one (vs (xs.getD (pickV bs p xs.length) ⟨#[]⟩))) [rd bs (p + 1)] := by
  refine AFnK.introX (E := En 1 md0) (en_ok 1 _) Try.func54 rfl rfl rfl fun _ _ => ?_
  have hl : (xs.map encS).length = xs.length := List.length_map ..
  have hlt := pickV_lt (bs := bs) (p := p) h0
  have hrow := map_getD encS xs _ ⟨#[]⟩ hlt
  have hP := l9_pick bs p xs.length hb hp (by omega)
  generalize pickV bs p xs.length = k at *
  rw [← hl] at hP
  refine ACall.mk _ _ hP ?_
  refine Need.mk (by omega) ?_
  refine Row.mk _ hrow ?_
  exact Need.mk ⟨[], _, .same, rfl, rfl⟩ trivial
theorem l9_num (bs : List Nat) (p : Nat) (xs : List Int) (hb : OkB bs) (hp : p ≤ 1000000) (h0 : 0 < xs.length) (hx : xs.length ≤ 100) :
    AFnK Try.prog 80 [.bx 0 0, sl (xs.map encI)] [rd bs p] [0] (.one (vi (xs.getD (pickV bs p xs.length) 0))) [rd bs (p + 1)] := by
  refine AFnK.introX (E := En 1 md0) (en_ok 1 _) Try.func80 rfl rfl rfl fun _ _ => ?_
  have hl : (xs.map encI).length = xs.length := List.length_map ..
  have hlt := pickV_lt (bs := bs) (p := p) h0
  have hrow := map_getD encI xs _ 0 hlt
  have hP := l9_pick bs p xs.length hb hp (by omega)
  generalize pickV bs p xs.length = k at *
  rw [← hl] at hP
  refine ACall.mk _ _ hP ?_
  refine Need.mk (by omega) ?_
  refine Row.mk _ hrow ?_
  exact Need.mk ⟨[], _, .same, rfl, rfl⟩ trivial
theorem l9_Open (bs : List Nat) (hx : bs.length ≤ 1048576) : AFn Try.prog 52 [sl (bs.map encB)] [] (.bx (rd (bs.take 2000) 0)) [] := by
  refine AFn.introX (E := En 0 md0) (en_ok 0 _) Try.func52 rfl rfl rfl fun _ _ => ?_
  have hl : (bs.map encB).length = bs.length := List.length_map ..
  have hs : ∀ r ∈ bs.map encB, r.length = 1 := fun r hr => by obtain ⟨b, _, rfl⟩ := List.mem_map.1 hr; rfl
  by_cases h2 : bs.length ≤ 2000
  · rw [List.take_of_length_le h2]
    refine Split.mk fun t ht => ?_
    rw [hl] at ht
    cases t
    · exact Need.mk ⟨rfl, rfl⟩ trivial
    · simp at ht; omega
  · refine Split.mk fun t ht => ?_
    rw [hl] at ht
    cases t
    · simp at ht; omega
    refine Need.mk ⟨by omega, by omega, by omega, hs⟩ ?_
    refine Need.mk ⟨?_, rfl⟩ trivial
    refine congrArg (fun r => [C.sl r, vi 0]) ?_
    rw [List.map_take]; rfl
end Go.Proofs.Ytlmdheeammfihaa

namespace Go.Proofs.Ytlmdheeammfihaa
open Go Go.Proofs Ev
set_option maxRecDepth 100000
set_option linter.unusedSimpArgs false
set_option linter.unusedVariables false
set_option maxHeartbeats 1000000
theorem l3_Key (bs : List Nat) (p : Nat) (hb : OkB bs) (hp : p ≤ 1000000) : AFnK Try.prog 55 [.bx 0 0] [rd bs p] [0] (.one (vs (keyD bs p))) [rd bs (p + 1)] := by
  refine AFnK.introX (E := En 1 (mdv [] [54])) (en_ok 1 _) Try.func55 rfl rfl rfl fun _ _ => ?_
  refine Fz.mk _ (frzS keysL) ?_
  refine ACall.mk _ _ (l9_of bs p keysL hb hp (by decide) (by decide)) ?_
  exact Need.mk ⟨[], _, .same, rfl, rfl⟩ trivial
theorem l3_Entry (bs : List Nat) (p : Nat) (seq : Int) (hb : OkB bs) (hp : p ≤ 999990) :
    AFnK Try.prog 126 [.bx 0 0, av (.int .i64 seq)] [rd bs p] [0] (.agg (entD bs p seq).1.enc) [rd bs (entD bs p seq).2] := by
  have hK := l3_Key bs p hb (by omega)
  have hN := l9_num bs (p + 1) kindL hb (by omega) (by decide) (by decide)
  have hN2 := l9_num bs (p + 2) numL hb (by omega) (by decide) (by decide)
  have hT := l9_of bs (p + 3) textL hb (by omega) (by decide) (by decide)
  have e1 : kindL.getD (pickV bs (p + 1) kindL.length) 0 = kindD bs (p + 1) := rfl
  have e2 : numL.getD (pickV bs (p + 2) numL.length) 0 = numD bs (p + 2) := rfl
  have e3 : textL.getD (pickV bs (p + 3) textL.length) ⟨#[]⟩ = textD bs (p + 3) := rfl
  rw [e1] at hN
  rw [e2] at hN2
  rw [e3] at hT
  have hor := kindD_or bs (p + 1)
  unfold entD
  rcases hor with h | h | h
  · rw [h] at hN
    rw [if_neg (by rw [h]; decide), if_pos h]
    refine AFnK.introX (E := En 1 (mdv [] [54, 80])) (en_ok 1 _) Try.func126 rfl rfl rfl fun _ _ => ?_
    refine ACall.mk _ _ hK ?_
    refine Fz.mk _ (frzI kindL) ?_
    refine ACall.mk _ _ hN ?_
    refine Split.mk fun t ht => ?_
    cases t
    · cases ht
    refine Fz.mk _ (frzI numL) ?_
    refine ACall.mk _ _ hN2 ?_
    refine Split.mk fun t ht2 => ?_
    cases t
    · cases ht2
    refine Fz.mk _ (frzS textL) ?_
    refine ACall.mk _ _ hT ?_
    exact Need.mk ⟨[], _, .same, rfl, rfl⟩ trivial
  · rw [h] at hN
    rw [if_pos h]
    refine AFnK.introX (E := En 1 (mdv [] [54, 80])) (en_ok 1 _) Try.func126 rfl rfl rfl fun _ _ => ?_
    refine ACall.mk _ _ hK ?_
    refine Fz.mk _ (frzI kindL) ?_
    refine ACall.mk _ _ hN ?_
    refine Split.mk fun t ht => ?_
    cases t
    case true => cases ht
    refine Split.mk fun t ht2 => ?_
    cases t
    case true => cases ht2
    exact Need.mk ⟨[], _, .same, rfl, rfl⟩ trivial
  · rw [h] at hN
    rw [if_neg (by rw [h]; decide), if_neg (by rw [h]; decide)]
    refine AFnK.introX (E := En 1 (mdv [] [54, 80])) (en_ok 1 _) Try.func126 rfl rfl rfl fun _ _ => ?_
    refine ACall.mk _ _ hK ?_
    refine Fz.mk _ (frzI kindL) ?_
    refine ACall.mk _ _ hN ?_
    refine Split.mk fun t ht => ?_
    cases t
    · cases ht
    refine Fz.mk _ (frzI numL) ?_
    refine ACall.mk _ _ hN2 ?_
    refine Split.mk fun t ht2 => ?_
    cases t
    case true => cases ht2
    exact Need.mk ⟨[], _, .same, rfl, rfl⟩ trivial
theorem l9_Many (n : Nat) (s : ByteArray) (hn : n ≤ 1000) (hs : s.size ≤ 1000) : AFn Try.prog 153 [av (.string s), av (.int .i64 n)] [] (.one (vs (manyB n s ⟨#[]⟩))) [] := by
  refine AFn.introX (E := En 0 md0) (en_ok 0 md0) Try.func153 rfl rfl rfl fun _ _ => ?_
  let S : ByteArray → Nat → ByteArray → St := fun s k o => ⟨some (av (.string s)) :: some (av (.int .i64 k)) :: none :: none :: some (av (.string ⟨#[]⟩)) :: some (av (.string o)) :: List.replicate 14 none, List.replicate 20 absent⟩
  refine ALoop.mk (fun m t => ∃ (k : Nat) (s' o : ByteArray), m = k ∧ k ≤ 1000 ∧ s'.size * k ≤ 1000000 ∧ o.size ≤ 1000000 ∧ o.size + s'.size * k ≤ 1000000 ∧ s'.size ≤ 4000000 ∧ manyB n s ⟨#[]⟩ = manyB k s' o ∧ t = S s' k o)
    ⟨n, _, Weak.nrm [true, true, false, false, true, true] [] rfl rfl rfl, n, s, ⟨#[]⟩, rfl, hn, Nat.le_trans (Nat.mul_le_mul hs hn) (by decide), Nat.zero_le _, by rw [show (⟨#[]⟩ : ByteArray).size = 0 from rfl, Nat.zero_add]; exact Nat.le_trans (Nat.mul_le_mul hs hn) (by decide), by omega, rfl, rfl⟩ ?_
  rintro m t ⟨k, s', o, rfl, hk, hsk, ho, hok, hs', he, ht⟩
  by_cases h0 : m = 0
  · subst h0
    have he2 : o = manyB n s ⟨#[]⟩ := by rw [he, manyB, dif_pos rfl]
    rw [he2] at ht
    subst ht
    refine Split.mk fun t h => ?_
    cases t
    · exact Need.mk ⟨[], _, .same, rfl, rfl⟩ trivial
    · cases h
  · have he2 : manyB m s' o = manyB (m / 2) (s' ++ s') (if m % 2 = 1 then o ++ s' else o) := by rw [manyB, dif_neg h0]
    have hpos : 0 < m := by omega
    have hsz : (s' ++ s').size = s'.size + s'.size := by simp
    have hle : s'.size ≤ 1000000 := Nat.le_trans (Nat.le_mul_of_pos_right _ hpos) hsk
    have hd : m = 2 * (m / 2) + m % 2 := by omega
    have hmul : (s'.size + s'.size) * (m / 2) + s'.size * (m % 2) = s'.size * m := by
      conv => rhs; rw [hd]
      rw [Nat.mul_add, Nat.add_mul, Nat.mul_left_comm]; omega
    by_cases h1 : m % 2 = 1
    · rw [if_pos h1] at he2
      rw [h1, Nat.mul_one] at hmul
      have hoz : (o ++ s').size = o.size + s'.size := by simp
      have hmod : ((m : Int).tmod 2) = 1 := by have := tmodN' m 2; rw [h1] at this; exact this
      subst ht
      refine Split.mk fun t h => ?_
      cases t
      · simp at h; omega
      refine Need.mk (by decide) ?_
      refine Split.mk fun t h2 => ?_
      cases t
      · rw [show (((m : Int).tmod 2) == 1) = true by rw [hmod]; rfl] at h2; cases h2
      refine Need.mk (strFits (by omega)) ?_
      refine Need.mk (strFits (by omega)) ?_
      refine Need.mk (by decide) ?_
      refine Num.mk ((m / 2 : Nat) : Int) (wrapI' (tdivN' m 2) (by omega)) ?_
      refine ⟨m / 2, _, by omega, Weak.nrm [true, true, false, false, true, true] [] rfl rfl rfl, m / 2, s' ++ s', o ++ s', rfl, by omega, by rw [hsz]; omega, by omega, by rw [hsz]; omega, by omega, by rw [he, he2], rfl⟩
    · have h1' : m % 2 = 0 := by omega
      rw [if_neg h1] at he2
      rw [h1', Nat.mul_zero, Nat.add_zero] at hmul
      have hmod : ((m : Int).tmod 2) = 0 := by have := tmodN' m 2; rw [h1'] at this; exact this
      subst ht
      refine Split.mk fun t h => ?_
      cases t
      · simp at h; omega
      refine Need.mk (by decide) ?_
      refine Split.mk fun t h2 => ?_
      cases t
      case true => rw [show (((m : Int).tmod 2) == 1) = false by rw [hmod]; rfl] at h2; cases h2
      refine Need.mk (strFits (by omega)) ?_
      refine Need.mk (by decide) ?_
      refine Num.mk ((m / 2 : Nat) : Int) (wrapI' (tdivN' m 2) (by omega)) ?_
      refine ⟨m / 2, _, by omega, Weak.nrm [true, true, false, false, true, true] [] rfl rfl rfl, m / 2, s' ++ s', o, rfl, by omega, by rw [hsz]; omega, by omega, by rw [hsz]; omega, by omega, by rw [he, he2], rfl⟩
end Go.Proofs.Ytlmdheeammfihaa

namespace Go.Proofs.Ytlmdheeammfihaa
open Go Go.Proofs Ev
set_option maxRecDepth 100000
set_option linter.unusedSimpArgs false
set_option linter.unusedVariables false
set_option maxHeartbeats 2000000
def bentK : List ByteArray := [⟨#[]⟩, ⟨#[65]⟩, ⟨#[97, 32, 98]⟩, ⟨#[97, 98, 99, 100, 101, 102, 103, 104, 105]⟩, ⟨#[97, 98, 99, 100, 101, 102, 103, 104]⟩, ⟨#[48, 47, 57]⟩]
def bentS : List Int := [0, -1, 100000, 100001]
def bentC : List Int := [0, 4, -1, 1, 2, 3]
def bentN : List Int := [1000000, 1000001, -1000001, 9223372036854775807]
def bentT : List ByteArray := [⟨#[113]⟩, manyB 60 ⟨#[116]⟩ ⟨#[]⟩, manyB 61 ⟨#[116]⟩ ⟨#[]⟩]
theorem l3_Bent (bs : List Nat) (p : Nat) (e : Ent) (hb : OkB bs) (hp : p ≤ 999990) (he : DE e) :
    ∃ e' q, AFnK Try.prog 117 [.bx 0 0, .agg (e.enc.map .c)] [rd bs p] [0] (.agg e'.enc) [rd bs q] ∧ q ≤ p + 2 ∧ DE e' := by
  obtain ⟨d1, d2, d3, d4, d5, d6⟩ := he
  have hP := l9_pick bs p 48 hb (by omega) (by omega)
  have hex : ∃ k, pickV bs p 48 = k := ⟨_, rfl⟩
  obtain ⟨k, hk⟩ := hex
  rw [hk] at hP
  by_cases h0 : k = 0
  · subst h0
    have hO := l9_of bs (p + 1) bentK hb (by omega) (by decide) (by decide)
    have hm : bentK.getD (pickV bs (p + 1) bentK.length) ⟨#[]⟩ ∈ bentK := getD_mem (pickV_lt (by decide))
    have hex : ∃ s, bentK.getD (pickV bs (p + 1) bentK.length) ⟨#[]⟩ = s := ⟨_, rfl⟩
    obtain ⟨s, hs⟩ := hex
    rw [hs] at hO hm
    refine ⟨{ e with key := s }, p + 2, ?_, by omega, ?_⟩
    · refine AFnK.introX (E := En 1 (mdv [] [54])) (en_ok 1 _) Try.func117 rfl rfl rfl fun _ _ => ?_
      refine ACall.mk _ _ hP ?_
      refine Split.mk fun t ht => ?_
      cases t
      · cases ht
      refine Fz.mk _ (frzS bentK) ?_
      refine ACall.mk _ _ hO ?_
      exact Need.mk ⟨[], _, .same, rfl, rfl⟩ trivial
    · have : s.size ≤ 9 ∧ s ≠ mm := by
        simp only [bentK, List.mem_cons, List.not_mem_nil, or_false] at hm
        rcases hm with h | h | h | h | h | h <;> subst h <;> exact ⟨by decide, by decide⟩
      exact ⟨this.1, d2, d3, d4, d5, this.2⟩
  by_cases h1 : k = 1
  · subst h1
    have hO := l9_num bs (p + 1) bentS hb (by omega) (by decide) (by decide)
    have hm : bentS.getD (pickV bs (p + 1) bentS.length) 0 ∈ bentS := getD_mem (pickV_lt (by decide))
    have hex : ∃ s, bentS.getD (pickV bs (p + 1) bentS.length) 0 = s := ⟨_, rfl⟩
    obtain ⟨s, hs⟩ := hex
    rw [hs] at hO hm
    refine ⟨{ e with seq := s }, p + 2, ?_, by omega, ?_⟩
    · refine AFnK.introX (E := En 1 (mdv [] [80])) (en_ok 1 _) Try.func117 rfl rfl rfl fun _ _ => ?_
      refine ACall.mk _ _ hP ?_
      refine Split.mk fun t ht => ?_
      cases t
      case true => cases ht
      refine Split.mk fun t ht => ?_
      cases t
      · cases ht
      refine Fz.mk _ (frzI bentS) ?_
      refine ACall.mk _ _ hO ?_
      exact Need.mk ⟨[], _, .same, rfl, rfl⟩ trivial
    · refine ⟨d1, d2, ?_, d4, d5, d6⟩
      simp only [bentS, List.mem_cons, List.not_mem_nil, or_false] at hm
      exact ⟨by show _ ≤ s; omega, by show s ≤ _; omega⟩
  by_cases h2 : k = 2
  · subst h2
    have hO := l9_num bs (p + 1) bentC hb (by omega) (by decide) (by decide)
    have hm : bentC.getD (pickV bs (p + 1) bentC.length) 0 ∈ bentC := getD_mem (pickV_lt (by decide))
    have hex : ∃ s, bentC.getD (pickV bs (p + 1) bentC.length) 0 = s := ⟨_, rfl⟩
    obtain ⟨s, hs⟩ := hex
    rw [hs] at hO hm
    refine ⟨{ e with kind := s }, p + 2, ?_, by omega, ?_⟩
    · refine AFnK.introX (E := En 1 (mdv [] [80])) (en_ok 1 _) Try.func117 rfl rfl rfl fun _ _ => ?_
      refine ACall.mk _ _ hP ?_
      refine Split.mk fun t ht => ?_
      cases t
      case true => cases ht
      refine Split.mk fun t ht => ?_
      cases t
      case true => cases ht
      refine Split.mk fun t ht => ?_
      cases t
      · cases ht
      refine Fz.mk _ (frzI bentC) ?_
      refine ACall.mk _ _ hO ?_
      exact Need.mk ⟨[], _, .same, rfl, rfl⟩ trivial
    · refine ⟨d1, d2, d3, ?_, d5, d6⟩
      simp only [bentC, List.mem_cons, List.not_mem_nil, or_false] at hm
      exact ⟨by show _ ≤ s; omega, by show s ≤ _; omega⟩
  by_cases h3 : k = 3
  · subst h3
    have hO := l9_num bs (p + 1) bentN hb (by omega) (by decide) (by decide)
    have hm : bentN.getD (pickV bs (p + 1) bentN.length) 0 ∈ bentN := getD_mem (pickV_lt (by decide))
    have hex : ∃ s, bentN.getD (pickV bs (p + 1) bentN.length) 0 = s := ⟨_, rfl⟩
    obtain ⟨s, hs⟩ := hex
    rw [hs] at hO hm
    refine ⟨{ e with n := s }, p + 2, ?_, by omega, ?_⟩
    · refine AFnK.introX (E := En 1 (mdv [] [80])) (en_ok 1 _) Try.func117 rfl rfl rfl fun _ _ => ?_
      refine ACall.mk _ _ hP ?_
      refine Split.mk fun t ht => ?_
      cases t
      case true => cases ht
      refine Split.mk fun t ht => ?_
      cases t
      case true => cases ht
      refine Split.mk fun t ht => ?_
      cases t
      case true => cases ht
      refine Split.mk fun t ht => ?_
      cases t
      · cases ht
      refine Fz.mk _ (frzI bentN) ?_
      refine ACall.mk _ _ hO ?_
      exact Need.mk ⟨[], _, .same, rfl, rfl⟩ trivial
    · refine ⟨d1, d2, d3, d4, ?_, d6⟩
      simp only [bentN, List.mem_cons, List.not_mem_nil, or_false] at hm
      exact ⟨by show _ ≤ s; omega, by show s ≤ _; omega⟩
  by_cases h4 : k = 4
  · subst h4
    have hO := l9_of bs (p + 1) bentT hb (by omega) (by decide) (by decide)
    have hm : bentT.getD (pickV bs (p + 1) bentT.length) ⟨#[]⟩ ∈ bentT := getD_mem (pickV_lt (by decide))
    have hex : ∃ s, bentT.getD (pickV bs (p + 1) bentT.length) ⟨#[]⟩ = s := ⟨_, rfl⟩
    obtain ⟨s, hs⟩ := hex
    rw [hs] at hO hm
    have hM1 := l9_Many 60 ⟨#[116]⟩ (by decide) (by decide)
    have hM2 := l9_Many 61 ⟨#[116]⟩ (by decide) (by decide)
    refine ⟨{ e with text := s }, p + 2, ?_, by omega, ?_⟩
    · refine AFnK.introX (E := En 1 (mdv [] [54])) (en_ok 1 _) Try.func117 rfl rfl rfl fun _ _ => ?_
      refine ACall.mk _ _ hP ?_
      refine Split.mk fun t ht => ?_
      cases t
      case true => cases ht
      refine Split.mk fun t ht => ?_
      cases t
      case true => cases ht
      refine Split.mk fun t ht => ?_
      cases t
      case true => cases ht
      refine Split.mk fun t ht => ?_
      cases t
      case true => cases ht
      refine Split.mk fun t ht => ?_
      cases t
      · cases ht
      refine ACall.mk _ _ hM1 ?_
      refine ACall.mk _ _ hM2 ?_
      refine Fz.mk _ (frzS bentT) ?_
      refine ACall.mk _ _ hO ?_
      exact Need.mk ⟨[], _, .same, rfl, rfl⟩ trivial
    · refine ⟨d1, ?_, d3, d4, d5, d6⟩
      simp only [bentT, List.mem_cons, List.not_mem_nil, or_false] at hm
      show s.size ≤ 61
      rcases hm with h | h | h
      · subst h; decide
      · rw [h, manyB_size]; decide
      · rw [h, manyB_size]; decide
  · refine ⟨e, p + 1, ?_, by omega, d1, d2, d3, d4, d5, d6⟩
    refine AFnK.introX (E := En 1 (mdv [] [54])) (en_ok 1 _) Try.func117 rfl rfl rfl fun _ _ => ?_
    refine ACall.mk _ _ hP ?_
    refine Split.mk fun t ht => ?_
    cases t
    case true => rw [beq_iff_eq] at ht; omega
    refine Split.mk fun t ht => ?_
    cases t
    case true => rw [beq_iff_eq] at ht; omega
    refine Split.mk fun t ht => ?_
    cases t
    case true => rw [beq_iff_eq] at ht; omega
    refine Split.mk fun t ht => ?_
    cases t
    case true => rw [beq_iff_eq] at ht; omega
    refine Split.mk fun t ht => ?_
    cases t
    case true => rw [beq_iff_eq] at ht; omega
    exact Need.mk ⟨[], _, .same, rfl, rfl⟩ trivial
end Go.Proofs.Ytlmdheeammfihaa

namespace Go.Proofs.Ytlmdheeammfihaa
open Go Go.Proofs Ev
set_option maxRecDepth 100000
set_option linter.unusedSimpArgs false
set_option linter.unusedVariables false
set_option maxHeartbeats 4000000
theorem l3_List (bs : List Nat) (p many : Nat) (hb : OkB bs) (hm : many ≤ 100) (hp : p ≤ 990000) :
    AFnK Try.prog 71 [.bx 0 0, av (.int .i64 many)] [rd bs p] [0] (.one (.us 32 ((listD bs (pickV bs p (many + 1)) (p + 1) 0 []).1.map Ent.enc))) [rd bs (listD bs (pickV bs p (many + 1)) (p + 1) 0 []).2] := by
  refine AFnK.introX (E := En 1 md0) (en_ok 1 _) Try.func71 rfl rfl rfl fun _ _ => ?_
  have hn0 := pickV_lt (bs := bs) (p := p) (n := many + 1) (by omega)
  have hP := l9_pick bs p (many + 1) hb (by omega) (by omega)
  have hex : ∃ n, pickV bs p (many + 1) = n := ⟨_, rfl⟩
  obtain ⟨n, hn⟩ := hex
  rw [hn] at hP hn0
  rw [hn]
  have hex : ∃ F, listD bs n (p + 1) 0 [] = F := ⟨_, rfl⟩
  obtain ⟨F, hF⟩ := hex
  rw [hF]
  let S' : Nat → List (List C) → Int → Nat → Nat → St := fun kd R seq i p => ⟨some (.bx 0 0) :: none :: none :: none :: none :: some (.one (.ref 6 0 (.cell 0))) :: some (av (.int .i64 seq)) :: some (av (.int .i64 i)) :: List.replicate 30 none, ⟨0, 0, some (rd bs p)⟩ :: absent :: absent :: absent :: absent :: absent :: ⟨0, kd, some [.us 32 R]⟩ :: List.replicate 32 absent⟩
  let S : Nat → List Ent → Int → Nat → Nat → St := fun kd out seq i p => S' kd (out.map Ent.enc) seq i p
  refine Num.mk ((many + 1 : Nat) : Int) (wrapI' (by omega) (by omega)) ?_
  refine ACall.mk _ _ hP ?_
  refine ALoop.mk (fun m s => ∃ (i q kd : Nat) (seq : Int) (out : List Ent), m = i ∧ i ≤ 100 ∧ (kd = 2 ∨ kd = 1) ∧ q + 6 * i ≤ 995000 ∧ (0 ≤ seq ∧ seq + 2 * i ≤ 1000) ∧ out.length + i ≤ 100 ∧ 0 ≤ seq ∧ listD bs i q seq out = F ∧ s = S kd out seq i q)
    ⟨n, _, Weak.nrm [true, false, false, false, false, true, true, true] [(0, 0), (10, 6)] rfl rfl rfl, n, p + 1, 2, 0, [], rfl, by omega, .inl rfl, by omega, by omega, by simp; omega, by omega, hF, rfl⟩ ?_
  rintro m s ⟨i, q, kd, seq, out, rfl, hi, hkd, hq, hsq, hol, hs0, hL, hs⟩
  by_cases hi0 : m = 0
  · subst hi0
    have e1 : out = F.1 := by rw [← hL]; rfl
    have e2 : q = F.2 := by rw [← hL]; rfl
    rw [e1, e2] at hs
    subst hs
    refine Split.mk fun t ht => ?_
    cases t
    · exact Need.mk ⟨[], _, .same, rfl, rfl⟩ trivial
    · cases ht
  · have hex : ∃ i, m = i + 1 := ⟨m - 1, by omega⟩
    obtain ⟨i, hmi⟩ := hex
    subst hmi
    have hL2 := hL
    unfold listD at hL2
    have hb2 := pickV_lt (bs := bs) (p := q) (n := 2) (by decide)
    have hP := l9_pick bs q 2 hb (by omega) (by omega)
    have hE := l3_Entry bs (q + 1) (seq + 1 + (pickV bs q 2 : Nat)) hb (by omega)
    obtain ⟨_, _, g3, g4⟩ := entD_ok bs (q + 1) (seq + 1 + (pickV bs q 2 : Nat))
    have hex : ∃ b, pickV bs q 2 = b := ⟨_, rfl⟩
    obtain ⟨b, hb3⟩ := hex
    rw [hb3] at hP hE g3 g4 hL2 hb2
    have hex : ∃ ep, entD bs (q + 1) (seq + 1 + (b : Nat)) = ep := ⟨_, rfl⟩
    obtain ⟨⟨e, q⟩, hep⟩ := hex
    rw [hep] at hE g3 g4 hL2
    simp only at hE g3 g4 hL2
    have hP2 := l9_pick bs q 2 hb (by omega) (by omega)
    have hex : ∃ c, pickV bs q 2 = c := ⟨_, rfl⟩
    obtain ⟨c, hc⟩ := hex
    rw [hc] at hP2 hL2
    have hkd' : kd = 2 ∨ kd = 1 := hkd
    by_cases h0 : c = 0
    · rw [if_pos h0] at hL2
      by_cases hk2 : kd = 2
      · subst hk2
        subst hs
        refine Split.mk fun t ht => ?_
        cases t
        · simp at ht <;> omega
        refine Num.mk (seq + 1) (wrapI (by omega) (by omega)) ?_
        refine ACall.mk _ _ hP ?_
        refine Num.mk (seq + 1 + (b : Nat)) (wrapI (by omega) (by omega)) ?_
        refine ACall.mk _ _ hE ?_
        refine ACall.mk _ _ hP2 ?_
        refine Split.mk fun t ht2 => ?_
        cases t
        · rw [h0] at ht2; cases ht2
        refine Need.mk (sizeOk _ _ out [e] rfl rfl (by simp; omega)) ?_
        refine Num.mk ((i : Nat) : Int) (wrapI' (by omega) (by omega)) ?_
        refine ⟨i, _, by omega, Weak.nrm [true, false, false, false, false, true, true, true] [(0, 0), (33, 6)] rfl rfl rfl, i, q + 1, 1, seq + 1 + (b : Nat), out ++ [e], rfl, by omega, .inr rfl, by omega, by omega, by simp; omega, by omega, hL2, ?_⟩
        refine Eq.trans (b := S' 1 (out.map Ent.enc ++ [e.enc]) (seq + 1 + (b : Nat)) i (q + 1)) rfl ?_
        rw [show out.map Ent.enc ++ [e.enc] = (out ++ [e]).map Ent.enc by rw [List.map_append]; rfl]
      · have hk1 : kd = 1 := by omega
        subst hk1
        subst hs
        refine Split.mk fun t ht => ?_
        cases t
        · simp at ht <;> omega
        refine Num.mk (seq + 1) (wrapI (by omega) (by omega)) ?_
        refine ACall.mk _ _ hP ?_
        refine Num.mk (seq + 1 + (b : Nat)) (wrapI (by omega) (by omega)) ?_
        refine ACall.mk _ _ hE ?_
        refine ACall.mk _ _ hP2 ?_
        refine Split.mk fun t ht2 => ?_
        cases t
        · rw [h0] at ht2; cases ht2
        refine Need.mk (sizeOk _ _ out [e] rfl rfl (by simp; omega)) ?_
        refine Num.mk ((i : Nat) : Int) (wrapI' (by omega) (by omega)) ?_
        refine ⟨i, _, by omega, Weak.nrm [true, false, false, false, false, true, true, true] [(0, 0), (33, 6)] rfl rfl rfl, i, q + 1, 1, seq + 1 + (b : Nat), out ++ [e], rfl, by omega, .inr rfl, by omega, by omega, by simp; omega, by omega, hL2, ?_⟩
        refine Eq.trans (b := S' 1 (out.map Ent.enc ++ [e.enc]) (seq + 1 + (b : Nat)) i (q + 1)) rfl ?_
        rw [show out.map Ent.enc ++ [e.enc] = (out ++ [e]).map Ent.enc by rw [List.map_append]; rfl]
    · rw [if_neg h0] at hL2
      by_cases hk2 : kd = 2
      · subst hk2
        subst hs
        refine Split.mk fun t ht => ?_
        cases t
        · simp at ht <;> omega
        refine Num.mk (seq + 1) (wrapI (by omega) (by omega)) ?_
        refine ACall.mk _ _ hP ?_
        refine Num.mk (seq + 1 + (b : Nat)) (wrapI (by omega) (by omega)) ?_
        refine ACall.mk _ _ hE ?_
        refine ACall.mk _ _ hP2 ?_
        refine Split.mk fun t ht2 => ?_
        cases t
        case true => rw [beq_iff_eq] at ht2; omega
        refine Need.mk (sizeOk _ _ [e] out rfl rfl (by simp; omega)) ?_
        refine Num.mk ((i : Nat) : Int) (wrapI' (by omega) (by omega)) ?_
        refine ⟨i, _, by omega, Weak.nrm [true, false, false, false, false, true, true, true] [(0, 0), (37, 6)] rfl rfl rfl, i, q + 1, 1, seq + 1 + (b : Nat), e :: out, rfl, by omega, .inr rfl, by omega, by omega, by simp; omega, by omega, hL2, ?_⟩
        rfl
      · have hk1 : kd = 1 := by omega
        subst hk1
        subst hs
        refine Split.mk fun t ht => ?_
        cases t
        · simp at ht <;> omega
        refine Num.mk (seq + 1) (wrapI (by omega) (by omega)) ?_
        refine ACall.mk _ _ hP ?_
        refine Num.mk (seq + 1 + (b : Nat)) (wrapI (by omega) (by omega)) ?_
        refine ACall.mk _ _ hE ?_
        refine ACall.mk _ _ hP2 ?_
        refine Split.mk fun t ht2 => ?_
        cases t
        case true => rw [beq_iff_eq] at ht2; omega
        refine Need.mk (plainE out) ?_
        refine Need.mk (sizeOk _ _ [e] out rfl rfl (by simp; omega)) ?_
        refine Num.mk ((i : Nat) : Int) (wrapI' (by omega) (by omega)) ?_
        refine ⟨i, _, by omega, Weak.nrm [true, false, false, false, false, true, true, true] [(0, 0), (37, 6)] rfl rfl rfl, i, q + 1, 1, seq + 1 + (b : Nat), e :: out, rfl, by omega, .inr rfl, by omega, by omega, by simp; omega, by omega, hL2, ?_⟩
        rfl
theorem l4_Ents (bs : List Nat) (p many : Nat) (hb : OkB bs) (hm : many ≤ 100) (hp : p ≤ 990000) :
    AFnK Try.prog 79 [.bx 0 0, av (.int .i64 many)] [rd bs p] [0] (.one (.us 32 ((isort eLess (listD bs (pickV bs p (many + 1)) (p + 1) 0 []).1).map Ent.enc))) [rd bs (listD bs (pickV bs p (many + 1)) (p + 1) 0 []).2] := by
  refine AFnK.introX (E := En 1 md0) (en_ok 1 _) Try.func79 rfl rfl rfl fun _ _ => ?_
  have hL := l3_List bs p many hb hm hp
  obtain ⟨_, g2, _⟩ := listD_ok bs (pickV bs p (many + 1)) (p + 1) 0 []
  have hn0 := pickV_lt (bs := bs) (p := p) (n := many + 1) (by omega)
  have hex : ∃ F, listD bs (pickV bs p (many + 1)) (p + 1) 0 [] = F := ⟨_, rfl⟩
  obtain ⟨F, hF⟩ := hex
  rw [hF] at hL g2
  rw [hF]
  refine ACall.mk _ _ hL ?_
  refine Fz.mk _ (frzE F.1) ?_
  refine ACall.mk _ _ (spec_l4Sort F.1 (by rw [g2]; simp; omega)) ?_
  refine Need.mk ⟨closed_us _ (isort eLess F.1), no_objs⟩ ?_
  exact Need.mk ⟨[], _, .same, rfl, rfl⟩ trivial
theorem spec_l4RunO (xs : List Ent) (hx : OkE xs) (hl : xs.length ≤ 1099511627776) :
    AFn Try.prog 116 [.one (.ref 0 0 (.cell 0))] [[.us 32 (xs.map Ent.enc)]] (.agg [.us 32 (xs.map Ent.enc), vi (rmask xs : Nat)]) [[.x]] := by
  refine AFn.introX (E := En 1 md0) (en_ok 1 _) Try.func116 rfl rfl rfl fun _ _ => ?_
  refine Fz.mk _ (frzE xs) ?_
  refine ACall.mk _ _ (spec_l4Mask xs hx hl) ?_
  refine Need.mk ⟨closed_v, no_objs⟩ ?_
  exact Need.mk ⟨[], _, .same, rfl, rfl⟩ trivial
end Go.Proofs.Ytlmdheeammfihaa

namespace Go.Proofs.Ytlmdheeammfihaa
open Go Go.Proofs Ev
set_option maxRecDepth 100000
set_option linter.unusedSimpArgs false
set_option linter.unusedVariables false
set_option maxHeartbeats 4000000
def snapL (bs : List Nat) : Nat → Nat → List Int → List Int × Nat
  | 0, q, out => (out, q)
  | i + 1, q, out => snapL bs i (q + 1) (out ++ [((pickV bs q 20 : Nat) : Int)])
theorem snapL_ok (bs : List Nat) : ∀ (i q : Nat) (out : List Int), (∀ s ∈ out, 0 ≤ s ∧ s < 20) → (snapL bs i q out).2 = q + i ∧ (snapL bs i q out).1.length = out.length + i ∧ ∀ s ∈ (snapL bs i q out).1, 0 ≤ s ∧ s < 20 := by
  intro i
  induction i with
  | zero => intro q out h; exact ⟨rfl, rfl, h⟩
  | succ i ih =>
    intro q out h
    have hp := pickV_lt (bs := bs) (p := q) (n := 20) (by decide)
    obtain ⟨h1, h2, h3⟩ := ih (q + 1) (out ++ [((pickV bs q 20 : Nat) : Int)]) (fun s hs => by
      rcases List.mem_append.1 hs with hs | hs
      · exact h s hs
      · obtain rfl := List.mem_singleton.1 hs; omega)
    unfold snapL
    exact ⟨by omega, by rw [h2]; simp; omega, h3⟩
theorem l4_Snaps (bs : List Nat) (p : Nat) (hb : OkB bs) (hp : p ≤ 990000) :
    AFnK Try.prog 81 [.bx 0 0] [rd bs p] [0] (.one (.us 3 ((snapL bs (pickV bs p 4) (p + 1) []).1.map encI))) [rd bs (snapL bs (pickV bs p 4) (p + 1) []).2] := by
  have hn0 := pickV_lt (bs := bs) (p := p) (n := 4) (by omega)
  have hP := l9_pick bs p 4 hb (by omega) (by omega)
  have hex : ∃ n, pickV bs p 4 = n := ⟨_, rfl⟩
  obtain ⟨n, hn⟩ := hex
  rw [hn] at hP hn0
  rw [hn]
  have hex : ∃ F, snapL bs n (p + 1) [] = F := ⟨_, rfl⟩
  obtain ⟨F, hF⟩ := hex
  rw [hF]
  refine AFnK.introX (E := En 1 md0) (en_ok 1 _ _ _ _ _) Try.func81 rfl rfl rfl fun _ _ => ?_
  refine ACall.mk _ _ hP ?_
  let S : Nat → Nat → List (List C) → St := fun i q R => ⟨some (.bx 0 0) :: none :: none :: some (.one (.ref 4 0 (.cell 0))) :: some (av (.int .i64 ↑i)) :: List.replicate 13 none, ⟨0, 0, some [.sl (List.map encB bs), vi (↑q)]⟩ :: absent :: absent :: absent :: ⟨0, 1, some [.us 3 R]⟩ :: List.replicate 14 absent⟩
  refine ALoop.mk (fun m s => ∃ (i q : Nat) (out : List Int) (R : List (List C)), i = m ∧ i ≤ 4 ∧ q + i ≤ p + 6 ∧ out.length + i ≤ 4 ∧ snapL bs i q out = F ∧ R = out.map encI ∧ s = S i q R)
    ⟨_, _, Weak.trans (Weak.nrm [true, false, false, true, true] [(0, 0), (6, 4)] rfl rfl rfl) Weak.one, n, p + 1, [], [], rfl, by omega, by omega, by simp; omega, hF, rfl, rfl⟩ ?_
  rintro m s ⟨i, q, out, R, rfl, hi, hq, hol, hL, hR, hs⟩
  cases i with
  | zero =>
    have e1 : out = F.1 := by rw [← hL]; rfl
    have e2 : q = F.2 := by rw [← hL]; rfl
    rw [e1] at hR
    subst hR
    rw [e2] at hs
    subst hs
    refine Split.mk fun t h1 => ?_
    cases t
    case true => cases h1
    exact Need.mk ⟨[], _, .same, rfl, rfl⟩ trivial
  | succ j =>
    have hP := l9_pick bs q 20 hb (by omega) (by omega)
    have hsub : IntKind.i64.wrap (((j + 1 : Nat) : Int) - 1) = (j : Nat) := wrapI' (by omega) (by omega)
    have hon : (out.map encI).length = out.length := List.length_map ..
    unfold snapL at hL
    have hex : ∃ b, pickV bs q 20 = b := ⟨_, rfl⟩
    obtain ⟨b, hb2⟩ := hex
    rw [hb2] at hP hL
    have hRR : out.map encI ++ [encI b] = (out ++ [(b : Int)]).map encI := by rw [List.map_append]; rfl
    subst hR
    subst hs
    refine Split.mk fun t h1 => ?_
    cases t
    case false => (exfalso; rw [decide_eq_false_iff_not] at h1; omega)
    rw [decide_eq_true_iff] at h1
    refine ACall.mk _ _ hP ?_
    refine Need.mk (appEq (A' := _) (B' := [[vi ↑b]]) rfl rfl (by simp only [List.length_append, List.length_map, List.length_take, List.length_drop, List.length_cons, List.length_nil, List.length_reverse, List.length_replicate, List.length_set]; omega) (by decide)) ?_
    refine Num.mk _ hsub ?_
    exact ⟨_, _, by omega, Weak.nrm [true, false, false, true, true] [(0, 0), (17, 4)] rfl rfl rfl, j, q + 1, out ++ [(b : Int)], _, rfl, by omega, by omega, by simp; omega, hL, hRR, rfl⟩
end Go.Proofs.Ytlmdheeammfihaa

namespace Go.Proofs.Ytlmdheeammfihaa
open Go Go.Proofs Ev
set_option maxRecDepth 100000
set_option linter.unusedSimpArgs false
set_option linter.unusedVariables false
def encXO (l : List Ent) : List C := [.us 32 (l.map Ent.enc)]
theorem frzX (xs : List (List Ent)) : Frz (.us 23 (xs.map encXO)) (.sl (xs.map encX)) := frz_map fun r _ => .cons (frzE r) .nil
theorem clX (xs : List (List Ent)) : ∀ r ∈ xs.map encXO, ClL r := cl_map (f := encXO) (fun l => .us (clE l) .nil) xs
end Go.Proofs.Ytlmdheeammfihaa

namespace Go.Proofs.Ytlmdheeammfihaa
open Go Go.Proofs Ev
set_option maxRecDepth 100000
set_option linter.unusedSimpArgs false
set_option linter.unusedVariables false
set_option maxHeartbeats 4000000
theorem Draw_CellAll (bs : List Nat) (hb : ∀ b ∈ bs, b < 256) (hl : bs.length ≤ 1048576) :
    ∃ (xs : List Ent) (key : ByteArray) (seq : Nat), AFn Try.prog 25 [sl (bs.map encB)] [] (.tup [.one (.us 32 (xs.map Ent.enc)), .one (vs key), .one (vi (seq : Nat))]) [] ∧ xs.length ≤ 12 ∧ (∀ e ∈ xs, DS e ∧ 1 ≤ e.seq ∧ e.seq ≤ 24) ∧ Dist xs ∧ key ∈ keysL ∧ seq ≤ 19 := by
  have hO := okB_take hb
  have hE := l3_List (bs.take 2000) 0 12 hO (by omega) (by omega)
  obtain ⟨g1, g2, g3⟩ := listD_ok (bs.take 2000) (pickV (bs.take 2000) 0 13) 1 0 []
  have g4 := listD_dist (bs.take 2000) (pickV (bs.take 2000) 0 13) 1 0 [] .nil (fun e he => nomatch he)
  have hn0 := pickV_lt (bs := bs.take 2000) (p := 0) (n := 13) (by omega)
  generalize hF : listD (bs.take 2000) (pickV (bs.take 2000) 0 (12 + 1)) (0 + 1) 0 [] = F at *
  obtain ⟨xs, q⟩ := F
  simp only [List.length_nil] at g1 g2 g3 g4 hE
  have hK := l3_Key (bs.take 2000) q hO (by omega)
  have hm := keyD_mem (bs.take 2000) q
  have hP := l9_pick (bs.take 2000) (q + 1) 20 hO (by omega) (by omega)
  have hv := pickV_lt (bs := bs.take 2000) (p := q + 1) (n := 20) (by decide)
  have hOp := l9_Open bs hl
  generalize pickV (bs.take 2000) (q + 1) 20 = c at *
  generalize keyD (bs.take 2000) q = key at *
  refine ⟨xs, key, c, ?_, by omega, fun e he => ?_, g4, hm, by omega⟩
  case refine_2 =>
    rcases g3 e he with h | ⟨h, h1, h2⟩
    · cases h
    · exact ⟨h, by omega, by omega⟩
  refine AFn.introX (E := En 0 md0) (en_ok 0 _) Try.func25 rfl rfl rfl fun _ _ => ?_
  refine ACall.mk _ _ hOp ?_
  refine ACall.mk _ _ hE ?_
  refine ACall.mk _ _ hK ?_
  refine ACall.mk _ _ hP ?_
  exact Need.mk ⟨[], _, .same, rfl, rfl⟩ trivial
theorem Draw_MergeAll (bs : List Nat) (hb : ∀ b ∈ bs, b < 256) (hl : bs.length ≤ 1048576) :
    ∃ (L : List (List Ent)), AFn Try.prog 24 [sl (bs.map encB)] [] (.one (.us 23 (L.map encXO))) [] ∧ L.length ≤ 3 ∧ (∀ l ∈ L, l.length ≤ 16) ∧ Dist L.flatten ∧ (∀ e ∈ L.flatten, DS e ∧ 1 ≤ e.seq ∧ e.seq ≤ 32) := by
  have hO := okB_take hb
  have hE := l3_List (bs.take 2000) 0 16 hO (by omega) (by omega)
  obtain ⟨g1, g2, g3⟩ := listD_ok (bs.take 2000) (pickV (bs.take 2000) 0 17) 1 0 []
  have g4 := listD_dist (bs.take 2000) (pickV (bs.take 2000) 0 17) 1 0 [] .nil (fun e he => nomatch he)
  have hn0 := pickV_lt (bs := bs.take 2000) (p := 0) (n := 17) (by omega)
  generalize hF : listD (bs.take 2000) (pickV (bs.take 2000) 0 (16 + 1)) (0 + 1) 0 [] = F at *
  obtain ⟨xs, q⟩ := F
  simp only [List.length_nil] at g1 g2 g3 g4 hE
  have hP := l9_pick (bs.take 2000) q 4 hO (by omega) (by omega)
  have hv := pickV_lt (bs := bs.take 2000) (p := q) (n := 4) (by decide)
  have hOp := l9_Open bs hl
  generalize pickV (bs.take 2000) q 4 = n at *
  refine ⟨dealt xs n, ?_, by unfold dealt; rw [List.length_map, List.length_range]; omega, fun l hm => ?_, dealt_dist n g4, fun e he => ?_⟩
  case refine_2 =>
    obtain ⟨i, _, rfl⟩ := List.mem_map.1 hm
    have := partK_len xs xs.length n i
    omega
  case refine_3 =>
    rcases g3 e (dealt_mem he) with h | ⟨h, h1, h2⟩
    · cases h
    · exact ⟨h, by omega, by omega⟩
  refine AFn.introX (E := En 0 md0) (en_ok 0 _) Try.func24 rfl rfl rfl fun _ _ => ?_
  refine ACall.mk _ _ hOp ?_
  refine ACall.mk _ _ hE ?_
  refine ACall.mk _ _ hP ?_
  have hxn : (xs.map Ent.enc).length = xs.length := List.length_map ..
  let S0 : List (List C) → Nat → St := fun R i => ⟨none :: none :: none :: none :: some (.one (.ref 4 0 (.cell 0))) :: some (.one (.ref 5 0 (.cell 0))) :: some (av (.int .i64 n)) :: some (av (.int .i64 i)) :: List.replicate 38 none, absent :: absent :: absent :: absent :: ⟨0, 1, some [.us 23 R]⟩ :: ⟨0, 1, some [.us 32 (xs.map Ent.enc)]⟩ :: List.replicate 40 absent⟩
  refine ALoop.mk (fun m s => ∃ i : Nat, i ≤ n ∧ m = n - i ∧ s = S0 (((List.range i).map (partK xs xs.length n)).map encXO) i)
    ⟨_, _, Weak.trans (Weak.nrm [false, false, false, false, true, true, true, true] [(12, 4), (14, 5)] rfl rfl rfl) Weak.one, 0, Nat.zero_le _, rfl, rfl⟩ ?_
  rintro m s ⟨i, hi, rfl, hs⟩
  have hQl : ((List.range i).map (partK xs xs.length n)).length = i := by rw [List.length_map, List.length_range]
  by_cases hin : i = n
  · have hQ : (List.range i).map (partK xs xs.length n) = dealt xs n := by rw [hin]; rfl
    rw [hQ] at hs
    subst hs
    refine Split.mk fun t h1 => ?_
    cases t
    case true => (exfalso; rw [decide_eq_true_iff] at h1; omega)
    rw [decide_eq_false_iff_not] at h1
    exact Need.mk ⟨[], _, .same, rfl, rfl⟩ trivial
  · have hia : i < n := by omega
    have hsn : (List.range (i + 1)).map (partK xs xs.length n) = (List.range i).map (partK xs xs.length n) ++ [partK xs xs.length n i] := by rw [List.range_succ, List.map_append]; rfl
    have hex : ∃ Q, (List.range i).map (partK xs xs.length n) = Q := ⟨_, rfl⟩
    obtain ⟨Q, hQ⟩ := hex
    rw [hQ] at hsn hs hQl
    subst hs
    refine Split.mk fun t h1 => ?_
    cases t
    case false => (exfalso; rw [decide_eq_false_iff_not] at h1; omega)
    rw [decide_eq_true_iff] at h1
    let S1 : List (List C) → Nat → St := fun R j => ⟨none :: none :: none :: none :: some (.one (.ref 4 0 (.cell 0))) :: some (.one (.ref 5 0 (.cell 0))) :: some (av (.int .i64 n)) :: some (av (.int .i64 i)) :: some (.one (.ref 8 0 (.cell 0))) :: some (av (.int .i64 j)) :: List.replicate 36 none, absent :: absent :: absent :: absent :: ⟨0, 1, some [.us 23 (Q.map encXO)]⟩ :: ⟨0, 1, some [.us 32 (xs.map Ent.enc)]⟩ :: absent :: absent :: ⟨0, 1, some [.us 32 R]⟩ :: List.replicate 37 absent⟩
    refine ALoop.mk (fun m s => ∃ j : Nat, j ≤ xs.length ∧ m = xs.length - j ∧ s = S1 ((partK xs j n i).map Ent.enc) j)
      ⟨_, _, Weak.trans (Weak.nrm [false, false, false, false, true, true, true, true, true, true] [(4, 4), (5, 5), (22, 8)] rfl rfl rfl) Weak.one, 0, Nat.zero_le _, rfl, rfl⟩ ?_
    rintro m s ⟨j, hj, rfl, hs⟩
    by_cases hjn : j = xs.length
    · rw [hjn] at hs
      subst hs
      refine Split.mk fun t h1 => ?_
      cases t
      case true => (exfalso; rw [decide_eq_true_iff] at h1; omega)
      rw [decide_eq_false_iff_not] at h1
      refine Need.mk (appOk (m := 1) (List.length_map ..) rfl (by omega) (by decide)) ?_
      refine Num.mk _ (wrapS (by omega)) ?_
      exact ⟨_, _, by omega, Weak.nrm [false, false, false, false, true, true, true, true] [(44, 4), (5, 5)] rfl rfl rfl, i + 1, by omega, rfl, Eq.trans (b := S0 (Q.map encXO ++ [encXO (partK xs xs.length n i)]) (i + 1)) rfl (by rw [hsn, List.map_append]; rfl)⟩
    · have hja : j < xs.length := by omega
      have hps := partK_succ xs n i hja
      have hpl := partK_len xs j n i
      have hex : ∃ p, partK xs j n i = p := ⟨_, rfl⟩
      obtain ⟨p, hpp⟩ := hex
      rw [hpp] at hps hpl hs
      by_cases hmod : j % n = i
      · rw [if_pos hmod] at hps
        have hmd : (j : Int).tmod (n : Int) = (i : Int) := by rw [tmodN, hmod]
        subst hs
        refine Split.mk fun t h1 => ?_
        cases t
        case false => (exfalso; rw [decide_eq_false_iff_not] at h1; omega)
        rw [decide_eq_true_iff] at h1
        refine Need.mk (by omega) ?_
        refine Split.mk fun t h2 => ?_
        cases t
        case false => (exfalso; rw [beq_eq_false_iff_ne] at h2; omega)
        rw [beq_iff_eq] at h2
        refine Need.mk (by omega) ?_
        refine Row.mk _ (map_get _ xs j (by omega)) ?_
        refine Need.mk (appOk (m := 1) (List.length_map ..) rfl (by omega) (by decide)) ?_
        refine Num.mk _ (wrapS (by omega)) ?_
        exact ⟨_, _, by omega, Weak.nrm [false, false, false, false, true, true, true, true, true, true] [(4, 4), (5, 5), (40, 8)] rfl rfl rfl, j + 1, by omega, rfl, Eq.trans (b := S1 (p.map Ent.enc ++ [xs[j].enc]) (j + 1)) rfl (by rw [hps, List.map_append]; rfl)⟩
      · rw [if_neg hmod, List.append_nil] at hps
        have hmd : ¬ (j : Int).tmod (n : Int) = (i : Int) := by rw [tmodN]; omega
        subst hs
        refine Split.mk fun t h1 => ?_
        cases t
        case false => (exfalso; rw [decide_eq_false_iff_not] at h1; omega)
        rw [decide_eq_true_iff] at h1
        refine Need.mk (by omega) ?_
        refine Split.mk fun t h2 => ?_
        cases t
        case true => (exfalso; rw [beq_iff_eq] at h2; omega)
        rw [beq_eq_false_iff_ne] at h2
        refine Num.mk _ (wrapS (by omega)) ?_
        exact ⟨_, _, by omega, Weak.nrm [false, false, false, false, true, true, true, true, true, true] [(4, 4), (5, 5), (8, 8)] rfl rfl rfl, j + 1, by omega, rfl, Eq.trans (b := S1 (p.map Ent.enc) (j + 1)) rfl (by rw [hps])⟩
end Go.Proofs.Ytlmdheeammfihaa

namespace Go.Proofs.Ytlmdheeammfihaa
open Go Go.Proofs Ev
set_option maxRecDepth 100000
set_option linter.unusedSimpArgs false
set_option linter.unusedVariables false
set_option maxHeartbeats 4000000
/-- What is known of an entry that is drawn to be squashed. -/
def SqE (e : Ent) : Prop := entOk e = true ∧ e.Ok ∧ 1 ≤ e.seq ∧ e.seq ≤ 28 ∧ e.key ∈ keysL
theorem SqE_n {e : Ent} {n : Int} (h : SqE e) (hk : e.kind ≠ 2) (hn : -1000000 ≤ n ∧ n ≤ 1000000) : SqE { e with n := n } := by
  obtain ⟨h1, h2, h3, h4, h5⟩ := h
  refine ⟨?_, h2, h3, h4, h5⟩
  have hs : sumOk n = true := by unfold sumOk; simp; omega
  simp only [entOk, Bool.and_eq_true, Bool.or_eq_true, decide_eq_true_eq] at h1 ⊢
  obtain ⟨q1, q2, q3, q4, q5, q6⟩ := h1
  refine ⟨q1, q2, q3, q4, hs, ?_⟩
  rcases q6 with (q6 | ⟨q6, _⟩) | q6
  · exact .inl (.inl q6)
  · exact absurd q6 hk
  · exact .inr q6
theorem Draw_Squash (bs : List Nat) (hb : ∀ b ∈ bs, b < 256) (hl : bs.length ≤ 1048576) :
    ∃ (xs : List Ent) (snaps : List Int) (b : Bool), AFn Try.prog 29 [sl (bs.map encB)] [] (.tup [.one (.us 32 (xs.map Ent.enc)), .one (.us 3 (snaps.map encI)), .one (.v (.bool b))]) [] ∧ xs.length ≤ 15 ∧ (∀ e ∈ xs, SqE e) ∧ snaps.length ≤ 3 ∧ ∀ s ∈ snaps, 0 ≤ s ∧ s < 20 := by
  have hO := okB_take hb
  have hE := l4_Ents (bs.take 2000) 0 14 hO (by omega) (by omega)
  obtain ⟨g1, g2, g3⟩ := listD_ok (bs.take 2000) (pickV (bs.take 2000) 0 15) 1 0 []
  have hn0 := pickV_lt (bs := bs.take 2000) (p := 0) (n := 15) (by omega)
  have hOp := l9_Open bs hl
  generalize hF : listD (bs.take 2000) (pickV (bs.take 2000) 0 (14 + 1)) (0 + 1) 0 [] = F at *
  obtain ⟨xs0, q⟩ := F
  simp only [List.length_nil] at g1 g2 g3 hE
  have hex : ∃ xs, isort eLess xs0 = xs := ⟨_, rfl⟩
  obtain ⟨xs, hxs⟩ := hex
  have hxl : xs.length ≤ 14 := by rw [← hxs, isort_len]; omega
  have hP : ∀ e ∈ xs, SqE e := fun e he => by
    rw [← hxs] at he
    have he := (isort_mem _ _ _).1 he
    rcases g3 e he with h | ⟨h, h1, h2⟩
    · cases h
    · exact ⟨entOk_DS h (by omega) (by omega), (h.de ⟨by omega, by omega⟩).ok, by omega, by omega, h.1⟩
  rw [hxs] at hE
  generalize bs.take 2000 = ds at *
  have hn : (xs.map Ent.enc).length = xs.length := List.length_map ..
  have hSn : ∀ q, q ≤ 1000 → ∃ (S : List Int) (q' : Nat), AFnK Try.prog 81 [.bx 0 0] [rd ds q] [0] (.one (.us 3 (S.map encI))) [rd ds q'] ∧ S.length ≤ 3 ∧ (∀ s ∈ S, 0 ≤ s ∧ s < 20) ∧ q' ≤ q + 10 := fun q hq => by
    have h := l4_Snaps ds q hO (by omega)
    have hv := pickV_lt (bs := ds) (p := q) (n := 4) (by decide)
    obtain ⟨h1, h2, h3⟩ := snapL_ok ds (pickV ds q 4) (q + 1) [] (fun s hs => nomatch hs)
    exact ⟨_, _, h, by rw [h2]; simp; omega, h3, by omega⟩
  by_cases h0 : xs.length = 0
  · have h1 : ¬ 1 < xs.length := by omega
    obtain ⟨S, q3, hS, hSl, hS2, hq3⟩ := hSn (q) (by omega)
    have hP3 := l9_pick ds q3 2 hO (by omega) (by omega)
    have hex : ∃ c, pickV ds q3 2 = c := ⟨_, rfl⟩
    obtain ⟨c, hc⟩ := hex
    rw [hc] at hP3
    have hres : ∀ b : Bool, (RV.tup [.one (.us 32 (xs.map Ent.enc)), .one (.us 3 (S.map encI)), .one (.v (.bool b))]) = .tup [.one (.us 32 (xs.map Ent.enc)), .one (.us 3 (S.map encI)), .one (.v (.bool b))] := fun _ => rfl
    refine ⟨xs, S, ((c : Nat) : Int) == 0, ?_, by omega, hP, hSl, hS2⟩
    refine AFn.introX (E := En 0 (mdv [] [80])) (en_ok 0 _ _ _ _ _) Try.func29 rfl rfl rfl fun _ _ => ?_
    refine ACall.mk _ _ hOp ?_
    refine ACall.mk _ _ hE ?_
    refine Split.mk fun t h1 => ?_
    cases t
    case true => (exfalso; rw [decide_eq_true_iff] at h1; omega)
    rw [decide_eq_false_iff_not] at h1
    refine Split.mk fun t h2 => ?_
    cases t
    case true => (exfalso; rw [decide_eq_true_iff] at h2; omega)
    rw [decide_eq_false_iff_not] at h2
    refine ACall.mk _ _ hS ?_
    refine ACall.mk _ _ hP3 ?_
    refine Split.mk fun t h3 => ?_
    cases t
    · skip
      rw [beq_eq_false_iff_ne] at h3
      refine Need.mk ⟨[], _, .same, ?_, rfl⟩ trivial
      rw [show (((c : Nat) : Int) == 0) = false from (by rw [beq_eq_false_iff_ne]; omega)]; exact hres _
    · skip
      rw [beq_iff_eq] at h3
      exact Need.mk ⟨[], _, .same, by rw [h3]; rfl, rfl⟩ trivial
  · have hex : ∃ e0, xs[0]'(by omega) = e0 := ⟨_, rfl⟩
    obtain ⟨e0, he0⟩ := hex
    have hrow0 : (xs.map Ent.enc)[0]? = some e0.enc := by rw [map_get _ xs 0 (by omega), he0]
    have he0m : e0 ∈ xs := by rw [← he0]; exact List.getElem_mem _
    by_cases hk : e0.kind = 2
    · by_cases h1 : 1 < xs.length
      · have hP2 := l9_pick ds (q) 24 hO (by omega) (by omega)
        have hex : ∃ d, pickV ds (q) 24 = d := ⟨_, rfl⟩
        obtain ⟨d, hd⟩ := hex
        rw [hd] at hP2
        by_cases hd0 : d = 0
        · subst hd0
          obtain ⟨S, q3, hS, hSl, hS2, hq3⟩ := hSn (q + 1) (by omega)
          have hP3 := l9_pick ds q3 2 hO (by omega) (by omega)
          have hex : ∃ c, pickV ds q3 2 = c := ⟨_, rfl⟩
          obtain ⟨c, hc⟩ := hex
          rw [hc] at hP3
          have hres : ∀ b : Bool, (RV.tup [.one (.us 32 (xs.map Ent.enc ++ [e0.enc])), .one (.us 3 (S.map encI)), .one (.v (.bool b))]) = .tup [.one (.us 32 ((xs ++ [e0]).map Ent.enc)), .one (.us 3 (S.map encI)), .one (.v (.bool b))] := by intro b; rw [List.map_append]; rfl
          refine ⟨xs ++ [e0], S, ((c : Nat) : Int) == 0, ?_, by first | omega | (simp; omega), fun e he => ?_, hSl, hS2⟩
          case refine_2 =>
            rcases List.mem_append.1 he with he | he
            · exact hP e he
            · obtain rfl := List.mem_singleton.1 he; exact hP _ he0m
          refine AFn.introX (E := En 0 (mdv [] [80])) (en_ok 0 _ _ _ _ _) Try.func29 rfl rfl rfl fun _ _ => ?_
          refine ACall.mk _ _ hOp ?_
          refine ACall.mk _ _ hE ?_
          refine Split.mk fun t h1 => ?_
          cases t
          case false => (exfalso; rw [decide_eq_false_iff_not] at h1; omega)
          rw [decide_eq_true_iff] at h1
          refine Need.mk (by omega) ?_
          refine Row.mk _ hrow0 ?_
          refine Split.mk fun t h2 => ?_
          cases t
          case true => (exfalso; rw [bne_iff_ne] at h2; omega)
          rw [bne_eq_false_iff_eq] at h2
          refine Split.mk fun t h3 => ?_
          cases t
          case false => (exfalso; rw [decide_eq_false_iff_not] at h3; omega)
          rw [decide_eq_true_iff] at h3
          refine ACall.mk _ _ hP2 ?_
          refine Split.mk fun t h4 => ?_
          cases t
          case false => cases h4
          refine Need.mk (by omega) ?_
          refine Row.mk _ hrow0 ?_
          refine Need.mk (appEq (A' := _) (B' := [e0.enc]) rfl rfl (by simp only [List.length_append, List.length_map, List.length_take, List.length_drop, List.length_cons, List.length_nil, List.length_reverse, List.length_replicate, List.length_set]; omega) (by decide)) ?_
          refine ACall.mk _ _ hS ?_
          refine ACall.mk _ _ hP3 ?_
          refine Split.mk fun t h5 => ?_
          cases t
          · skip
            rw [beq_eq_false_iff_ne] at h5
            refine Need.mk ⟨[], _, .same, ?_, rfl⟩ trivial
            rw [show (((c : Nat) : Int) == 0) = false from (by rw [beq_eq_false_iff_ne]; omega)]; exact hres _
          · skip
            rw [beq_iff_eq] at h5
            refine Need.mk ⟨[], _, .same, ?_, rfl⟩ trivial
            rw [show (((c : Nat) : Int) == 0) = true from (by rw [beq_iff_eq]; omega)]; exact hres _
        · obtain ⟨S, q3, hS, hSl, hS2, hq3⟩ := hSn (q + 1) (by omega)
          have hP3 := l9_pick ds q3 2 hO (by omega) (by omega)
          have hex : ∃ c, pickV ds q3 2 = c := ⟨_, rfl⟩
          obtain ⟨c, hc⟩ := hex
          rw [hc] at hP3
          have hres : ∀ b : Bool, (RV.tup [.one (.us 32 (xs.map Ent.enc)), .one (.us 3 (S.map encI)), .one (.v (.bool b))]) = .tup [.one (.us 32 ((xs).map Ent.enc)), .one (.us 3 (S.map encI)), .one (.v (.bool b))] := by intro b; rfl
          refine ⟨xs, S, ((c : Nat) : Int) == 0, ?_, by first | omega | (simp; omega), hP, hSl, hS2⟩
          refine AFn.introX (E := En 0 (mdv [] [80])) (en_ok 0 _ _ _ _ _) Try.func29 rfl rfl rfl fun _ _ => ?_
          refine ACall.mk _ _ hOp ?_
          refine ACall.mk _ _ hE ?_
          refine Split.mk fun t h1 => ?_
          cases t
          case false => (exfalso; rw [decide_eq_false_iff_not] at h1; omega)
          rw [decide_eq_true_iff] at h1
          refine Need.mk (by omega) ?_
          refine Row.mk _ hrow0 ?_
          refine Split.mk fun t h2 => ?_
          cases t
          case true => (exfalso; rw [bne_iff_ne] at h2; omega)
          rw [bne_eq_false_iff_eq] at h2
          refine Split.mk fun t h3 => ?_
          cases t
          case false => (exfalso; rw [decide_eq_false_iff_not] at h3; omega)
          rw [decide_eq_true_iff] at h3
          refine ACall.mk _ _ hP2 ?_
          refine Split.mk fun t h4 => ?_
          cases t
          case true => (exfalso; rw [beq_iff_eq] at h4; omega)
          rw [beq_eq_false_iff_ne] at h4
          refine ACall.mk _ _ hS ?_
          refine ACall.mk _ _ hP3 ?_
          refine Split.mk fun t h5 => ?_
          cases t
          · skip
            rw [beq_eq_false_iff_ne] at h5
            refine Need.mk ⟨[], _, .same, ?_, rfl⟩ trivial
            rw [show (((c : Nat) : Int) == 0) = false from (by rw [beq_eq_false_iff_ne]; omega)]; exact hres _
          · skip
            rw [beq_iff_eq] at h5
            exact Need.mk ⟨[], _, .same, by rw [h5]; rfl, rfl⟩ trivial
      · obtain ⟨S, q3, hS, hSl, hS2, hq3⟩ := hSn (q) (by omega)
        have hP3 := l9_pick ds q3 2 hO (by omega) (by omega)
        have hex : ∃ c, pickV ds q3 2 = c := ⟨_, rfl⟩
        obtain ⟨c, hc⟩ := hex
        rw [hc] at hP3
        have hres : ∀ b : Bool, (RV.tup [.one (.us 32 (xs.map Ent.enc)), .one (.us 3 (S.map encI)), .one (.v (.bool b))]) = .tup [.one (.us 32 ((xs).map Ent.enc)), .one (.us 3 (S.map encI)), .one (.v (.bool b))] := by intro b; rfl
        refine ⟨xs, S, ((c : Nat) : Int) == 0, ?_, by first | omega | (simp; omega), hP, hSl, hS2⟩
        refine AFn.introX (E := En 0 (mdv [] [80])) (en_ok 0 _ _ _ _ _) Try.func29 rfl rfl rfl fun _ _ => ?_
        refine ACall.mk _ _ hOp ?_
        refine ACall.mk _ _ hE ?_
        refine Split.mk fun t h1 => ?_
        cases t
        case false => (exfalso; rw [decide_eq_false_iff_not] at h1; omega)
        rw [decide_eq_true_iff] at h1
        refine Need.mk (by omega) ?_
        refine Row.mk _ hrow0 ?_
        refine Split.mk fun t h2 => ?_
        cases t
        case true => (exfalso; rw [bne_iff_ne] at h2; omega)
        rw [bne_eq_false_iff_eq] at h2
        refine Split.mk fun t h3 => ?_
        cases t
        case true => (exfalso; rw [decide_eq_true_iff] at h3; omega)
        rw [decide_eq_false_iff_not] at h3
        refine ACall.mk _ _ hS ?_
        refine ACall.mk _ _ hP3 ?_
        refine Split.mk fun t h4 => ?_
        cases t
        · skip
          rw [beq_eq_false_iff_ne] at h4
          refine Need.mk ⟨[], _, .same, ?_, rfl⟩ trivial
          rw [show (((c : Nat) : Int) == 0) = false from (by rw [beq_eq_false_iff_ne]; omega)]; exact hres _
        · skip
          rw [beq_iff_eq] at h4
          exact Need.mk ⟨[], _, .same, by rw [h4]; rfl, rfl⟩ trivial
    · have hP1 := l9_pick ds q 16 hO (by omega) (by omega)
      have hex : ∃ d, pickV ds q 16 = d := ⟨_, rfl⟩
      obtain ⟨f, hf⟩ := hex
      rw [hf] at hP1
      by_cases hf0 : f = 0
      · subst hf0
        have hN := l9_num ds (q + 1) [1000000, -1000000] hO (by omega) (by decide) (by decide)
        have hex : ∃ z, List.getD [1000000, -1000000] (pickV ds (q + 1) [1000000, (-1000000 : Int)].length) (0 : Int) = z := ⟨_, rfl⟩
        obtain ⟨z, hz⟩ := hex
        have hzz : -1000000 ≤ z ∧ z ≤ 1000000 := by
          have hm : z ∈ [1000000, (-1000000 : Int)] := by rw [← hz]; exact getD_mem (pickV_lt (by decide))
          simp only [List.mem_cons, List.not_mem_nil, or_false] at hm
          omega
        rw [hz] at hN
        have hR : ((xs.map Ent.enc).set 0 [vs e0.key, vi e0.seq, vi e0.kind, vs e0.text, vi z])[0]? = some [vs e0.key, vi e0.seq, vi e0.kind, vs e0.text, vi z] := by rw [List.getElem?_set_self (by omega)]
        have hRn : ((xs.map Ent.enc).set 0 [vs e0.key, vi e0.seq, vi e0.kind, vs e0.text, vi z]).length = xs.length := by rw [List.length_set, hn]
        have hP2' : ∀ e ∈ xs.set 0 { e0 with n := z }, SqE e := fun e he => by
          rcases List.mem_or_eq_of_mem_set he with h | h
          · exact hP e h
          · rw [h]; exact SqE_n (hP _ he0m) hk hzz
        have hm0 : { e0 with n := z } ∈ xs.set 0 { e0 with n := z } := List.mem_iff_getElem?.2 ⟨0, by rw [List.getElem?_set_self (by omega)]⟩
        by_cases h1 : 1 < xs.length
        · have hP2 := l9_pick ds (q + 2) 24 hO (by omega) (by omega)
          have hex : ∃ d, pickV ds (q + 2) 24 = d := ⟨_, rfl⟩
          obtain ⟨d, hd⟩ := hex
          rw [hd] at hP2
          by_cases hd0 : d = 0
          · subst hd0
            obtain ⟨S, q3, hS, hSl, hS2, hq3⟩ := hSn (q + 2 + 1) (by omega)
            have hP3 := l9_pick ds q3 2 hO (by omega) (by omega)
            have hex : ∃ c, pickV ds q3 2 = c := ⟨_, rfl⟩
            obtain ⟨c, hc⟩ := hex
            rw [hc] at hP3
            have hres : ∀ b : Bool, (RV.tup [.one (.us 32 ((xs.map Ent.enc).set 0 [vs e0.key, vi e0.seq, vi e0.kind, vs e0.text, vi z] ++ [[vs e0.key, vi e0.seq, vi e0.kind, vs e0.text, vi z]])), .one (.us 3 (S.map encI)), .one (.v (.bool b))]) = .tup [.one (.us 32 ((xs.set 0 { e0 with n := z } ++ [{ e0 with n := z }]).map Ent.enc)), .one (.us 3 (S.map encI)), .one (.v (.bool b))] := by intro b; rw [List.map_append]; rw [List.map_set]; rfl
            refine ⟨xs.set 0 { e0 with n := z } ++ [{ e0 with n := z }], S, ((c : Nat) : Int) == 0, ?_, by first | omega | (simp; omega), fun e he => ?_, hSl, hS2⟩
            case refine_2 =>
              rcases List.mem_append.1 he with he | he
              · exact hP2' e he
              · obtain rfl := List.mem_singleton.1 he; exact hP2' _ hm0
            refine AFn.introX (E := En 0 (mdv [] [80])) (en_ok 0 _ _ _ _ _) Try.func29 rfl rfl rfl fun _ _ => ?_
            refine ACall.mk _ _ hOp ?_
            refine ACall.mk _ _ hE ?_
            refine Split.mk fun t h1 => ?_
            cases t
            case false => (exfalso; rw [decide_eq_false_iff_not] at h1; omega)
            rw [decide_eq_true_iff] at h1
            refine Need.mk (by omega) ?_
            refine Row.mk _ hrow0 ?_
            refine Split.mk fun t h2 => ?_
            cases t
            case false => (exfalso; rw [bne_eq_false_iff_eq] at h2; omega)
            rw [bne_iff_ne] at h2
            refine ACall.mk _ _ hP1 ?_
            refine Split.mk fun t h3 => ?_
            cases t
            case false => cases h3
            refine Fz.mk _ (FrzLL.frz (.cons (.cons .v .nil) (.cons (.cons .v .nil) .nil))) ?_
            refine ACall.mk _ _ hN ?_
            refine Need.mk (by omega) ?_
            refine Row.mk _ hrow0 ?_
            refine Split.mk fun t h4 => ?_
            cases t
            case false => (exfalso; simp at h4 <;> omega)
            rw [decide_eq_true_iff] at h4
            refine ACall.mk _ _ hP2 ?_
            refine Split.mk fun t h5 => ?_
            cases t
            case false => cases h5
            refine Need.mk (by omega) ?_
            refine Row.mk _ hR ?_
            refine Need.mk (appEq (A' := _) (B' := [[vs e0.key, vi e0.seq, vi e0.kind, vs e0.text, vi z]]) rfl rfl (by simp only [List.length_append, List.length_map, List.length_take, List.length_drop, List.length_cons, List.length_nil, List.length_reverse, List.length_replicate, List.length_set]; omega) (by decide)) ?_
            refine ACall.mk _ _ hS ?_
            refine ACall.mk _ _ hP3 ?_
            refine Split.mk fun t h6 => ?_
            cases t
            · skip
              rw [beq_eq_false_iff_ne] at h6
              refine Need.mk ⟨[], _, .same, ?_, rfl⟩ trivial
              rw [show (((c : Nat) : Int) == 0) = false from (by rw [beq_eq_false_iff_ne]; omega)]; exact hres _
            · skip
              rw [beq_iff_eq] at h6
              refine Need.mk ⟨[], _, .same, ?_, rfl⟩ trivial
              rw [show (((c : Nat) : Int) == 0) = true from (by rw [beq_iff_eq]; omega)]; exact hres _
          · obtain ⟨S, q3, hS, hSl, hS2, hq3⟩ := hSn (q + 2 + 1) (by omega)
            have hP3 := l9_pick ds q3 2 hO (by omega) (by omega)
            have hex : ∃ c, pickV ds q3 2 = c := ⟨_, rfl⟩
            obtain ⟨c, hc⟩ := hex
            rw [hc] at hP3
            have hres : ∀ b : Bool, (RV.tup [.one (.us 32 ((xs.map Ent.enc).set 0 [vs e0.key, vi e0.seq, vi e0.kind, vs e0.text, vi z])), .one (.us 3 (S.map encI)), .one (.v (.bool b))]) = .tup [.one (.us 32 ((xs.set 0 { e0 with n := z }).map Ent.enc)), .one (.us 3 (S.map encI)), .one (.v (.bool b))] := by intro b; rw [List.map_set]; rfl
            refine ⟨xs.set 0 { e0 with n := z }, S, ((c : Nat) : Int) == 0, ?_, by first | omega | (simp; omega), hP2', hSl, hS2⟩
            refine AFn.introX (E := En 0 (mdv [] [80])) (en_ok 0 _ _ _ _ _) Try.func29 rfl rfl rfl fun _ _ => ?_
            refine ACall.mk _ _ hOp ?_
            refine ACall.mk _ _ hE ?_
            refine Split.mk fun t h1 => ?_
            cases t
            case false => (exfalso; rw [decide_eq_false_iff_not] at h1; omega)
            rw [decide_eq_true_iff] at h1
            refine Need.mk (by omega) ?_
            refine Row.mk _ hrow0 ?_
            refine Split.mk fun t h2 => ?_
            cases t
            case false => (exfalso; rw [bne_eq_false_iff_eq] at h2; omega)
            rw [bne_iff_ne] at h2
            refine ACall.mk _ _ hP1 ?_
            refine Split.mk fun t h3 => ?_
            cases t
            case false => cases h3
            refine Fz.mk _ (FrzLL.frz (.cons (.cons .v .nil) (.cons (.cons .v .nil) .nil))) ?_
            refine ACall.mk _ _ hN ?_
            refine Need.mk (by omega) ?_
            refine Row.mk _ hrow0 ?_
            refine Split.mk fun t h4 => ?_
            cases t
            case false => (exfalso; simp at h4 <;> omega)
            rw [decide_eq_true_iff] at h4
            refine ACall.mk _ _ hP2 ?_
            refine Split.mk fun t h5 => ?_
            cases t
            case true => (exfalso; rw [beq_iff_eq] at h5; omega)
            rw [beq_eq_false_iff_ne] at h5
            refine ACall.mk _ _ hS ?_
            refine ACall.mk _ _ hP3 ?_
            refine Split.mk fun t h6 => ?_
            cases t
            · skip
              rw [beq_eq_false_iff_ne] at h6
              refine Need.mk ⟨[], _, .same, ?_, rfl⟩ trivial
              rw [show (((c : Nat) : Int) == 0) = false from (by rw [beq_eq_false_iff_ne]; omega)]; exact hres _
            · skip
              rw [beq_iff_eq] at h6
              refine Need.mk ⟨[], _, .same, ?_, rfl⟩ trivial
              rw [show (((c : Nat) : Int) == 0) = true from (by rw [beq_iff_eq]; omega)]; exact hres _
        · obtain ⟨S, q3, hS, hSl, hS2, hq3⟩ := hSn (q + 2) (by omega)
          have hP3 := l9_pick ds q3 2 hO (by omega) (by omega)
          have hex : ∃ c, pickV ds q3 2 = c := ⟨_, rfl⟩
          obtain ⟨c, hc⟩ := hex
          rw [hc] at hP3
          have hres : ∀ b : Bool, (RV.tup [.one (.us 32 ((xs.map Ent.enc).set 0 [vs e0.key, vi e0.seq, vi e0.kind, vs e0.text, vi z])), .one (.us 3 (S.map encI)), .one (.v (.bool b))]) = .tup [.one (.us 32 ((xs.set 0 { e0 with n := z }).map Ent.enc)), .one (.us 3 (S.map encI)), .one (.v (.bool b))] := by intro b; rw [List.map_set]; rfl
          refine ⟨xs.set 0 { e0 with n := z }, S, ((c : Nat) : Int) == 0, ?_, by first | omega | (simp; omega), hP2', hSl, hS2⟩
          refine AFn.introX (E := En 0 (mdv [] [80])) (en_ok 0 _ _ _ _ _) Try.func29 rfl rfl rfl fun _ _ => ?_
          refine ACall.mk _ _ hOp ?_
          refine ACall.mk _ _ hE ?_
          refine Split.mk fun t h1 => ?_
          cases t
          case false => (exfalso; rw [decide_eq_false_iff_not] at h1; omega)
          rw [decide_eq_true_iff] at h1
          refine Need.mk (by omega) ?_
          refine Row.mk _ hrow0 ?_
          refine Split.mk fun t h2 => ?_
          cases t
          case false => (exfalso; rw [bne_eq_false_iff_eq] at h2; omega)
          rw [bne_iff_ne] at h2
          refine ACall.mk _ _ hP1 ?_
          refine Split.mk fun t h3 => ?_
          cases t
          case false => cases h3
          refine Fz.mk _ (FrzLL.frz (.cons (.cons .v .nil) (.cons (.cons .v .nil) .nil))) ?_
          refine ACall.mk _ _ hN ?_
          refine Need.mk (by omega) ?_
          refine Row.mk _ hrow0 ?_
          refine Split.mk fun t h4 => ?_
          cases t
          case true => (exfalso; simp at h4 <;> omega)
          rw [decide_eq_false_iff_not] at h4
          refine ACall.mk _ _ hS ?_
          refine ACall.mk _ _ hP3 ?_
          refine Split.mk fun t h5 => ?_
          cases t
          · skip
            rw [beq_eq_false_iff_ne] at h5
            refine Need.mk ⟨[], _, .same, ?_, rfl⟩ trivial
            rw [show (((c : Nat) : Int) == 0) = false from (by rw [beq_eq_false_iff_ne]; omega)]; exact hres _
          · skip
            rw [beq_iff_eq] at h5
            refine Need.mk ⟨[], _, .same, ?_, rfl⟩ trivial
            rw [show (((c : Nat) : Int) == 0) = true from (by rw [beq_iff_eq]; omega)]; exact hres _
      · by_cases h1 : 1 < xs.length
        · have hP2 := l9_pick ds (q + 1) 24 hO (by omega) (by omega)
          have hex : ∃ d, pickV ds (q + 1) 24 = d := ⟨_, rfl⟩
          obtain ⟨d, hd⟩ := hex
          rw [hd] at hP2
          by_cases hd0 : d = 0
          · subst hd0
            obtain ⟨S, q3, hS, hSl, hS2, hq3⟩ := hSn (q + 1 + 1) (by omega)
            have hP3 := l9_pick ds q3 2 hO (by omega) (by omega)
            have hex : ∃ c, pickV ds q3 2 = c := ⟨_, rfl⟩
            obtain ⟨c, hc⟩ := hex
            rw [hc] at hP3
            have hres : ∀ b : Bool, (RV.tup [.one (.us 32 (xs.map Ent.enc ++ [e0.enc])), .one (.us 3 (S.map encI)), .one (.v (.bool b))]) = .tup [.one (.us 32 ((xs ++ [e0]).map Ent.enc)), .one (.us 3 (S.map encI)), .one (.v (.bool b))] := by intro b; rw [List.map_append]; rfl
            refine ⟨xs ++ [e0], S, ((c : Nat) : Int) == 0, ?_, by first | omega | (simp; omega), fun e he => ?_, hSl, hS2⟩
            case refine_2 =>
              rcases List.mem_append.1 he with he | he
              · exact hP e he
              · obtain rfl := List.mem_singleton.1 he; exact hP _ he0m
            refine AFn.introX (E := En 0 (mdv [] [80])) (en_ok 0 _ _ _ _ _) Try.func29 rfl rfl rfl fun _ _ => ?_
            refine ACall.mk _ _ hOp ?_
            refine ACall.mk _ _ hE ?_
            refine Split.mk fun t h1 => ?_
            cases t
            case false => (exfalso; rw [decide_eq_false_iff_not] at h1; omega)
            rw [decide_eq_true_iff] at h1
            refine Need.mk (by omega) ?_
            refine Row.mk _ hrow0 ?_
            refine Split.mk fun t h2 => ?_
            cases t
            case false => (exfalso; rw [bne_eq_false_iff_eq] at h2; omega)
            rw [bne_iff_ne] at h2
            refine ACall.mk _ _ hP1 ?_
            refine Split.mk fun t h3 => ?_
            cases t
            case true => (exfalso; rw [beq_iff_eq] at h3; omega)
            rw [beq_eq_false_iff_ne] at h3
            refine Split.mk fun t h4 => ?_
            cases t
            case false => (exfalso; rw [decide_eq_false_iff_not] at h4; omega)
            rw [decide_eq_true_iff] at h4
            refine ACall.mk _ _ hP2 ?_
            refine Split.mk fun t h5 => ?_
            cases t
            case false => cases h5
            refine Need.mk (by omega) ?_
            refine Row.mk _ hrow0 ?_
            refine Need.mk (appEq (A' := _) (B' := [e0.enc]) rfl rfl (by simp only [List.length_append, List.length_map, List.length_take, List.length_drop, List.length_cons, List.length_nil, List.length_reverse, List.length_replicate, List.length_set]; omega) (by decide)) ?_
            refine ACall.mk _ _ hS ?_
            refine ACall.mk _ _ hP3 ?_
            refine Split.mk fun t h6 => ?_
            cases t
            · skip
              rw [beq_eq_false_iff_ne] at h6
              refine Need.mk ⟨[], _, .same, ?_, rfl⟩ trivial
              rw [show (((c : Nat) : Int) == 0) = false from (by rw [beq_eq_false_iff_ne]; omega)]; exact hres _
            · skip
              rw [beq_iff_eq] at h6
              refine Need.mk ⟨[], _, .same, ?_, rfl⟩ trivial
              rw [show (((c : Nat) : Int) == 0) = true from (by rw [beq_iff_eq]; omega)]; exact hres _
          · obtain ⟨S, q3, hS, hSl, hS2, hq3⟩ := hSn (q + 1 + 1) (by omega)
            have hP3 := l9_pick ds q3 2 hO (by omega) (by omega)
            have hex : ∃ c, pickV ds q3 2 = c := ⟨_, rfl⟩
            obtain ⟨c, hc⟩ := hex
            rw [hc] at hP3
            have hres : ∀ b : Bool, (RV.tup [.one (.us 32 (xs.map Ent.enc)), .one (.us 3 (S.map encI)), .one (.v (.bool b))]) = .tup [.one (.us 32 ((xs).map Ent.enc)), .one (.us 3 (S.map encI)), .one (.v (.bool b))] := by intro b; rfl
            refine ⟨xs, S, ((c : Nat) : Int) == 0, ?_, by first | omega | (simp; omega), hP, hSl, hS2⟩
            refine AFn.introX (E := En 0 (mdv [] [80])) (en_ok 0 _ _ _ _ _) Try.func29 rfl rfl rfl fun _ _ => ?_
            refine ACall.mk _ _ hOp ?_
            refine ACall.mk _ _ hE ?_
            refine Split.mk fun t h1 => ?_
            cases t
            case false => (exfalso; rw [decide_eq_false_iff_not] at h1; omega)
            rw [decide_eq_true_iff] at h1
            refine Need.mk (by omega) ?_
            refine Row.mk _ hrow0 ?_
            refine Split.mk fun t h2 => ?_
            cases t
            case false => (exfalso; rw [bne_eq_false_iff_eq] at h2; omega)
            rw [bne_iff_ne] at h2
            refine ACall.mk _ _ hP1 ?_
            refine Split.mk fun t h3 => ?_
            cases t
            case true => (exfalso; rw [beq_iff_eq] at h3; omega)
            rw [beq_eq_false_iff_ne] at h3
            refine Split.mk fun t h4 => ?_
            cases t
            case false => (exfalso; rw [decide_eq_false_iff_not] at h4; omega)
            rw [decide_eq_true_iff] at h4
            refine ACall.mk _ _ hP2 ?_
            refine Split.mk fun t h5 => ?_
            cases t
            case true => (exfalso; rw [beq_iff_eq] at h5; omega)
            rw [beq_eq_false_iff_ne] at h5
            refine ACall.mk _ _ hS ?_
            refine ACall.mk _ _ hP3 ?_
            refine Split.mk fun t h6 => ?_
            cases t
            · skip
              rw [beq_eq_false_iff_ne] at h6
              refine Need.mk ⟨[], _, .same, ?_, rfl⟩ trivial
              rw [show (((c : Nat) : Int) == 0) = false from (by rw [beq_eq_false_iff_ne]; omega)]; exact hres _
            · skip
              rw [beq_iff_eq] at h6
              exact Need.mk ⟨[], _, .same, by rw [h6]; rfl, rfl⟩ trivial
        · obtain ⟨S, q3, hS, hSl, hS2, hq3⟩ := hSn (q + 1) (by omega)
          have hP3 := l9_pick ds q3 2 hO (by omega) (by omega)
          have hex : ∃ c, pickV ds q3 2 = c := ⟨_, rfl⟩
          obtain ⟨c, hc⟩ := hex
          rw [hc] at hP3
          have hres : ∀ b : Bool, (RV.tup [.one (.us 32 (xs.map Ent.enc)), .one (.us 3 (S.map encI)), .one (.v (.bool b))]) = .tup [.one (.us 32 ((xs).map Ent.enc)), .one (.us 3 (S.map encI)), .one (.v (.bool b))] := by intro b; rfl
          refine ⟨xs, S, ((c : Nat) : Int) == 0, ?_, by first | omega | (simp; omega), hP, hSl, hS2⟩
          refine AFn.introX (E := En 0 (mdv [] [80])) (en_ok 0 _ _ _ _ _) Try.func29 rfl rfl rfl fun _ _ => ?_
          refine ACall.mk _ _ hOp ?_
          refine ACall.mk _ _ hE ?_
          refine Split.mk fun t h1 => ?_
          cases t
          case false => (exfalso; rw [decide_eq_false_iff_not] at h1; omega)
          rw [decide_eq_true_iff] at h1
          refine Need.mk (by omega) ?_
          refine Row.mk _ hrow0 ?_
          refine Split.mk fun t h2 => ?_
          cases t
          case false => (exfalso; rw [bne_eq_false_iff_eq] at h2; omega)
          rw [bne_iff_ne] at h2
          refine ACall.mk _ _ hP1 ?_
          refine Split.mk fun t h3 => ?_
          cases t
          case true => (exfalso; rw [beq_iff_eq] at h3; omega)
          rw [beq_eq_false_iff_ne] at h3
          refine Split.mk fun t h4 => ?_
          cases t
          case true => (exfalso; rw [decide_eq_true_iff] at h4; omega)
          rw [decide_eq_false_iff_not] at h4
          refine ACall.mk _ _ hS ?_
          refine ACall.mk _ _ hP3 ?_
          refine Split.mk fun t h5 => ?_
          cases t
          · skip
            rw [beq_eq_false_iff_ne] at h5
            refine Need.mk ⟨[], _, .same, ?_, rfl⟩ trivial
            rw [show (((c : Nat) : Int) == 0) = false from (by rw [beq_eq_false_iff_ne]; omega)]; exact hres _
          · skip
            rw [beq_iff_eq] at h5
            exact Need.mk ⟨[], _, .same, by rw [h5]; rfl, rfl⟩ trivial
end Go.Proofs.Ytlmdheeammfihaa

namespace Go.Proofs.Ytlmdheeammfihaa
open Go Go.Proofs Ev
set_option maxRecDepth 100000
set_option linter.unusedSimpArgs false
set_option linter.unusedVariables false
set_option maxHeartbeats 1000000
theorem spec_CellDo (c : Cel) (e : Ent) : AFn Try.prog 170 [.agg (c.enc.map .c), .agg (e.enc.map .c)] [] (.agg (cellDo c e).enc) [] := by
  by_cases h1 : e.kind = 1
  · have hv : cellDo c e = ⟨true, e.text, e.n⟩ := if_pos h1
    rw [hv]
    refine AFn.introX (E := En 0 md0) (en_ok 0 md0) Try.func170 rfl rfl rfl fun _ _ => ?_
    refine Split.mk fun t h => ?_
    cases t
    case false => rw [beq_eq_false_iff_ne] at h; exact absurd h1 h
    exact Need.mk ⟨[], _, .same, rfl, rfl⟩ trivial
  · by_cases h2 : e.kind = 2
    · have hv : cellDo c e = cel0 := by unfold cellDo; rw [if_neg h1, if_pos h2]
      rw [hv]
      refine AFn.introX (E := En 0 md0) (en_ok 0 md0) Try.func170 rfl rfl rfl fun _ _ => ?_
      refine Split.mk fun t h => ?_
      cases t
      case true => rw [beq_iff_eq] at h; exact absurd h h1
      refine Split.mk fun t h => ?_
      cases t
      case false => rw [beq_eq_false_iff_ne] at h; exact absurd h2 h
      exact Need.mk ⟨[], _, .same, rfl, rfl⟩ trivial
    · by_cases h3 : e.kind = 3
      · have hv : cellDo c e = ⟨true, c.text, IntKind.i64.wrap (c.n + e.n)⟩ := by unfold cellDo; rw [if_neg h1, if_neg h2, if_pos h3]
        rw [hv]
        refine AFn.introX (E := En 0 md0) (en_ok 0 md0) Try.func170 rfl rfl rfl fun _ _ => ?_
        refine Split.mk fun t h => ?_
        cases t
        case true => rw [beq_iff_eq] at h; exact absurd h h1
        refine Split.mk fun t h => ?_
        cases t
        case true => rw [beq_iff_eq] at h; exact absurd h h2
        refine Split.mk fun t h => ?_
        cases t
        case false => rw [beq_eq_false_iff_ne] at h; exact absurd h3 h
        refine Num.mk _ rfl ?_
        exact Need.mk ⟨[], _, .same, rfl, rfl⟩ trivial
      · have hv : cellDo c e = c := by unfold cellDo; rw [if_neg h1, if_neg h2, if_neg h3]
        rw [hv]
        refine AFn.introX (E := En 0 md0) (en_ok 0 md0) Try.func170 rfl rfl rfl fun _ _ => ?_
        refine Split.mk fun t h => ?_
        cases t
        case true => rw [beq_iff_eq] at h; exact absurd h h1
        refine Split.mk fun t h => ?_
        cases t
        case true => rw [beq_iff_eq] at h; exact absurd h h2
        refine Split.mk fun t h => ?_
        cases t
        case true => rw [beq_iff_eq] at h; exact absurd h h3
        exact Need.mk ⟨[], _, .same, rfl, rfl⟩ trivial
end Go.Proofs.Ytlmdheeammfihaa

namespace Go.Proofs.Ytlmdheeammfihaa
open Go Go.Proofs Ev
set_option maxRecDepth 100000
set_option linter.unusedSimpArgs false
set_option linter.unusedVariables false
set_option maxHeartbeats 1000000
theorem put_on (s : ByteArray) (n : Int) (c : Cel) : AFn Try.prog 196 [.agg [.c (vs s), .c (vi n)], .agg (c.enc.map .c)] [] (.agg (Cel.enc ⟨true, s, n⟩)) [] := by
  refine AFn.introX (E := En 0 md0) (en_ok 0 md0) Try.func196 rfl rfl rfl fun _ _ => ?_
  exact Need.mk ⟨[], _, .same, rfl, rfl⟩ trivial
theorem del_on (c : Cel) : AFn Try.prog 197 [.agg [], .agg (c.enc.map .c)] [] (.agg (Cel.enc cel0)) [] := by
  refine AFn.introX (E := En 0 md0) (en_ok 0 md0) Try.func197 rfl rfl rfl fun _ _ => ?_
  exact Need.mk ⟨[], _, .same, rfl, rfl⟩ trivial
theorem add_on (n : Int) (c : Cel) : AFn Try.prog 198 [.agg [.c (vi n)], .agg (c.enc.map .c)] [] (.agg (Cel.enc ⟨true, c.text, IntKind.i64.wrap (c.n + n)⟩)) [] := by
  refine AFn.introX (E := En 0 md0) (en_ok 0 md0) Try.func198 rfl rfl rfl fun _ _ => ?_
  refine Num.mk _ rfl ?_
  exact Need.mk ⟨[], _, .same, rfl, rfl⟩ trivial
theorem no_on (c : Cel) : AFn Try.prog 199 [.agg [], .agg (c.enc.map .c)] [] (.agg c.enc) [] := by
  refine AFn.introX (E := En 0 md0) (en_ok 0 md0) Try.func199 rfl rfl rfl fun _ _ => ?_
  exact Need.mk ⟨[], _, .same, rfl, rfl⟩ trivial
theorem deed_put (e : Ent) (h1 : e.kind = 1) : AFn Try.prog 130 [.agg (e.enc.map .c)] [] (.ifc 175 [vs e.text, vi e.n]) [] := by
  refine AFn.introX (E := En 0 md0) (en_ok 0 md0) Try.func130 rfl rfl rfl fun _ _ => ?_
  refine Split.mk fun t h => ?_
  cases t
  case false => rw [beq_eq_false_iff_ne] at h; exact absurd h1 h
  exact Need.mk ⟨[], _, .same, rfl, rfl⟩ trivial
theorem deed_del (e : Ent) (h1 : ¬ e.kind = 1) (h2 : e.kind = 2) : AFn Try.prog 130 [.agg (e.enc.map .c)] [] (.ifc 177 []) [] := by
  refine AFn.introX (E := En 0 md0) (en_ok 0 md0) Try.func130 rfl rfl rfl fun _ _ => ?_
  refine Split.mk fun t h => ?_
  cases t
  case true => rw [beq_iff_eq] at h; exact absurd h h1
  refine Split.mk fun t h => ?_
  cases t
  case false => rw [beq_eq_false_iff_ne] at h; exact absurd h2 h
  exact Need.mk ⟨[], _, .same, rfl, rfl⟩ trivial
theorem deed_add (e : Ent) (h1 : ¬ e.kind = 1) (h2 : ¬ e.kind = 2) (h3 : e.kind = 3) : AFn Try.prog 130 [.agg (e.enc.map .c)] [] (.ifc 179 [vi e.n]) [] := by
  refine AFn.introX (E := En 0 md0) (en_ok 0 md0) Try.func130 rfl rfl rfl fun _ _ => ?_
  refine Split.mk fun t h => ?_
  cases t
  case true => rw [beq_iff_eq] at h; exact absurd h h1
  refine Split.mk fun t h => ?_
  cases t
  case true => rw [beq_iff_eq] at h; exact absurd h h2
  refine Split.mk fun t h => ?_
  cases t
  case false => rw [beq_eq_false_iff_ne] at h; exact absurd h3 h
  exact Need.mk ⟨[], _, .same, rfl, rfl⟩ trivial
theorem deed_no (e : Ent) (h1 : ¬ e.kind = 1) (h2 : ¬ e.kind = 2) (h3 : ¬ e.kind = 3) : AFn Try.prog 130 [.agg (e.enc.map .c)] [] (.ifc 180 []) [] := by
  refine AFn.introX (E := En 0 md0) (en_ok 0 md0) Try.func130 rfl rfl rfl fun _ _ => ?_
  refine Split.mk fun t h => ?_
  cases t
  case true => rw [beq_iff_eq] at h; exact absurd h h1
  refine Split.mk fun t h => ?_
  cases t
  case true => rw [beq_iff_eq] at h; exact absurd h h2
  refine Split.mk fun t h => ?_
  cases t
  case true => rw [beq_iff_eq] at h; exact absurd h h3
  exact Need.mk ⟨[], _, .same, rfl, rfl⟩ trivial
theorem impl_CellDo (c : Cel) (e : Ent) : AFn Try.prog 78 [.agg (c.enc.map .c), .agg (e.enc.map .c)] [] (.agg (cellDo c e).enc) [] := by
  by_cases h1 : e.kind = 1
  · have hv : cellDo c e = ⟨true, e.text, e.n⟩ := if_pos h1
    rw [hv]
    have hD := deed_put e h1
    have hO := put_on e.text e.n c
    refine AFn.introX (E := En 0 md0) (en_ok 0 md0) Try.func78 rfl rfl rfl fun _ _ => ?_
    refine ACall.mk _ _ hD ?_
    refine ACall.mk _ _ hO ?_
    refine Need.mk rfl ?_
    exact Need.mk ⟨[], _, .same, rfl, rfl⟩ trivial
  · by_cases h2 : e.kind = 2
    · have hv : cellDo c e = cel0 := by unfold cellDo; rw [if_neg h1, if_pos h2]
      rw [hv]
      have hD := deed_del e h1 h2
      have hO := del_on c
      refine AFn.introX (E := En 0 md0) (en_ok 0 md0) Try.func78 rfl rfl rfl fun _ _ => ?_
      refine ACall.mk _ _ hD ?_
      refine ACall.mk _ _ hO ?_
      refine Need.mk rfl ?_
      exact Need.mk ⟨[], _, .same, rfl, rfl⟩ trivial
    · by_cases h3 : e.kind = 3
      · have hv : cellDo c e = ⟨true, c.text, IntKind.i64.wrap (c.n + e.n)⟩ := by unfold cellDo; rw [if_neg h1, if_neg h2, if_pos h3]
        rw [hv]
        have hD := deed_add e h1 h2 h3
        have hO := add_on e.n c
        refine AFn.introX (E := En 0 md0) (en_ok 0 md0) Try.func78 rfl rfl rfl fun _ _ => ?_
        refine ACall.mk _ _ hD ?_
        refine ACall.mk _ _ hO ?_
        refine Need.mk rfl ?_
        exact Need.mk ⟨[], _, .same, rfl, rfl⟩ trivial
      · have hv : cellDo c e = c := by unfold cellDo; rw [if_neg h1, if_neg h2, if_neg h3]
        rw [hv]
        have hD := deed_no e h1 h2 h3
        have hO := no_on c
        refine AFn.introX (E := En 0 md0) (en_ok 0 md0) Try.func78 rfl rfl rfl fun _ _ => ?_
        refine ACall.mk _ _ hD ?_
        refine ACall.mk _ _ hO ?_
        refine Need.mk rfl ?_
        exact Need.mk ⟨[], _, .same, rfl, rfl⟩ trivial
end Go.Proofs.Ytlmdheeammfihaa

namespace Go.Proofs.Ytlmdheeammfihaa
open Go Go.Proofs Ev
set_option maxRecDepth 100000
set_option linter.unusedSimpArgs false
set_option linter.unusedVariables false
set_option maxHeartbeats 4000000
theorem cellAll_cmp (a b : Ent) : AFn Try.prog 76 [.agg (a.enc.map .c), .agg (b.enc.map .c)] [] (.one (vi (icmp a.seq b.seq))) [] := by
  refine AFn.introX (E := En 0 md0) (en_ok 0 md0) Try.func76 rfl rfl rfl fun _ _ => ?_
  refine ACall.mk _ _ (cmp_Compare_I _ _) ?_
  exact Need.mk ⟨[], _, .same, rfl, rfl⟩ trivial
theorem cellAll_ok : CmpOk 76 sLess := ⟨fun a b => icmp a.seq b.seq, fun _ _ => icmp_lt _ _, cellAll_cmp⟩
theorem impl_CellAll (xs : List Ent) (key : ByteArray) (seq : Int) (hl : xs.length ≤ 1048576) : AFn Try.prog 28 [sl (xs.map Ent.enc), av (.string key), av (.int .i64 seq)] [] (.agg (cellAll xs key seq).enc) [] := by
  refine AFn.introX (E := En 0 (md1 [62])) (en_ok 0 _) Try.func28 rfl rfl rfl fun _ _ => ?_
  have hpos : 0 < Try.prog.cellsOf 32 := pos_of tab_ok (t := 32) rfl
  have hn : (xs.map Ent.enc).length = xs.length := List.length_map ..
  have hfl := findE_len xs key seq
  have hex : ∃ F, findE xs key seq = F := ⟨_, rfl⟩
  obtain ⟨F, hF⟩ := hex
  rw [hF] at hfl
  have hS := slices_SortStable 76 sLess sLess_wk cellAll_ok F (by omega)
  have hres : cellAll xs key seq = (isort sLess F).foldl cellDo cel0 := by unfold cellAll mine; rw [hF]
  rw [hres]
  have hml : (isort sLess F).length ≤ 1048576 := by rw [isort_len]; omega
  have hex : ∃ ys, isort sLess F = ys := ⟨_, rfl⟩
  obtain ⟨ys, hys⟩ := hex
  rw [hys] at hml hS
  rw [hys]
  have hyn : (ys.map Ent.enc).length = ys.length := List.length_map ..
  let SR : List (List C) → Nat → St := fun R i => ⟨none :: some (av (.string key)) :: some (av (.int .i64 seq)) :: none :: none :: none :: some (.bx 6 0) :: some (.one (.ref 7 0 (.cell 0))) :: none :: none :: none :: none :: none :: some (sl (xs.map Ent.enc)) :: some (av (.int .i64 (xs.map Ent.enc).length)) :: some (av (.int .i64 i)) :: List.replicate 31 none, absent :: absent :: absent :: absent :: absent :: absent :: ⟨0, 0, some [vb false, vs ⟨#[]⟩, vi 0]⟩ :: ⟨0, 1, some [.us 32 R]⟩ :: List.replicate 39 absent⟩
  let S : List Ent → Nat → St := fun zs i => SR (zs.map Ent.enc) i
  refine ALoop.mk (fun m s => ∃ (i : Nat) (zs : List Ent), i ≤ xs.length ∧ m = xs.length - i ∧ findE (xs.take i) key seq = zs ∧ s = S zs i)
    ⟨_, _, Weak.trans (Weak.nrm [false, true, true, false, false, false, true, true, false, false, false, false, false, true, true, true] [(6, 6)] rfl rfl rfl) (Weak.nilOwn 7 7 32 rfl rfl hpos), 0, [], Nat.zero_le _, rfl, rfl, rfl⟩ ?_
  rintro m s ⟨i, zs, hi, rfl, hz, hs⟩
  by_cases hin : i = xs.length
  · subst hin
    rw [List.take_length, hF] at hz
    subst hz
    subst hs
    refine Split.mk fun t h1 => ?_
    cases t
    case true => (exfalso; rw [decide_eq_true_iff] at h1; omega)
    rw [decide_eq_false_iff_not] at h1
    refine ACall.mk _ _ hS ?_
    let S2 : Cel → Nat → St := fun c i => ⟨none :: none :: none :: none :: none :: none :: some (.bx 6 0) :: none :: none :: none :: some (.bx 10 0) :: none :: none :: none :: none :: none :: none :: none :: none :: none :: none :: none :: none :: none :: none :: none :: none :: none :: none :: none :: none :: none :: none :: none :: none :: none :: some (.one (.ref 36 0 (.cell 0))) :: some (av (.int .i64 (ys.map Ent.enc).length)) :: some (av (.int .i64 i)) :: List.replicate 8 none, absent :: absent :: absent :: absent :: absent :: absent :: ⟨0, 0, some [vb false, vs ⟨#[]⟩, vi 0]⟩ :: absent :: absent :: absent :: ⟨0, 0, some c.enc⟩ :: absent :: absent :: absent :: absent :: absent :: absent :: absent :: absent :: absent :: absent :: absent :: absent :: absent :: absent :: absent :: absent :: absent :: absent :: absent :: absent :: absent :: absent :: absent :: absent :: absent :: ⟨0, 1, some [.us 32 (ys.map Ent.enc)]⟩ :: List.replicate 10 absent⟩
    refine ALoop.mk (fun m s => ∃ (i : Nat) (c : Cel), i ≤ ys.length ∧ m = ys.length - i ∧ (ys.take i).foldl cellDo cel0 = c ∧ s = S2 c i)
      ⟨_, _, Weak.nrm [false, false, false, false, false, false, true, false, false, false, true, false, false, false, false, false, false, false, false, false, false, false, false, false, false, false, false, false, false, false, false, false, false, false, false, false, true, true, true] [(6, 6), (10, 10), (7, 36)] rfl rfl rfl, 0, cel0, Nat.zero_le _, rfl, rfl, rfl⟩ ?_
    rintro m s ⟨i, c, hi, rfl, hc, hs⟩
    by_cases hin : i = ys.length
    · subst hin
      rw [List.take_length] at hc
      rw [hc]
      subst hs
      refine Split.mk fun t h1 => ?_
      cases t
      case true => (exfalso; rw [decide_eq_true_iff] at h1; omega)
      rw [decide_eq_false_iff_not] at h1
      exact Need.mk ⟨[], _, .same, rfl, rfl⟩ trivial
    · have hia : i < ys.length := by omega
      have hft := fold_take cellDo cel0 ys i hia
      rw [hc] at hft
      have hD := impl_CellDo c ys[i]
      subst hs
      refine Split.mk fun t h1 => ?_
      cases t
      case false => (exfalso; rw [decide_eq_false_iff_not] at h1; omega)
      rw [decide_eq_true_iff] at h1
      refine Need.mk (by omega) ?_
      refine Row.mk _ (map_get _ ys i (by omega)) ?_
      refine ACall.mk _ _ hD ?_
      refine Num.mk _ (wrapS (by omega)) ?_
      exact ⟨ys.length - (i + 1), _, by omega, Weak.nrm [false, false, false, false, false, false, true, false, false, false, true, false, false, false, false, false, false, false, false, false, false, false, false, false, false, false, false, false, false, false, false, false, false, false, false, false, true, true, true] [(6, 6), (10, 10), (36, 36)] rfl rfl rfl, i + 1, cellDo c ys[i], by omega, rfl, hft, rfl⟩
  · have hia : i < xs.length := by omega
    have hzl := findE_len (xs.take i) key seq
    rw [hz, List.length_take] at hzl
    have hsn := findE_snoc (xs.take i) xs[i] key seq
    rw [← List.take_succ_eq_append_getElem hia, hz] at hsn
    by_cases hk : xs[i].key = key
    · by_cases hq : xs[i].seq ≤ seq
      · rw [decide_eq_true hk, decide_eq_true hq] at hsn
        subst hs
        refine Split.mk fun t h1 => ?_
        cases t
        case false => (exfalso; rw [decide_eq_false_iff_not] at h1; omega)
        rw [decide_eq_true_iff] at h1
        refine Need.mk (by omega) ?_
        refine Row.mk _ (map_get _ xs i (by omega)) ?_
        refine Split.mk fun t h2 => ?_
        cases t
        case false => (exfalso; rw [bytes_beq, decide_eq_false_iff_not] at h2; exact absurd ‹_› h2)
        rw [bytes_beq, decide_eq_true_iff] at h2
        refine Split.mk fun t h3 => ?_
        cases t
        case false => (exfalso; rw [decide_eq_false_iff_not] at h3; omega)
        rw [decide_eq_true_iff] at h3
        refine Need.mk (appOk (m := 1) (List.length_map ..) rfl (by omega) (by decide)) ?_
        refine Num.mk _ (wrapS (by omega)) ?_
        refine ⟨xs.length - (i + 1), _, by omega, Weak.nrm [false, true, true, false, false, false, true, true, false, false, false, false, false, true, true, true] [(6, 6), (32, 7)] rfl rfl rfl, i + 1, zs ++ [xs[i]], by omega, rfl, hsn, ?_⟩
        exact Eq.trans (b := S (zs ++ [xs[i]]) (i + 1)) (congrArg (fun R => SR R (i + 1)) (by rw [List.map_append]; rfl)) rfl
      · rw [decide_eq_true hk, decide_eq_false hq, Bool.and_false, cond_false, List.append_nil] at hsn
        subst hs
        refine Split.mk fun t h1 => ?_
        cases t
        case false => (exfalso; rw [decide_eq_false_iff_not] at h1; omega)
        rw [decide_eq_true_iff] at h1
        refine Need.mk (by omega) ?_
        refine Row.mk _ (map_get _ xs i (by omega)) ?_
        refine Split.mk fun t h2 => ?_
        cases t
        case false => (exfalso; rw [bytes_beq, decide_eq_false_iff_not] at h2; exact absurd ‹_› h2)
        rw [bytes_beq, decide_eq_true_iff] at h2
        refine Split.mk fun t h3 => ?_
        cases t
        case true => (exfalso; rw [decide_eq_true_iff] at h3; omega)
        rw [decide_eq_false_iff_not] at h3
        refine Num.mk _ (wrapS (by omega)) ?_
        exact ⟨xs.length - (i + 1), _, by omega, Weak.nrm [false, true, true, false, false, false, true, true, false, false, false, false, false, true, true, true] [(6, 6), (7, 7)] rfl rfl rfl, i + 1, zs, by omega, rfl, hsn, rfl⟩
    · rw [decide_eq_false hk, Bool.false_and, cond_false, List.append_nil] at hsn
      subst hs
      refine Split.mk fun t h1 => ?_
      cases t
      case false => (exfalso; rw [decide_eq_false_iff_not] at h1; omega)
      rw [decide_eq_true_iff] at h1
      refine Need.mk (by omega) ?_
      refine Row.mk _ (map_get _ xs i (by omega)) ?_
      refine Split.mk fun t h2 => ?_
      cases t
      case true => (exfalso; rw [bytes_beq, decide_eq_true_iff] at h2; exact absurd h2 ‹_›)
      rw [bytes_beq, decide_eq_false_iff_not] at h2
      refine Num.mk _ (wrapS (by omega)) ?_
      exact ⟨xs.length - (i + 1), _, by omega, Weak.nrm [false, true, true, false, false, false, true, true, false, false, false, false, false, true, true, true] [(6, 6), (7, 7)] rfl rfl rfl, i + 1, zs, by omega, rfl, hsn, rfl⟩
end Go.Proofs.Ytlmdheeammfihaa

namespace Go.Proofs.Ytlmdheeammfihaa
open Go Go.Proofs Ev
set_option maxRecDepth 100000
set_option linter.unusedSimpArgs false
set_option linter.unusedVariables false
theorem laws_wpEnts (a b : List Ent) (ha : a.length ≤ 1048576) : AFn Try.prog 21 [sl (a.map Ent.enc), sl (b.map Ent.enc)] [] (rb (decide (a = b))) [] := by
  refine AFn.introX (E := En 0 md0) (en_ok 0 md0) Try.func21 rfl rfl rfl fun _ _ => ?_
  have fin : ∀ {c : Bool}, c = decide (a = b) → rb c = rb (decide (a = b)) := fun h => by rw [h]
  have hal : (a.map Ent.enc).length = a.length := List.length_map ..
  have hbl : (b.map Ent.enc).length = b.length := List.length_map ..
  refine Split.mk fun t ht => ?_
  cases t
  · have hl : a.length = b.length := Int.ofNat_inj.1 (by simpa using ht)
    refine ALoop.mk (fun n s => ∃ i : Nat, i ≤ a.length ∧ n = a.length - i ∧ a.take i = b.take i ∧
      s = ⟨some (sl (a.map Ent.enc)) :: some (sl (b.map Ent.enc)) :: none :: none :: some (av (.bool false)) :: some (av (.int .i64 i)) :: List.replicate 20 none, List.replicate 26 absent⟩)
      ⟨a.length, _, Weak.nrm [true, true, false, false, true, true] [] rfl rfl rfl, 0, Nat.zero_le _, rfl, rfl, rfl⟩ ?_
    rintro n s ⟨i, hi, rfl, hp, rfl⟩
    refine Split.mk fun t ht => ?_
    cases t
    · have hia : i = a.length := by simp at ht; omega
      refine Need.mk ⟨[], _, .same, fin ?_, rfl⟩ trivial
      subst hia
      rw [List.take_length, hl, List.take_length] at hp
      simp [hp]
    · have hia : i < a.length := by simpa using ht
      refine Need.mk (by omega) ?_
      refine Row.mk _ (map_get _ a i hia) ?_
      refine Need.mk (by omega) ?_
      refine Row.mk _ (map_get _ b i (by omega)) ?_
      refine Split.mk fun t ht2 => ?_
      have ht2 : (!decide (a[i] = b[i]'(by omega))) = t := by rw [← ent_beq]; exact ht2
      cases t
      · refine Need.mk rfl ?_
        refine Num.mk _ (wrapS (by omega)) ?_
        refine ⟨a.length - (i + 1), _, by omega, Weak.nrm [true, true, false, false, true, true] [] rfl rfl rfl, i + 1, by omega, rfl, ?_, rfl⟩
        have : a[i] = b[i]'(by omega) := by simpa using ht2
        rw [List.take_succ_eq_append_getElem hia, List.take_succ_eq_append_getElem (by omega), hp, this]
      · refine Need.mk rfl ?_
        refine Need.mk ⟨[], _, .same, fin ?_, rfl⟩ trivial
        have : a[i] ≠ b[i]'(by omega) := by simpa using ht2
        refine (decide_eq_false fun e => this ?_).symm
        subst e; rfl
  · refine Need.mk ⟨[], _, .same, fin ?_, rfl⟩ trivial
    have : a.length ≠ b.length := by
      intro e; simp [e] at ht
    exact (decide_eq_false fun e => this (by rw [e])).symm
end Go.Proofs.Ytlmdheeammfihaa
