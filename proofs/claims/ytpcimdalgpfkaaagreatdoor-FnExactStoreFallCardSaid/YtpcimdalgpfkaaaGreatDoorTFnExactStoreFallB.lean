/-
  Contracts of functions, part 2.
-/
import Derived.Test.YtpcimdalgpfkaaaGreatDoorTFnExactStoreFall
set_option linter.unusedVariables false
set_option linter.unusedSimpArgs false
namespace Go.Proofs.YtpcimdalgpfkaaaGreatDoor
open Go Go.Proofs Ev
set_option maxRecDepth 100000
set_option maxHeartbeats 40000000
set_option linter.unusedSimpArgs false
set_option linter.unusedVariables false
theorem l6_EntryB (s : ByteArray) (p : Nat) (hs : s.size ≤ 1048576) (w : ByteArray) (z0 z1 z2 z3 z4 a b c d : Int) (hW : AFn Tryz.prog 196 [av (.string s), av (.int .i64 p)] [] (.tup [.one (vs w), .one (vi z0)]) [])
  (h1 : AFn Tryz.prog 174 [av (.string s), av (.int .i64 z0)] [] (.tup [.one (vi a), .one (vi z1)]) []) (h2 : AFn Tryz.prog 174 [av (.string s), av (.int .i64 z1)] [] (.tup [.one (vi b), .one (vi z2)]) [])
  (h3 : AFn Tryz.prog 174 [av (.string s), av (.int .i64 z2)] [] (.tup [.one (vi c), .one (vi z3)]) []) (h4 : AFn Tryz.prog 174 [av (.string s), av (.int .i64 z3)] [] (.tup [.one (vi d), .one (vi z4)]) [])
  (hz : z4 ≤ s.size) (hb : z4 < 0 ∨ d < 0 ∨ (s.size : Int) - z4 < d) :
  AFn Tryz.prog 198 [av (.string s), av (.int .i64 p)] [] (.tup [.agg ent0.enc, .one (vi (-1))]) [] := by
 by_cases hn : z4 < 0
 ·refine AFn.introX (E := En 0 md0) (en_ok 0 md0) Tryz.func198 rfl rfl rfl fun _ _ => ?_
  refine ACall.mk _ _ hW ?_
  refine ACall.mk _ _ h1 ?_
  refine ACall.mk _ _ h2 ?_
  refine ACall.mk _ _ h3 ?_
  refine ACall.mk _ _ h4 ?_
  refine spT (by omega) fun h1 => ?_
  exact Need.mk ⟨[], _, .same, rfl, rfl⟩ trivial
 ·by_cases hd : d < 0
  ·refine AFn.introX (E := En 0 md0) (en_ok 0 md0) Tryz.func198 rfl rfl rfl fun _ _ => ?_
   refine ACall.mk _ _ hW ?_
   refine ACall.mk _ _ h1 ?_
   refine ACall.mk _ _ h2 ?_
   refine ACall.mk _ _ h3 ?_
   refine ACall.mk _ _ h4 ?_
   refine spF (by omega) fun h1 => ?_
   refine spT (by omega) fun h2 => ?_
   exact Need.mk ⟨[], _, .same, rfl, rfl⟩ trivial
  ·have hd2 : (s.size : Int) - z4 < d := by omega
   refine AFn.introX (E := En 0 md0) (en_ok 0 md0) Tryz.func198 rfl rfl rfl fun _ _ => ?_
   refine ACall.mk _ _ hW ?_
   refine ACall.mk _ _ h1 ?_
   refine ACall.mk _ _ h2 ?_
   refine ACall.mk _ _ h3 ?_
   refine ACall.mk _ _ h4 ?_
   refine spF (by omega) fun h1 => ?_
   refine spF (by omega) fun h2 => ?_
   refine Num.mk _ (wrapI (by omega) (by omega)) ?_
   refine spT (by omega) fun h3 => ?_
   exact Need.mk ⟨[], _, .same, rfl, rfl⟩ trivial
theorem l6_EntryG (s : ByteArray) (p : Nat) (hs : s.size ≤ 1048576) (w : ByteArray) (z0 z1 z2 z3 a b c : Int) (z4 d : Nat) (hW : AFn Tryz.prog 196 [av (.string s), av (.int .i64 p)] [] (.tup [.one (vs w), .one (vi z0)]) [])
  (h1 : AFn Tryz.prog 174 [av (.string s), av (.int .i64 z0)] [] (.tup [.one (vi a), .one (vi z1)]) []) (h2 : AFn Tryz.prog 174 [av (.string s), av (.int .i64 z1)] [] (.tup [.one (vi b), .one (vi z2)]) [])
  (h3 : AFn Tryz.prog 174 [av (.string s), av (.int .i64 z2)] [] (.tup [.one (vi c), .one (vi z3)]) []) (h4 : AFn Tryz.prog 174 [av (.string s), av (.int .i64 z3)] [] (.tup [.one (vi d), .one (vi z4)]) [])
  (hz : z4 ≤ s.size) (hb : d ≤ s.size - z4) (e : Ent) (he : e = ⟨w, a, b, s.extract z4 (z4 + d), c⟩) :
  AFn Tryz.prog 198 [av (.string s), av (.int .i64 p)] [] (.tup [.agg e.enc, .one (vi ((z4 + d : Nat) : Int))]) [] := by
 subst he
 refine AFn.introX (E := En 0 md0) (en_ok 0 md0) Tryz.func198 rfl rfl rfl fun _ _ => ?_
 refine ACall.mk _ _ hW ?_
 refine ACall.mk _ _ h1 ?_
 refine ACall.mk _ _ h2 ?_
 refine ACall.mk _ _ h3 ?_
 refine ACall.mk _ _ h4 ?_
 refine sp0 ?_
 refine sp0 ?_
 refine Num.mk _ (wrapI (by omega) (by omega)) ?_
 refine spF (by omega) fun h3 => ?_
 refine Num.mk _ (wrapI (by omega) (by omega)) ?_
 refine nd ?_
 refine Num.mk _ (wrapI (by omega) (by omega)) ?_
 exact Need.mk ⟨[], _, .same, rfl, rfl⟩ trivial
theorem l6_Num (s : ByteArray) (z : Int) (hs : s.size ≤ 1048576) (hz : z ≤ s.size) : AFn Tryz.prog 174 [av (.string s), av (.int .i64 z)] [] (.tup [.one (vi (numA s z).1), .one (vi (numA s z).2)]) [] := by
 by_cases h : z < 0
 ·rw [numA_neg h]
  exact l6_NumB s z h
 ·have hr := wordA_rng s z.toNat (by omega)
  have e1 : ((z.toNat : Nat) : Int) = z := by omega
  cases hn : numS (tb (wordA s z.toNat).1) with
  | none =>
   have h1 := l6_NumN s z.toNat hs (by omega) (wordA s z.toNat).1 (wordA s z.toNat).2 rfl (by omega) hn
   rw [e1] at h1
   have h2 : numA s z = (0, -1) := by unfold numA; rw [if_neg h, hn]
   rw [h2]
   exact h1
  | some n =>
   have h1 := l6_NumY s z.toNat hs (by omega) (wordA s z.toNat).1 (wordA s z.toNat).2 n rfl (by omega) hn
   rw [e1] at h1
   have h2 : numA s z = (n, (wordA s z.toNat).2) := by unfold numA; rw [if_neg h, hn]
   rw [h2]
   exact h1
theorem l6_Entry (s : ByteArray) (p : Nat) (hs : s.size ≤ 1048576) (hp : p ≤ s.size) : AFn Tryz.prog 198 [av (.string s), av (.int .i64 p)] [] (.tup [.agg (entA s p).1.enc, .one (vi (entA s p).2)]) [] := by
 have hW := l6_Word s p hs hp (wordA s p).1 (wordA s p).2 rfl
 have r0 := wordA_rng s p hp
 have h1 := l6_Num s (wordA s p).2 hs (by omega)
 have r1 := numA_rng s (wordA s p).2 (by omega)
 have h2 := l6_Num s (numA s (wordA s p).2).2 hs (by omega)
 have r2 := numA_rng s (numA s (wordA s p).2).2 (by omega)
 have h3 := l6_Num s (numA s (numA s (wordA s p).2).2).2 hs (by omega)
 have r3 := numA_rng s (numA s (numA s (wordA s p).2).2).2 (by omega)
 have h4 := l6_Num s (numA s (numA s (numA s (wordA s p).2).2).2).2 hs (by omega)
 have r4 := numA_rng s (numA s (numA s (numA s (wordA s p).2).2).2).2 (by omega)
 unfold entA
 generalize wordA s p = W at *
 generalize numA s W.2 = A at *
 generalize numA s A.2 = B at *
 generalize numA s B.2 = C at *
 generalize numA s C.2 = D at *
 by_cases hc : D.2 < 0 ∨ D.1 < 0 ∨ (s.size : Int) - D.2 < D.1
 ·rw [if_pos hc]
  exact l6_EntryB s p hs _ _ _ _ _ _ _ _ _ _ hW h1 h2 h3 h4 (by omega) hc
 ·rw [if_neg hc]
  have e1 : ((D.2.toNat : Nat) : Int) = D.2 := by omega
  have e2 : ((D.1.toNat : Nat) : Int) = D.1 := by omega
  have h4' : AFn Tryz.prog 174 [av (.string s), av (.int .i64 C.2)] [] (.tup [.one (vi (D.1.toNat : Nat)), .one (vi (D.2.toNat : Nat))]) [] := by
   rw [e1, e2]; exact h4
  have h5 := l6_EntryG s p hs _ _ _ _ _ _ _ _ D.2.toNat D.1.toNat hW h1 h2 h3 h4' (by omega) (by omega) _ rfl
  have e3 : ((D.2.toNat + D.1.toNat : Nat) : Int) = D.2 + D.1 := by omega
  have e4 : D.2.toNat + D.1.toNat = (D.2 + D.1).toNat := by omega
  rw [e3, e4] at h5
  exact h5
theorem entA_rng (s : ByteArray) (p : Nat) (hp : p ≤ s.size) : -1 ≤ (entA s p).2 ∧ (entA s p).2 ≤ s.size := by
 cases h : RS.ent ((tb s).drop p) with
 | none => rw [entA_no hp h]; exact ⟨Int.le_refl _, by show (-1 : Int) ≤ s.size; omega⟩
 | some q =>
  obtain ⟨p', h1, h2, h3, h4⟩ := entA_some (e := q.1) (r := q.2) hp h
  rw [h4]
  exact ⟨by show (-1 : Int) ≤ p'; omega, by show (p' : Int) ≤ s.size; omega⟩
theorem l6_Body (s : ByteArray) (hs : s.size ≤ 1048576) : AFn Tryz.prog 175 [av (.string s)] [] (.one (.us 83 ((bodyA s).map Ent.enc))) [] := by
 refine AFn.introX (E := En 0 md0) (en_ok 0 md0) Tryz.func175 rfl rfl rfl fun _ _ => ?_
 let S : Int → List Ent → St := fun z out => ⟨some (av (.string s)) :: none :: none :: some (.one (.ref 3 0 (.cell 0))) :: some (av (.int .i64 z)) :: List.replicate 27 none, absent :: absent :: absent :: ⟨0, 1, some [.us 83 (out.map Ent.enc)]⟩ :: List.replicate 28 absent⟩
 refine ALoop.mk (fun m s' => ∃ (z : Int) (out : List Ent), (-1 ≤ z ∧ z ≤ s.size) ∧ out.length + m = 13 ∧ bodyN s m z out = bodyA s ∧ s' = S z out)
  ⟨_, _, Weak.trans (Weak.nrm [true, false, false, true, true] [(6, 3)] rfl rfl rfl) Weak.one, 0, [], by omega, rfl, rfl, rfl⟩ ?_
 rintro m st ⟨z, out, hz, hl, hB, hst⟩
 have hol : (out.map Ent.enc).length = out.length := List.length_map ..
 by_cases hz0 : z < 0
 ·have hres : RV.one (.us 83 (out.map Ent.enc)) = RV.one (.us 83 ((bodyA s).map Ent.enc)) := by
   rw [← hB, bodyN_neg _ _ _ hz0]
  subst hst
  refine spF (by omega) fun h1 => ?_
  exact Need.mk ⟨[], _, .same, hres, rfl⟩ trivial
 ·by_cases hz1 : (s.size : Int) ≤ z
  ·have hres : RV.one (.us 83 (out.map Ent.enc)) = RV.one (.us 83 ((bodyA s).map Ent.enc)) := by
    rw [← hB]
    cases m with
    | zero => rfl
    | succ m => rw [bodyN, if_pos (.inr hz1)]
   subst hst
   refine spT (by omega) fun h1 => ?_
   refine spF (by omega) fun h2 => ?_
   exact Need.mk ⟨[], _, .same, hres, rfl⟩ trivial
  ·cases m with
   | zero =>
    have hres : RV.one (.us 83 (out.map Ent.enc)) = RV.one (.us 83 ((bodyA s).map Ent.enc)) := by
     rw [← hB, bodyN]
    subst hst
    refine spT (by omega) fun h1 => ?_
    refine spT (by omega) fun h2 => ?_
    refine spF (by omega) fun h3 => ?_
    exact Need.mk ⟨[], _, .same, hres, rfl⟩ trivial
   | succ m =>
    rw [bodyN, if_neg (by omega)] at hB
    have hE := l6_Entry s z.toNat hs (by omega)
    have hr := entA_rng s z.toNat (by omega)
    have e1 : ((z.toNat : Nat) : Int) = z := by omega
    rw [e1] at hE
    have hex : ∃ q, entA s z.toNat = q := ⟨_, rfl⟩
    obtain ⟨⟨e, z2⟩, hq⟩ := hex
    rw [hq] at hE hr hB
    have hE2 : AFn Tryz.prog 198 [av (.string s), av (.int .i64 z)] [] (.tup [.agg e.enc, .one (vi z2)]) [] := hE
    have hol2 : (out ++ [e]).length = out.length + 1 := by simp
    have hB2 : bodyN s m z2 (out ++ [e]) = bodyA s := hB
    have hr2 : -1 ≤ z2 ∧ z2 ≤ s.size := hr
    have happ : out.map Ent.enc ++ [e.enc] = (out ++ [e]).map Ent.enc := by rw [List.map_append]; rfl
    clear hE hB hr hq
    subst hst
    refine spT (by omega) fun h1 => ?_
    refine spT (by omega) fun h2 => ?_
    refine spT (by omega) fun h3 => ?_
    refine ACall.mk _ _ hE2 ?_
    refine apq (A' := _) (B' := [e.enc]) rfl rfl ?_
    exact ⟨_, _, by omega, Weak.nrm [true, false, false, true, true] [(30, 3)] rfl rfl rfl, z2, out ++ [e], hr2, by omega, hB2, congrArg (fun R => (⟨some (av (.string s)) :: none :: none :: some (.one (.ref 3 0 (.cell 0))) :: some (av (.int .i64 z2)) :: List.replicate 27 none, absent :: absent :: absent :: ⟨0, 1, some [.us 83 R]⟩ :: List.replicate 28 absent⟩ : St)) happ⟩
theorem impl_KeyOk (s : ByteArray) (hs : s.size ≤ maxLen) : AFn Tryz.prog 178 [av (.string s)] [] (rb (keyOk s)) [] := by
 refine AFn.introX (E := En 0 md0) (en_ok 0 md0) Tryz.func178 rfl rfl rfl fun _ _ => ?_
 unfold maxLen at hs
 have fin : ∀ {c : Bool}, c = keyOk s → rb c = rb (keyOk s) := fun h => by rw [h]
 refine Split.mk fun t ht => ?_
 cases t
 case true => exact Need.mk ⟨[], _, .same, fin (keyOk_len (by simp at ht; omega)).symm, rfl⟩ trivial
 refine Split.mk fun t ht2 => ?_
 cases t
 case true => exact Need.mk ⟨[], _, .same, fin (keyOk_len (by simp at ht2; omega)).symm, rfl⟩ trivial
 have hsz : 1 ≤ s.size ∧ s.size ≤ 8 := by simp at ht ht2; omega
 refine ALoop.mk (fun m s' => ∃ i : Nat, i ≤ s.size ∧ m = s.size - i ∧ (∀ j : Nat, j < i → okc (byteAt s j) = true) ∧
   s' = ⟨some (av (.string s)) :: none :: some (av (.bool false)) :: none :: none :: none :: none :: none :: none :: none :: none :: none :: none :: none :: some (av (.int .i64 s.size)) :: some (av (.int .i64 i)) :: List.replicate 25 none, List.replicate 41 absent⟩)
  ⟨s.size, _, Weak.nrm [true, false, true, false, false, false, false, false, false, false, false, false, false, false, true, true] [] rfl rfl rfl, 0, Nat.zero_le _, rfl, by intro j hj; omega, rfl⟩ ?_
 rintro m s' ⟨i, hi, rfl, hall, rfl⟩
 refine Split.mk fun t ht => ?_
 cases t
 ·have hin : i = s.size := by simp at ht; omega
  subst hin
  exact Need.mk ⟨[], _, .same, fin (by rw [keyOk_all hall]; simp [hsz]), rfl⟩ trivial
 have hia : i < s.size := by simpa using ht
 have more : okc (byteAt s i) = true → ∀ j : Nat, j < i + 1 → okc (byteAt s j) = true := fun hc j hj => by
  by_cases hji : j = i
  ·rw [hji]; exact hc
  ·exact hall j (by omega)
 refine Need.mk ⟨by omega, by omega⟩ ?_
 refine Split.mk fun t h1 => ?_
 cases t
 ·refine Split.mk fun t h3 => ?_
  cases t
  ·refine Split.mk fun t h5 => ?_
   cases t
   ·have hc : okc (byteAt s i) = false := by simp at h1 h3 h5; simp [okc]; omega
    exact Need.mk ⟨[], _, .same, fin (keyOk_bad hia hc).symm, rfl⟩ trivial
   ·have hc : okc (byteAt s i) = true := by simp at h1 h3 h5; simp [okc]; omega
    refine Num.mk _ (wrapS (by omega)) ?_
    exact ⟨s.size - (i + 1), _, by omega, Weak.nrm [true, false, true, false, false, false, false, false, false, false, false, false, false, false, true, true] [] rfl rfl rfl, i + 1, by omega, rfl, more hc, rfl⟩
  ·refine Split.mk fun t h4 => ?_
   cases t
   ·refine Split.mk fun t h5 => ?_
    cases t
    ·have hc : okc (byteAt s i) = false := by simp at h1 h3 h4 h5; simp [okc]; omega
     exact Need.mk ⟨[], _, .same, fin (keyOk_bad hia hc).symm, rfl⟩ trivial
    ·have hc : okc (byteAt s i) = true := by simp at h1 h3 h4 h5; simp [okc]; omega
     refine Num.mk _ (wrapS (by omega)) ?_
     exact ⟨s.size - (i + 1), _, by omega, Weak.nrm [true, false, true, false, false, false, false, false, false, false, false, false, false, false, true, true] [] rfl rfl rfl, i + 1, by omega, rfl, more hc, rfl⟩
   ·have hc : okc (byteAt s i) = true := by simp at h1 h3 h4; simp [okc]; omega
    refine Num.mk _ (wrapS (by omega)) ?_
    exact ⟨s.size - (i + 1), _, by omega, Weak.nrm [true, false, true, false, false, false, false, false, false, false, false, false, false, false, true, true] [] rfl rfl rfl, i + 1, by omega, rfl, more hc, rfl⟩
 ·refine Split.mk fun t h2 => ?_
  cases t
  ·refine Split.mk fun t h3 => ?_
   cases t
   ·refine Split.mk fun t h5 => ?_
    cases t
    ·have hc : okc (byteAt s i) = false := by simp at h1 h2 h3 h5; simp [okc]; omega
     exact Need.mk ⟨[], _, .same, fin (keyOk_bad hia hc).symm, rfl⟩ trivial
    ·have hc : okc (byteAt s i) = true := by simp at h1 h2 h3 h5; simp [okc]; omega
     refine Num.mk _ (wrapS (by omega)) ?_
     exact ⟨s.size - (i + 1), _, by omega, Weak.nrm [true, false, true, false, false, false, false, false, false, false, false, false, false, false, true, true] [] rfl rfl rfl, i + 1, by omega, rfl, more hc, rfl⟩
   ·refine Split.mk fun t h4 => ?_
    cases t
    ·refine Split.mk fun t h5 => ?_
     cases t
     ·have hc : okc (byteAt s i) = false := by simp at h1 h2 h3 h4 h5; simp [okc]; omega
      exact Need.mk ⟨[], _, .same, fin (keyOk_bad hia hc).symm, rfl⟩ trivial
     ·have hc : okc (byteAt s i) = true := by simp at h1 h2 h3 h4 h5; simp [okc]; omega
      refine Num.mk _ (wrapS (by omega)) ?_
      exact ⟨s.size - (i + 1), _, by omega, Weak.nrm [true, false, true, false, false, false, false, false, false, false, false, false, false, false, true, true] [] rfl rfl rfl, i + 1, by omega, rfl, more hc, rfl⟩
    ·have hc : okc (byteAt s i) = true := by simp at h1 h2 h3 h4; simp [okc]; omega
     refine Num.mk _ (wrapS (by omega)) ?_
     exact ⟨s.size - (i + 1), _, by omega, Weak.nrm [true, false, true, false, false, false, false, false, false, false, false, false, false, false, true, true] [] rfl rfl rfl, i + 1, by omega, rfl, more hc, rfl⟩
  ·have hc : okc (byteAt s i) = true := by simp at h1 h2; simp [okc]; omega
   refine Num.mk _ (wrapS (by omega)) ?_
   exact ⟨s.size - (i + 1), _, by omega, Weak.nrm [true, false, true, false, false, false, false, false, false, false, false, false, false, false, true, true] [] rfl rfl rfl, i + 1, by omega, rfl, more hc, rfl⟩
theorem spec_KeyOk (s : ByteArray) (hs : s.size ≤ maxLen) : AFn Tryz.prog 186 [av (.string s)] [] (rb (keyOk s)) [] := by
 refine AFn.introX (E := En 0 md0) (en_ok 0 md0) Tryz.func186 rfl rfl rfl fun _ _ => ?_
 unfold maxLen at hs
 have fin : ∀ {c : Bool}, c = keyOk s → rb c = rb (keyOk s) := fun h => by rw [h]
 refine ALoop.mk (fun m s' => ∃ i : Nat, i ≤ s.size ∧ m = s.size - i ∧ (∀ j : Nat, j < i → okc (byteAt s j) = true) ∧
   s' = ⟨some (av (.string s)) :: none :: some (av (.bool false)) :: some (av (.int .i64 i)) :: List.replicate 36 none, List.replicate 40 absent⟩)
  ⟨s.size, _, Weak.nrm [true, false, true, true] [] rfl rfl rfl, 0, Nat.zero_le _, rfl, by intro j hj; omega, rfl⟩ ?_
 rintro m s' ⟨i, hi, rfl, hall, rfl⟩
 refine Split.mk fun t ht => ?_
 cases t
 ·have hin : i = s.size := by simp at ht; omega
  subst hin
  refine Split.mk fun t h1 => ?_
  cases t
  ·exact Need.mk ⟨[], _, .same, fin (by rw [keyOk_all hall]; simp at h1; simp; omega), rfl⟩ trivial
  ·refine Split.mk fun t h2 => ?_
   cases t
   ·exact Need.mk ⟨[], _, .same, fin (by rw [keyOk_all hall]; simp at h1 h2; simp; omega), rfl⟩ trivial
   ·exact Need.mk ⟨[], _, .same, fin (by rw [keyOk_all hall]; simp at h1 h2; simp; omega), rfl⟩ trivial
 have hia : i < s.size := by simpa using ht
 have more : okc (byteAt s i) = true → ∀ j : Nat, j < i + 1 → okc (byteAt s j) = true := fun hc j hj => by
  by_cases hji : j = i
  ·rw [hji]; exact hc
  ·exact hall j (by omega)
 refine Need.mk ⟨by omega, by omega⟩ ?_
 refine Split.mk fun t h1 => ?_
 cases t
 ·refine Need.mk ⟨by omega, by omega⟩ ?_
  refine Split.mk fun t h2 => ?_
  cases t
  ·have hc : okc (byteAt s i) = true := by simp at h1 h2; simp [okc]; omega
   refine Num.mk _ (wrapS (by omega)) ?_
   exact ⟨s.size - (i + 1), _, by omega, Weak.nrm [true, false, true, true] [] rfl rfl rfl, i + 1, by omega, rfl, more hc, rfl⟩
  ·refine Need.mk ⟨by omega, by omega⟩ ?_
   refine Split.mk fun t h3 => ?_
   cases t
   ·refine Need.mk ⟨by omega, by omega⟩ ?_
    refine Split.mk fun t h4 => ?_
    cases t
    ·have hc : okc (byteAt s i) = true := by simp at h1 h2 h3 h4; simp [okc]; omega
     refine Num.mk _ (wrapS (by omega)) ?_
     exact ⟨s.size - (i + 1), _, by omega, Weak.nrm [true, false, true, true] [] rfl rfl rfl, i + 1, by omega, rfl, more hc, rfl⟩
    ·have hc : okc (byteAt s i) = false := by simp at h1 h2 h3 h4; simp [okc]; omega
     exact Need.mk ⟨[], _, .same, fin (keyOk_bad hia hc).symm, rfl⟩ trivial
   ·have hc : okc (byteAt s i) = false := by simp at h1 h2 h3; simp [okc]; omega
    exact Need.mk ⟨[], _, .same, fin (keyOk_bad hia hc).symm, rfl⟩ trivial
 ·refine Need.mk ⟨by omega, by omega⟩ ?_
  refine Split.mk fun t h3 => ?_
  cases t
  ·refine Need.mk ⟨by omega, by omega⟩ ?_
   refine Split.mk fun t h4 => ?_
   cases t
   ·have hc : okc (byteAt s i) = true := by simp at h1 h3 h4; simp [okc]; omega
    refine Num.mk _ (wrapS (by omega)) ?_
    exact ⟨s.size - (i + 1), _, by omega, Weak.nrm [true, false, true, true] [] rfl rfl rfl, i + 1, by omega, rfl, more hc, rfl⟩
   ·have hc : okc (byteAt s i) = false := by simp at h1 h3 h4; simp [okc]; omega
    exact Need.mk ⟨[], _, .same, fin (keyOk_bad hia hc).symm, rfl⟩ trivial
  ·have hc : okc (byteAt s i) = false := by simp at h1 h3; simp [okc]; omega
   exact Need.mk ⟨[], _, .same, fin (keyOk_bad hia hc).symm, rfl⟩ trivial
theorem impl_EntryLess (a b : Ent) : AFn Tryz.prog 140 [.agg (a.enc.map .c), .agg (b.enc.map .c)] [] (rb (eLess a b)) [] := by
 refine AFn.introX (E := En 0 md0) (en_ok 0 md0) Tryz.func140 rfl rfl rfl fun _ _ => ?_
 have fin : ∀ {c : Bool}, c = eLess a b → rb c = rb (eLess a b) := fun h => by rw [h]
 refine Split.mk fun t ht => ?_
 rw [bytes_beq] at ht
 cases t
 ·have he : a.key = b.key := by simpa using ht
  refine Split.mk fun t ht2 => ?_
  exact Need.mk ⟨[], _, .same, fin (by rw [← ht2]; simp [eLess, he, slt_irr]), rfl⟩ trivial
 ·have he : a.key ≠ b.key := by simpa using ht
  refine Split.mk fun t ht2 => ?_
  exact Need.mk ⟨[], _, .same, fin (by rw [← ht2]; simp [eLess, he]), rfl⟩ trivial
theorem spec_EntryLess (a b : Ent) : AFn Tryz.prog 153 [.agg (a.enc.map .c), .agg (b.enc.map .c)] [] (rb (eLess a b)) [] := by
 refine AFn.introX (E := En 0 md0) (en_ok 0 md0) Tryz.func153 rfl rfl rfl fun _ _ => ?_
 have fin : ∀ {c : Bool}, c = eLess a b → rb c = rb (eLess a b) := fun h => by rw [h]
 refine Split.mk fun t ht => ?_
 have ht : slt a.key b.key = t := ht
 cases t
 ·refine Split.mk fun t ht2 => ?_
  rw [bytes_beq] at ht2
  cases t
  ·exact Need.mk ⟨[], _, .same, fin (by simp at ht2; simp [eLess, ht, ht2]), rfl⟩ trivial
  ·refine Split.mk fun t ht3 => ?_
   exact Need.mk ⟨[], _, .same, fin (by rw [← ht3]; simp at ht2; simp [eLess, ht2, slt_irr]), rfl⟩ trivial
 ·exact Need.mk ⟨[], _, .same, fin (by simp [eLess, ht]), rfl⟩ trivial
theorem spec_l3Sum (n : Int) : AFn Tryz.prog 187 [av (.int .i64 n)] [] (rb (sumOk n)) [] := by
 refine AFn.introX (E := En 0 md0) (en_ok 0 md0) Tryz.func187 rfl rfl rfl fun _ _ => ?_
 have fin : ∀ {c : Bool}, c = sumOk n → rb c = rb (sumOk n) := fun h => by rw [h]
 refine Split.mk fun t h1 => ?_
 cases t
 ·exact Need.mk ⟨[], _, .same, fin (by simp at h1; simp [sumOk]; omega), rfl⟩ trivial
 ·refine Split.mk fun t h2 => ?_
  cases t
  ·exact Need.mk ⟨[], _, .same, fin (by simp at h1 h2; simp [sumOk]; omega), rfl⟩ trivial
  ·exact Need.mk ⟨[], _, .same, fin (by simp at h1 h2; simp [sumOk]; omega), rfl⟩ trivial
theorem impl_EntryOk (e : Ent) (he : e.Ok) : AFn Tryz.prog 139 [.agg (e.enc.map .c)] [] (rb (entOk e)) [] := by
 refine AFn.introX (E := En 0 md0) (en_ok 0 md0) Tryz.func139 rfl rfl rfl fun _ _ => ?_
 have fin : ∀ {c : Bool}, c = entOk e → rb c = rb (entOk e) := fun h => by rw [h]
 refine ACall.mk _ _ (impl_KeyOk e.key he.1) ?_
 refine Split.mk fun t h_k => ?_
 cases t
 ·have f_k : keyOk e.key = false := by exact h_k
  exact Need.mk ⟨[], _, .same, fin (by simp [entOk, f_k]), rfl⟩ trivial
 ·refine Split.mk fun t h_s1 => ?_
  cases t
  ·refine Split.mk fun t h_s2 => ?_
   cases t
   ·refine Split.mk fun t h_tx => ?_
    cases t
    ·refine Split.mk fun t h_n1 => ?_
     cases t
     ·refine Split.mk fun t h_n2 => ?_
      cases t
      ·refine Split.mk fun t h_c1 => ?_
       cases t
       ·refine Split.mk fun t h_c2 => ?_
        cases t
        ·refine Split.mk fun t h_c3 => ?_
         cases t
         ·have f_k : keyOk e.key = true := by exact h_k
          have f_s1 : decide (1 ≤ e.seq) = true := by simp at h_s1; simp; omega
          have f_s2 : decide (e.seq ≤ 100000) = true := by simp at h_s2; simp; omega
          have f_tx : decide (e.text.size ≤ 60) = true := by simp at h_tx; simp; omega
          have f_c1 : decide (e.kind = 1) = false := by simp at h_c1; simp; omega
          have f_c2 : decide (e.kind = 2) = false := by simp at h_c2; simp; omega
          have f_c3 : decide (e.kind = 3) = false := by simp at h_c3; simp; omega
          have f_su : sumOk e.n = true := by simp at h_n1 h_n2; simp [sumOk]; omega
          exact Need.mk ⟨[], _, .same, fin (by simp [entOk, f_k, f_s1, f_s2, f_tx, f_c1, f_c2, f_c3, f_su]), rfl⟩ trivial
         ·refine Split.mk fun t h_t => ?_
          rw [bytes_beq] at h_t
          cases t
          ·have f_k : keyOk e.key = true := by exact h_k
           have f_s1 : decide (1 ≤ e.seq) = true := by simp at h_s1; simp; omega
           have f_s2 : decide (e.seq ≤ 100000) = true := by simp at h_s2; simp; omega
           have f_tx : decide (e.text.size ≤ 60) = true := by simp at h_tx; simp; omega
           have f_c1 : decide (e.kind = 1) = false := by simp at h_c1; simp; omega
           have f_c2 : decide (e.kind = 2) = false := by simp at h_c2; simp; omega
           have f_c3 : decide (e.kind = 3) = true := by simp at h_c3; simp; omega
           have f_t : decide (e.text = ⟨#[]⟩) = false := by exact h_t
           have f_su : sumOk e.n = true := by simp at h_n1 h_n2; simp [sumOk]; omega
           exact Need.mk ⟨[], _, .same, fin (by simp [entOk, f_k, f_s1, f_s2, f_tx, f_c1, f_c2, f_c3, f_t, f_su]), rfl⟩ trivial
          ·have f_k : keyOk e.key = true := by exact h_k
           have f_s1 : decide (1 ≤ e.seq) = true := by simp at h_s1; simp; omega
           have f_s2 : decide (e.seq ≤ 100000) = true := by simp at h_s2; simp; omega
           have f_tx : decide (e.text.size ≤ 60) = true := by simp at h_tx; simp; omega
           have f_c1 : decide (e.kind = 1) = false := by simp at h_c1; simp; omega
           have f_c2 : decide (e.kind = 2) = false := by simp at h_c2; simp; omega
           have f_c3 : decide (e.kind = 3) = true := by simp at h_c3; simp; omega
           have f_t : decide (e.text = ⟨#[]⟩) = true := by exact h_t
           have f_su : sumOk e.n = true := by simp at h_n1 h_n2; simp [sumOk]; omega
           exact Need.mk ⟨[], _, .same, fin (by simp [entOk, f_k, f_s1, f_s2, f_tx, f_c1, f_c2, f_c3, f_t, f_su]), rfl⟩ trivial
        ·refine Split.mk fun t h_t => ?_
         rw [bytes_beq] at h_t
         cases t
         ·have f_k : keyOk e.key = true := by exact h_k
          have f_s1 : decide (1 ≤ e.seq) = true := by simp at h_s1; simp; omega
          have f_s2 : decide (e.seq ≤ 100000) = true := by simp at h_s2; simp; omega
          have f_tx : decide (e.text.size ≤ 60) = true := by simp at h_tx; simp; omega
          have f_c1 : decide (e.kind = 1) = false := by simp at h_c1; simp; omega
          have f_c2 : decide (e.kind = 2) = true := by simp at h_c2; simp; omega
          have f_t : decide (e.text = ⟨#[]⟩) = false := by exact h_t
          have f_su : sumOk e.n = true := by simp at h_n1 h_n2; simp [sumOk]; omega
          exact Need.mk ⟨[], _, .same, fin (by simp [entOk, f_k, f_s1, f_s2, f_tx, f_c1, f_c2, f_t, f_su]), rfl⟩ trivial
         ·refine Split.mk fun t h_z => ?_
          cases t
          ·have f_k : keyOk e.key = true := by exact h_k
           have f_s1 : decide (1 ≤ e.seq) = true := by simp at h_s1; simp; omega
           have f_s2 : decide (e.seq ≤ 100000) = true := by simp at h_s2; simp; omega
           have f_tx : decide (e.text.size ≤ 60) = true := by simp at h_tx; simp; omega
           have f_c1 : decide (e.kind = 1) = false := by simp at h_c1; simp; omega
           have f_c2 : decide (e.kind = 2) = true := by simp at h_c2; simp; omega
           have f_t : decide (e.text = ⟨#[]⟩) = true := by exact h_t
           have f_z : decide (e.n = 0) = false := by simp at h_z; simp; omega
           have f_c3 : decide (e.kind = 3) = false := by simp at h_c2; simp; omega
           have f_su : sumOk e.n = true := by simp at h_n1 h_n2; simp [sumOk]; omega
           exact Need.mk ⟨[], _, .same, fin (by simp [entOk, f_k, f_s1, f_s2, f_tx, f_c1, f_c2, f_t, f_z, f_c3, f_su]), rfl⟩ trivial
          ·have f_k : keyOk e.key = true := by exact h_k
           have f_s1 : decide (1 ≤ e.seq) = true := by simp at h_s1; simp; omega
           have f_s2 : decide (e.seq ≤ 100000) = true := by simp at h_s2; simp; omega
           have f_tx : decide (e.text.size ≤ 60) = true := by simp at h_tx; simp; omega
           have f_c1 : decide (e.kind = 1) = false := by simp at h_c1; simp; omega
           have f_c2 : decide (e.kind = 2) = true := by simp at h_c2; simp; omega
           have f_t : decide (e.text = ⟨#[]⟩) = true := by exact h_t
           have f_z : decide (e.n = 0) = true := by simp at h_z; simp; omega
           have f_su : sumOk e.n = true := by simp at h_n1 h_n2; simp [sumOk]; omega
           exact Need.mk ⟨[], _, .same, fin (by simp [entOk, f_k, f_s1, f_s2, f_tx, f_c1, f_c2, f_t, f_z, f_su]), rfl⟩ trivial
       ·have f_k : keyOk e.key = true := by exact h_k
        have f_s1 : decide (1 ≤ e.seq) = true := by simp at h_s1; simp; omega
        have f_s2 : decide (e.seq ≤ 100000) = true := by simp at h_s2; simp; omega
        have f_tx : decide (e.text.size ≤ 60) = true := by simp at h_tx; simp; omega
        have f_c1 : decide (e.kind = 1) = true := by simp at h_c1; simp; omega
        have f_su : sumOk e.n = true := by simp at h_n1 h_n2; simp [sumOk]; omega
        exact Need.mk ⟨[], _, .same, fin (by simp [entOk, f_k, f_s1, f_s2, f_tx, f_c1, f_su]), rfl⟩ trivial
      ·have f_k : keyOk e.key = true := by exact h_k
       have f_s1 : decide (1 ≤ e.seq) = true := by simp at h_s1; simp; omega
       have f_s2 : decide (e.seq ≤ 100000) = true := by simp at h_s2; simp; omega
       have f_tx : decide (e.text.size ≤ 60) = true := by simp at h_tx; simp; omega
       have f_su : sumOk e.n = false := by simp at h_n1 h_n2; simp [sumOk]; omega
       exact Need.mk ⟨[], _, .same, fin (by simp [entOk, f_k, f_s1, f_s2, f_tx, f_su]), rfl⟩ trivial
     ·have f_k : keyOk e.key = true := by exact h_k
      have f_s1 : decide (1 ≤ e.seq) = true := by simp at h_s1; simp; omega
      have f_s2 : decide (e.seq ≤ 100000) = true := by simp at h_s2; simp; omega
      have f_tx : decide (e.text.size ≤ 60) = true := by simp at h_tx; simp; omega
      have f_su : sumOk e.n = false := by simp at h_n1; simp [sumOk]; omega
      exact Need.mk ⟨[], _, .same, fin (by simp [entOk, f_k, f_s1, f_s2, f_tx, f_su]), rfl⟩ trivial
    ·have f_k : keyOk e.key = true := by exact h_k
     have f_s1 : decide (1 ≤ e.seq) = true := by simp at h_s1; simp; omega
     have f_s2 : decide (e.seq ≤ 100000) = true := by simp at h_s2; simp; omega
     have f_tx : decide (e.text.size ≤ 60) = false := by simp at h_tx; simp; omega
     exact Need.mk ⟨[], _, .same, fin (by simp [entOk, f_k, f_s1, f_s2, f_tx]), rfl⟩ trivial
   ·have f_k : keyOk e.key = true := by exact h_k
    have f_s1 : decide (1 ≤ e.seq) = true := by simp at h_s1; simp; omega
    have f_s2 : decide (e.seq ≤ 100000) = false := by simp at h_s2; simp; omega
    exact Need.mk ⟨[], _, .same, fin (by simp [entOk, f_k, f_s1, f_s2]), rfl⟩ trivial
  ·have f_k : keyOk e.key = true := by exact h_k
   have f_s1 : decide (1 ≤ e.seq) = false := by simp at h_s1; simp; omega
   exact Need.mk ⟨[], _, .same, fin (by simp [entOk, f_k, f_s1]), rfl⟩ trivial
theorem spec_EntryOk (e : Ent) (he : e.Ok) : AFn Tryz.prog 152 [.agg (e.enc.map .c)] [] (rb (entOk e)) [] := by
 refine AFn.introX (E := En 0 md0) (en_ok 0 md0) Tryz.func152 rfl rfl rfl fun _ _ => ?_
 have fin : ∀ {c : Bool}, c = entOk e → rb c = rb (entOk e) := fun h => by rw [h]
 refine ACall.mk _ _ (spec_KeyOk e.key he.1) ?_
 refine Split.mk fun t h_k => ?_
 cases t
 ·have f_k : keyOk e.key = false := by exact h_k
  exact Need.mk ⟨[], _, .same, fin (by simp [entOk, f_k]), rfl⟩ trivial
 ·refine Split.mk fun t h_s1 => ?_
  cases t
  ·refine Split.mk fun t h_s2 => ?_
   cases t
   ·refine ACall.mk _ _ (spec_l3Sum e.n) ?_
    refine Split.mk fun t h_su => ?_
    cases t
    ·have f_k : keyOk e.key = true := by exact h_k
     have f_s1 : decide (1 ≤ e.seq) = true := by simp at h_s1; simp; omega
     have f_s2 : decide (e.seq ≤ 100000) = true := by simp at h_s2; simp; omega
     have f_su : sumOk e.n = false := by exact h_su
     exact Need.mk ⟨[], _, .same, fin (by simp [entOk, f_k, f_s1, f_s2, f_su]), rfl⟩ trivial
    ·refine Split.mk fun t h_tx => ?_
     cases t
     ·refine Split.mk fun t h_c1 => ?_
      cases t
      ·refine Split.mk fun t h_c2 => ?_
       cases t
       ·refine Split.mk fun t h_c3 => ?_
        cases t
        ·have f_k : keyOk e.key = true := by exact h_k
         have f_s1 : decide (1 ≤ e.seq) = true := by simp at h_s1; simp; omega
         have f_s2 : decide (e.seq ≤ 100000) = true := by simp at h_s2; simp; omega
         have f_su : sumOk e.n = true := by exact h_su
         have f_tx : decide (e.text.size ≤ 60) = true := by simp at h_tx; simp; omega
         have f_c1 : decide (e.kind = 1) = false := by simp at h_c1; simp; omega
         have f_c2 : decide (e.kind = 2) = false := by simp at h_c2; simp; omega
         have f_c3 : decide (e.kind = 3) = false := by simp at h_c3; simp; omega
         exact Need.mk ⟨[], _, .same, fin (by simp [entOk, f_k, f_s1, f_s2, f_su, f_tx, f_c1, f_c2, f_c3]), rfl⟩ trivial
        ·refine Split.mk fun t h_t => ?_
         rw [bytes_beq] at h_t
         cases t
         ·have f_k : keyOk e.key = true := by exact h_k
          have f_s1 : decide (1 ≤ e.seq) = true := by simp at h_s1; simp; omega
          have f_s2 : decide (e.seq ≤ 100000) = true := by simp at h_s2; simp; omega
          have f_su : sumOk e.n = true := by exact h_su
          have f_tx : decide (e.text.size ≤ 60) = true := by simp at h_tx; simp; omega
          have f_c1 : decide (e.kind = 1) = false := by simp at h_c1; simp; omega
          have f_c2 : decide (e.kind = 2) = false := by simp at h_c2; simp; omega
          have f_c3 : decide (e.kind = 3) = true := by simp at h_c3; simp; omega
          have f_t : decide (e.text = ⟨#[]⟩) = false := by exact h_t
          exact Need.mk ⟨[], _, .same, fin (by simp [entOk, f_k, f_s1, f_s2, f_su, f_tx, f_c1, f_c2, f_c3, f_t]), rfl⟩ trivial
         ·have f_k : keyOk e.key = true := by exact h_k
          have f_s1 : decide (1 ≤ e.seq) = true := by simp at h_s1; simp; omega
          have f_s2 : decide (e.seq ≤ 100000) = true := by simp at h_s2; simp; omega
          have f_su : sumOk e.n = true := by exact h_su
          have f_tx : decide (e.text.size ≤ 60) = true := by simp at h_tx; simp; omega
          have f_c1 : decide (e.kind = 1) = false := by simp at h_c1; simp; omega
          have f_c2 : decide (e.kind = 2) = false := by simp at h_c2; simp; omega
          have f_c3 : decide (e.kind = 3) = true := by simp at h_c3; simp; omega
          have f_t : decide (e.text = ⟨#[]⟩) = true := by exact h_t
          exact Need.mk ⟨[], _, .same, fin (by simp [entOk, f_k, f_s1, f_s2, f_su, f_tx, f_c1, f_c2, f_c3, f_t]), rfl⟩ trivial
       ·refine Split.mk fun t h_t => ?_
        rw [bytes_beq] at h_t
        cases t
        ·have f_k : keyOk e.key = true := by exact h_k
         have f_s1 : decide (1 ≤ e.seq) = true := by simp at h_s1; simp; omega
         have f_s2 : decide (e.seq ≤ 100000) = true := by simp at h_s2; simp; omega
         have f_su : sumOk e.n = true := by exact h_su
         have f_tx : decide (e.text.size ≤ 60) = true := by simp at h_tx; simp; omega
         have f_c1 : decide (e.kind = 1) = false := by simp at h_c1; simp; omega
         have f_c2 : decide (e.kind = 2) = true := by simp at h_c2; simp; omega
         have f_t : decide (e.text = ⟨#[]⟩) = false := by exact h_t
         exact Need.mk ⟨[], _, .same, fin (by simp [entOk, f_k, f_s1, f_s2, f_su, f_tx, f_c1, f_c2, f_t]), rfl⟩ trivial
        ·refine Split.mk fun t h_z => ?_
         cases t
         ·have f_k : keyOk e.key = true := by exact h_k
          have f_s1 : decide (1 ≤ e.seq) = true := by simp at h_s1; simp; omega
          have f_s2 : decide (e.seq ≤ 100000) = true := by simp at h_s2; simp; omega
          have f_su : sumOk e.n = true := by exact h_su
          have f_tx : decide (e.text.size ≤ 60) = true := by simp at h_tx; simp; omega
          have f_c1 : decide (e.kind = 1) = false := by simp at h_c1; simp; omega
          have f_c2 : decide (e.kind = 2) = true := by simp at h_c2; simp; omega
          have f_t : decide (e.text = ⟨#[]⟩) = true := by exact h_t
          have f_z : decide (e.n = 0) = false := by simp at h_z; simp; omega
          have f_c3 : decide (e.kind = 3) = false := by simp at h_c2; simp; omega
          exact Need.mk ⟨[], _, .same, fin (by simp [entOk, f_k, f_s1, f_s2, f_su, f_tx, f_c1, f_c2, f_t, f_z, f_c3]), rfl⟩ trivial
         ·have f_k : keyOk e.key = true := by exact h_k
          have f_s1 : decide (1 ≤ e.seq) = true := by simp at h_s1; simp; omega
          have f_s2 : decide (e.seq ≤ 100000) = true := by simp at h_s2; simp; omega
          have f_su : sumOk e.n = true := by exact h_su
          have f_tx : decide (e.text.size ≤ 60) = true := by simp at h_tx; simp; omega
          have f_c1 : decide (e.kind = 1) = false := by simp at h_c1; simp; omega
          have f_c2 : decide (e.kind = 2) = true := by simp at h_c2; simp; omega
          have f_t : decide (e.text = ⟨#[]⟩) = true := by exact h_t
          have f_z : decide (e.n = 0) = true := by simp at h_z; simp; omega
          exact Need.mk ⟨[], _, .same, fin (by simp [entOk, f_k, f_s1, f_s2, f_su, f_tx, f_c1, f_c2, f_t, f_z]), rfl⟩ trivial
      ·have f_k : keyOk e.key = true := by exact h_k
       have f_s1 : decide (1 ≤ e.seq) = true := by simp at h_s1; simp; omega
       have f_s2 : decide (e.seq ≤ 100000) = true := by simp at h_s2; simp; omega
       have f_su : sumOk e.n = true := by exact h_su
       have f_tx : decide (e.text.size ≤ 60) = true := by simp at h_tx; simp; omega
       have f_c1 : decide (e.kind = 1) = true := by simp at h_c1; simp; omega
       exact Need.mk ⟨[], _, .same, fin (by simp [entOk, f_k, f_s1, f_s2, f_su, f_tx, f_c1]), rfl⟩ trivial
     ·have f_k : keyOk e.key = true := by exact h_k
      have f_s1 : decide (1 ≤ e.seq) = true := by simp at h_s1; simp; omega
      have f_s2 : decide (e.seq ≤ 100000) = true := by simp at h_s2; simp; omega
      have f_su : sumOk e.n = true := by exact h_su
      have f_tx : decide (e.text.size ≤ 60) = false := by simp at h_tx; simp; omega
      exact Need.mk ⟨[], _, .same, fin (by simp [entOk, f_k, f_s1, f_s2, f_su, f_tx]), rfl⟩ trivial
   ·have f_k : keyOk e.key = true := by exact h_k
    have f_s1 : decide (1 ≤ e.seq) = true := by simp at h_s1; simp; omega
    have f_s2 : decide (e.seq ≤ 100000) = false := by simp at h_s2; simp; omega
    exact Need.mk ⟨[], _, .same, fin (by simp [entOk, f_k, f_s1, f_s2]), rfl⟩ trivial
  ·have f_k : keyOk e.key = true := by exact h_k
   have f_s1 : decide (1 ≤ e.seq) = false := by simp at h_s1; simp; omega
   exact Need.mk ⟨[], _, .same, fin (by simp [entOk, f_k, f_s1]), rfl⟩ trivial
theorem spec_l6Batch (b : List Ent) (hb : OkE b) (hl : b.length ≤ 1048576) : AFn Tryz.prog 176 [.one (.c (.sl (b.map Ent.enc)))] [] (rb (batOk b)) [] := by
 have hol : (b.map Ent.enc).length = b.length := List.length_map ..
 refine AFn.introX (E := En 0 md0) (en_ok 0 md0) Tryz.func176 rfl rfl rfl fun _ _ => ?_
 let S : Nat → St := fun i => ⟨some (.one (.c (.sl (b.map Ent.enc)))) :: none :: none :: some (av (.int .i64 i)) :: List.replicate 39 none, List.replicate 43 absent⟩
 refine ALoop.mk (fun m s' => ∃ i : Nat, (i ≤ b.length ∧ m = b.length - i) ∧ (∀ (j : Nat) (e : Ent), j < i → b[j]? = some e → entOk e = true) ∧ (∀ (j : Nat) (x y : Ent), j + 1 < i → b[j]? = some x → b[j + 1]? = some y → y.seq = x.seq + 1) ∧ s' = S i)
  ⟨_, _, Weak.nrm [true, false, false, true] [] rfl rfl rfl, 0, ⟨Nat.zero_le _, rfl⟩, fun j e h => absurd h (Nat.not_lt_zero _), fun j x y h => absurd h (Nat.not_lt_zero _), rfl⟩ ?_
 rintro m st ⟨i, ⟨hi, rfl⟩, hok, hco, hst⟩
 by_cases hlt : i < b.length
 ·obtain ⟨e, he⟩ : ∃ e, b[i]? = some e := ⟨_, List.getElem?_eq_getElem hlt⟩
  have hrow : (b.map Ent.enc)[i]? = some e.enc := by rw [List.getElem?_map, he]; rfl
  have hE := spec_EntryOk e (hb e (List.mem_of_getElem? he))
  by_cases hbad : entOk e = true
  ·rw [hbad] at hE
   have hok2 : ∀ (j : Nat) (e' : Ent), j < i + 1 → b[j]? = some e' → entOk e' = true := fun j e' hj hje => by
    by_cases hji : j = i
    ·subst hji; rw [he] at hje; injection hje with hje; rw [← hje]; exact hbad
    ·exact hok j e' (by omega) hje
   by_cases h0 : i = 0
   ·subst h0
    subst hst
    refine spT (by omega) fun h1 => ?_
    refine nd ?_
    refine Row.mk _ hrow ?_
    refine ACall.mk _ _ hE ?_
    refine sp1 ?_
    refine sp0 ?_
    refine Need.mk (rfl) ?_
    refine Num.mk _ (wrapS (by omega)) ?_
    exact ⟨_, _, by omega, Weak.nrm [true, false, false, true] [] rfl rfl rfl, 0 + 1, ⟨by omega, rfl⟩, hok2, fun j x y hj => absurd hj (by omega), rfl⟩
   ·obtain ⟨x, hx⟩ : ∃ x, b[i - 1]? = some x := ⟨_, List.getElem?_eq_getElem (by omega)⟩
    have hrow1 : (b.map Ent.enc)[i - 1]? = some x.enc := by rw [List.getElem?_map, hx]; rfl
    have hxs := (entOk_p (hok (i - 1) x (by omega) hx)).2.1
    have hsub : IntKind.i64.wrap ((i : Int) - 1) = ((i - 1 : Nat) : Int) := wrapI' (by omega) (by omega)
    by_cases hne : e.seq = x.seq + 1
    ·have hco2 : ∀ (j : Nat) (x y : Ent), j + 1 < i + 1 → b[j]? = some x → b[j + 1]? = some y → y.seq = x.seq + 1 := fun j x' y hj hjx hjy => by
      by_cases hji : j + 1 = i
      ·have e1 : j = i - 1 := by omega
       subst e1
       rw [hx] at hjx; injection hjx with hjx
       rw [hji, he] at hjy; injection hjy with hjy
       rw [← hjx, ← hjy]; exact hne
      ·exact hco j x' y (by omega) hjx hjy
     subst hst
     refine spT (by omega) fun h1 => ?_
     refine nd ?_
     refine Row.mk _ hrow ?_
     refine ACall.mk _ _ hE ?_
     refine sp1 ?_
     refine spT (by omega) fun h3 => ?_
     refine nd ?_
     refine Row.mk _ hrow ?_
     refine Num.mk _ hsub ?_
     refine nd ?_
     refine Row.mk _ hrow1 ?_
     refine Num.mk _ (wrapI (by omega) (by omega)) ?_
     refine Split.mk fun t h4 => ?_
     cases t
     case true => (exfalso; rw [bne_iff_ne] at h4; omega)
     rw [bne_eq_false_iff_eq] at h4
     refine Need.mk (rfl) ?_
     refine Num.mk _ (wrapS (by omega)) ?_
     exact ⟨_, _, by omega, Weak.nrm [true, false, false, true] [] rfl rfl rfl, i + 1, ⟨by omega, rfl⟩, hok2, hco2, rfl⟩
    ·have hres : rb false = rb (batOk b) := by rw [bat_bad2 hx (by rw [show i - 1 + 1 = i by omega]; exact he) hne]
     subst hst
     refine spT (by omega) fun h1 => ?_
     refine nd ?_
     refine Row.mk _ hrow ?_
     refine ACall.mk _ _ hE ?_
     refine sp1 ?_
     refine spT (by omega) fun h3 => ?_
     refine nd ?_
     refine Row.mk _ hrow ?_
     refine Num.mk _ hsub ?_
     refine nd ?_
     refine Row.mk _ hrow1 ?_
     refine Num.mk _ (wrapI (by omega) (by omega)) ?_
     refine Split.mk fun t h4 => ?_
     cases t
     case false => (exfalso; rw [bne_eq_false_iff_eq] at h4; omega)
     rw [bne_iff_ne] at h4
     refine Need.mk (rfl) ?_
     exact Need.mk ⟨[], _, .same, hres, rfl⟩ trivial
  ·have hbad2 : entOk e = false := by simpa using hbad
   rw [hbad2] at hE
   have hres : rb false = rb (batOk b) := by rw [bat_bad1 he hbad2]
   by_cases h0 : i = 0
   ·subst h0
    subst hst
    refine spT (by omega) fun h1 => ?_
    refine nd ?_
    refine Row.mk _ hrow ?_
    refine ACall.mk _ _ hE ?_
    refine sp0 ?_
    refine Need.mk (rfl) ?_
    exact Need.mk ⟨[], _, .same, hres, rfl⟩ trivial
   ·subst hst
    refine spT (by omega) fun h1 => ?_
    refine nd ?_
    refine Row.mk _ hrow ?_
    refine ACall.mk _ _ hE ?_
    refine sp0 ?_
    refine Need.mk (rfl) ?_
    exact Need.mk ⟨[], _, .same, hres, rfl⟩ trivial
 ·have hres : ∀ t1 t2 : Bool, decide (1 ≤ b.length) = t1 → decide (b.length ≤ 12) = t2 → rb (t1 && t2) = rb (batOk b) := fun t1 t2 e1 e2 => by
   rw [bat_good (fun j e hj => hok j e (by have := (List.getElem?_eq_some_iff.1 hj).1; omega) hj) (fun j x y hx hy => hco j x y (by have := (List.getElem?_eq_some_iff.1 hy).1; omega) hx hy), e1, e2]
  by_cases h1 : 1 ≤ b.length
  ·by_cases h2 : b.length ≤ 12
   ·have hres : rb true = rb (batOk b) := hres true true (decide_eq_true h1) (decide_eq_true h2)
    subst hst
    refine spF (by omega) fun h1 => ?_
    refine spT (by omega) fun h2 => ?_
    refine spT (by omega) fun h3 => ?_
    exact Need.mk ⟨[], _, .same, hres, rfl⟩ trivial
   ·have hres : rb false = rb (batOk b) := hres true false (decide_eq_true h1) (decide_eq_false h2)
    subst hst
    refine spF (by omega) fun h1 => ?_
    refine spT (by omega) fun h2 => ?_
    refine spF (by omega) fun h3 => ?_
    exact Need.mk ⟨[], _, .same, hres, rfl⟩ trivial
  ·have hres : rb false = rb (batOk b) := hres false (decide (b.length ≤ 12)) (decide_eq_false h1) rfl
   subst hst
   refine spF (by omega) fun h1 => ?_
   refine spF (by omega) fun h2 => ?_
   exact Need.mk ⟨[], _, .same, hres, rfl⟩ trivial
theorem impl_batchOk (b : List Ent) (hb : OkE b) (hl : b.length ≤ 1048576) : AFn Tryz.prog 134 [.one (.c (.sl (b.map Ent.enc)))] [] (rb (batOk b)) [] := by
 have hol : (b.map Ent.enc).length = b.length := List.length_map ..
 have hround : ∀ i : Nat, i < b.length → (∀ (j : Nat) (e : Ent), j < i → b[j]? = some e → entOk e = true) → (∀ (j : Nat) (x y : Ent), j + 1 < i → b[j]? = some x → b[j + 1]? = some y → y.seq = x.seq + 1) →
   ∃ e : Ent, (b.map Ent.enc)[i]? = some e.enc ∧ AFn Tryz.prog 139 [.agg (e.enc.map .c)] [] (rb (entOk e)) [] ∧ (entOk e = true → (∀ (j : Nat) (e' : Ent), j < i + 1 → b[j]? = some e' → entOk e' = true) ∧
    (i ≠ 0 → ∃ x : Ent, (b.map Ent.enc)[i - 1]? = some x.enc ∧ (1 ≤ x.seq ∧ x.seq ≤ 100000) ∧ (e.seq = x.seq + 1 → ∀ (j : Nat) (x y : Ent), j + 1 < i + 1 → b[j]? = some x → b[j + 1]? = some y → y.seq = x.seq + 1) ∧ (e.seq ≠ x.seq + 1 → batOk b = false))) ∧
    (entOk e = false → batOk b = false) := by
  intro i hlt hok hco
  obtain ⟨e, he⟩ : ∃ e, b[i]? = some e := ⟨_, List.getElem?_eq_getElem hlt⟩
  have hrow : (b.map Ent.enc)[i]? = some e.enc := by rw [List.getElem?_map, he]; rfl
  refine ⟨e, hrow, impl_EntryOk e (hb e (List.mem_of_getElem? he)), fun hbad => ⟨fun j e' hj hje => ?_, fun h0 => ?_⟩, fun hbad => bat_bad1 he hbad⟩
  ·by_cases hji : j = i
   ·subst hji; rw [he] at hje; injection hje with hje; rw [← hje]; exact hbad
   ·exact hok j e' (by omega) hje
  ·obtain ⟨x, hx⟩ : ∃ x, b[i - 1]? = some x := ⟨_, List.getElem?_eq_getElem (by omega)⟩
   have hrow1 : (b.map Ent.enc)[i - 1]? = some x.enc := by rw [List.getElem?_map, hx]; rfl
   have hxs := (entOk_p (hok (i - 1) x (by omega) hx)).2.1
   refine ⟨x, hrow1, hxs, fun hne j x' y hj hjx hjy => ?_, fun hne => bat_bad2 hx (by rw [show i - 1 + 1 = i by omega]; exact he) hne⟩
   by_cases hji : j + 1 = i
   ·have e1 : j = i - 1 := by omega
    subst e1
    rw [hx] at hjx; injection hjx with hjx
    rw [hji, he] at hjy; injection hjy with hjy
    rw [← hjx, ← hjy]; exact hne
   ·exact hco j x' y (by omega) hjx hjy
 by_cases hl0 : b.length < 1
 ·have hres : rb false = rb (batOk b) := by unfold batOk; rw [decide_eq_false (by omega)]; rfl
  refine AFn.introX (E := En 0 md0) (en_ok 0 md0) Tryz.func134 rfl rfl rfl fun _ _ => ?_
  refine spT (by omega) fun h1 => ?_
  exact Need.mk ⟨[], _, .same, hres, rfl⟩ trivial
 ·by_cases hl12 : 12 < b.length
  ·have hres : rb false = rb (batOk b) := by rw [bat_len hl12]
   refine AFn.introX (E := En 0 md0) (en_ok 0 md0) Tryz.func134 rfl rfl rfl fun _ _ => ?_
   refine spF (by omega) fun h1 => ?_
   refine spT (by omega) fun h2 => ?_
   exact Need.mk ⟨[], _, .same, hres, rfl⟩ trivial
  ·refine AFn.introX (E := En 0 md0) (en_ok 0 md0) Tryz.func134 rfl rfl rfl fun _ _ => ?_
   refine spF (by omega) fun h1 => ?_
   refine spF (by omega) fun h2 => ?_
   let S : Nat → St := fun i => ⟨some (.one (.c (.sl (b.map Ent.enc)))) :: none :: none :: none :: none :: none :: none :: none :: none :: none :: none :: none :: none :: some (.one (.c (.sl (b.map Ent.enc)))) :: some (av (.int .i64 (↑(b.map Ent.enc).length))) :: some (av (.int .i64 i)) :: List.replicate 24 none, List.replicate 40 absent⟩
   refine ALoop.mk (fun m s' => ∃ i : Nat, (i ≤ b.length ∧ m = b.length - i) ∧ (∀ (j : Nat) (e : Ent), j < i → b[j]? = some e → entOk e = true) ∧ (∀ (j : Nat) (x y : Ent), j + 1 < i → b[j]? = some x → b[j + 1]? = some y → y.seq = x.seq + 1) ∧ s' = S i)
    ⟨_, _, Weak.nrm [true, false, false, false, false, false, false, false, false, false, false, false, false, true, true, true] [] rfl rfl rfl, 0, ⟨Nat.zero_le _, rfl⟩, fun j e h => absurd h (Nat.not_lt_zero _), fun j x y h => absurd h (Nat.not_lt_zero _), rfl⟩ ?_
   rintro m st ⟨i, ⟨hi, rfl⟩, hok, hco, hst⟩
   by_cases hlt : i < b.length
   ·have hbr := hround i hlt hok hco
    refine Exists.elim hbr fun e hx => ?_
    have hrow := hx.1
    have hE := hx.2.1
    have hx := hx.2.2
    by_cases hbad : entOk e = true
    ·rw [hbad] at hE
     have hx := hx.1 hbad
     have hok2 := hx.1
     have hx := hx.2
     by_cases h0 : i = 0
     ·clear hx
      subst h0
      subst hst
      refine spT (by omega) fun h1 => ?_
      refine nd ?_
      refine Row.mk _ hrow ?_
      refine ACall.mk _ _ hE ?_
      refine sp1 ?_
      refine sp0 ?_
      refine Need.mk (rfl) ?_
      refine Num.mk _ (wrapS (by omega)) ?_
      exact ⟨_, _, by omega, Weak.nrm [true, false, false, false, false, false, false, false, false, false, false, false, false, true, true, true] [] rfl rfl rfl, 0 + 1, ⟨by omega, rfl⟩, hok2, fun j x y hj => absurd hj (by omega), rfl⟩
     ·refine Exists.elim (hx h0) fun x hy => ?_
      have hrow1 := hy.1
      have hxs := hy.2.1
      have hy := hy.2.2
      have hsub : IntKind.i64.wrap ((i : Int) - 1) = ((i - 1 : Nat) : Int) := wrapI' (by omega) (by omega)
      by_cases hne : e.seq = x.seq + 1
      ·have hco2 := hy.1 hne
       clear hy hx hbr
       subst hst
       refine spT (by omega) fun h1 => ?_
       refine nd ?_
       refine Row.mk _ hrow ?_
       refine ACall.mk _ _ hE ?_
       refine sp1 ?_
       refine spT (by omega) fun h3 => ?_
       refine Num.mk _ hsub ?_
       refine nd ?_
       refine Row.mk _ hrow1 ?_
       refine Num.mk _ (wrapI (by omega) (by omega)) ?_
       refine Split.mk fun t h4 => ?_
       cases t
       case true => (exfalso; rw [bne_iff_ne] at h4; omega)
       rw [bne_eq_false_iff_eq] at h4
       refine Need.mk (rfl) ?_
       refine Num.mk _ (wrapS (by omega)) ?_
       exact ⟨_, _, by omega, Weak.nrm [true, false, false, false, false, false, false, false, false, false, false, false, false, true, true, true] [] rfl rfl rfl, i + 1, ⟨by omega, rfl⟩, hok2, hco2, rfl⟩
      ·have hres : rb false = rb (batOk b) := by rw [hy.2 hne]
       clear hy hx hbr
       subst hst
       refine spT (by omega) fun h1 => ?_
       refine nd ?_
       refine Row.mk _ hrow ?_
       refine ACall.mk _ _ hE ?_
       refine sp1 ?_
       refine spT (by omega) fun h3 => ?_
       refine Num.mk _ hsub ?_
       refine nd ?_
       refine Row.mk _ hrow1 ?_
       refine Num.mk _ (wrapI (by omega) (by omega)) ?_
       refine Split.mk fun t h4 => ?_
       cases t
       case false => (exfalso; rw [bne_eq_false_iff_eq] at h4; omega)
       rw [bne_iff_ne] at h4
       refine Need.mk (rfl) ?_
       exact Need.mk ⟨[], _, .same, hres, rfl⟩ trivial
    ·have hbad2 : entOk e = false := by simpa using hbad
     rw [hbad2] at hE
     have hres : rb false = rb (batOk b) := by rw [hx.2 hbad2]
     clear hx hbr
     by_cases h0 : i = 0
     ·subst h0
      subst hst
      refine spT (by omega) fun h1 => ?_
      refine nd ?_
      refine Row.mk _ hrow ?_
      refine ACall.mk _ _ hE ?_
      refine sp0 ?_
      refine Need.mk (rfl) ?_
      exact Need.mk ⟨[], _, .same, hres, rfl⟩ trivial
     ·subst hst
      refine spT (by omega) fun h1 => ?_
      refine nd ?_
      refine Row.mk _ hrow ?_
      refine ACall.mk _ _ hE ?_
      refine sp0 ?_
      refine Need.mk (rfl) ?_
      exact Need.mk ⟨[], _, .same, hres, rfl⟩ trivial
   ·have hres : rb true = rb (batOk b) := by
     rw [bat_good (fun j e hj => hok j e (by have := (List.getElem?_eq_some_iff.1 hj).1; omega) hj) (fun j x y hx hy => hco j x y (by have := (List.getElem?_eq_some_iff.1 hy).1; omega) hx hy), decide_eq_true (by omega), decide_eq_true (by omega)]
     rfl
    subst hst
    refine spF (by omega) fun h1 => ?_
    exact Need.mk ⟨[], _, .same, hres, rfl⟩ trivial
theorem sz32 : (⟨#[32]⟩ : ByteArray).size = 1 := rfl
theorem sz10 : (⟨#[10]⟩ : ByteArray).size = 1 := rfl
theorem itoaB {n : Int} (h1 : -10000000 < n) (h2 : n < 100000000) : (bt (Lib.itoa n)).size ≤ 8 := by
 rw [bt_size]; exact itoa_len8 h1 h2
theorem spec_FrameText0 (b : List Ent) (hb : OkE b) (hl : b.length ≤ 1048576) (h : batOk b = false) : AFn Tryz.prog 138 [.one (.c (.sl (b.map Ent.enc)))] [] (.one (vs (bt (frameT b)))) [] := by
 have hB := spec_l6Batch b hb hl
 rw [h] at hB
 have hres : RV.one (vs ⟨#[]⟩) = RV.one (vs (bt (frameT b))) := by rw [frameT_neg (by rw [h]; decide)]; rfl
 refine AFn.introX (E := En 0 md0) (en_ok 0 md0) Tryz.func138 rfl rfl rfl fun _ _ => ?_
 refine ACall.mk _ _ hB ?_
 refine sp0 ?_
 exact Need.mk ⟨[], _, .same, hres, rfl⟩ trivial
theorem spec_FrameText1 (b : List Ent) (hb : OkE b) (hl : b.length ≤ 1048576) (h : batOk b = true) : AFn Tryz.prog 138 [.one (.c (.sl (b.map Ent.enc)))] [] (.one (vs (bt (frameT b)))) [] := by
 have hB := spec_l6Batch b hb hl
 rw [h] at hB
 have hol : (b.map Ent.enc).length = b.length := List.length_map ..
 have hb12 := (batOk_p h).2.1
 have hround : ∀ i : Nat, i < b.length → ∃ (e : Ent) (o d1 d2 d3 d4 : ByteArray), (b.map Ent.enc)[i]? = some e.enc ∧ bt (bodyT (b.take i)) = o ∧ (o.size ≤ 1260 ∧ e.key.size ≤ 8 ∧ d1.size ≤ 8 ∧ d2.size ≤ 8 ∧ d3.size ≤ 8 ∧ d4.size ≤ 8 ∧ e.text.size ≤ 60) ∧
   AFn Tryz.prog 177 [av (.int .i64 e.seq)] [] (.one (vs d1)) [] ∧ AFn Tryz.prog 177 [av (.int .i64 e.kind)] [] (.one (vs d2)) [] ∧ AFn Tryz.prog 177 [av (.int .i64 e.n)] [] (.one (vs d3)) [] ∧ AFn Tryz.prog 177 [av (.int .i64 (e.text.size : Int))] [] (.one (vs d4)) [] ∧
   o ++ e.key ++ bt [32] ++ d1 ++ bt [32] ++ d2 ++ bt [32] ++ d3 ++ bt [32] ++ d4 ++ bt [32] ++ e.text = bt (bodyT (b.take (i + 1))) := by
  intro i hlt
  have hob := body_lt h i
  rw [← bt_size] at hob
  obtain ⟨e, he⟩ : ∃ e, b[i]? = some e := ⟨_, List.getElem?_eq_getElem hlt⟩
  have hrow : (b.map Ent.enc)[i]? = some e.enc := by rw [List.getElem?_map, he]; rfl
  obtain ⟨p1, p2, p3, p4, p5⟩ := entOk_p (bat_get h he)
  have p0 := (keyOk_no32 p1).2
  rw [tb_len] at p0
  have hT := ent_text (bodyT (b.take i)) e
  rw [← body_step he] at hT
  exact ⟨e, _, _, _, _, _, hrow, rfl, ⟨hob, p0, itoaB (by omega) (by omega), itoaB (by omega) (by omega), itoaB (by omega) (by omega), itoaB (by omega) (by omega), p3⟩, l9_Dec e.seq (by omega) (by omega), l9_Dec e.kind (by omega) (by omega), l9_Dec e.n (by omega) (by omega), l9_Dec (e.text.size : Int) (by omega) (by omega), hT⟩
 have hlast : ∀ i : Nat, ¬ i < b.length → ∃ o d : ByteArray, bt (bodyT (b.take i)) = o ∧ (o.size ≤ 1260 ∧ d.size ≤ 8) ∧ AFn Tryz.prog 177 [av (.int .i64 (o.size : Int))] [] (.one (vs d)) [] ∧ RV.one (vs (d ++ bt [32] ++ o ++ bt [10])) = RV.one (vs (bt (frameT b))) := by
  intro i hlt
  have hob := body_lt h i
  have hieq : b.take i = b := List.take_of_length_le (by omega)
  rw [hieq] at hob ⊢
  rw [← bt_size] at hob
  exact ⟨_, _, rfl, ⟨hob, itoaB (by omega) (by omega)⟩, l9_Dec ((bt (bodyT b)).size : Int) (by omega) (by omega), by rw [frame_text h]⟩
 refine AFn.introX (E := En 0 md0) (en_ok 0 md0) Tryz.func138 rfl rfl rfl fun _ _ => ?_
 refine ACall.mk _ _ hB ?_
 refine sp1 ?_
 let S : Nat → ByteArray → St := fun i o => ⟨some (.one (.c (.sl (b.map Ent.enc)))) :: none :: none :: some (av (.string o)) :: some (av (.int .i64 i)) :: List.replicate 50 none, List.replicate 55 absent⟩
 refine ALoop.mk (fun m s => ∃ i : Nat, (i ≤ b.length ∧ m = b.length - i) ∧ s = S i (bt (bodyT (b.take i))))
  ⟨_, _, Weak.nrm [true, false, false, true, true] [] rfl rfl rfl, 0, ⟨Nat.zero_le _, rfl⟩, rfl⟩ ?_
 rintro m s ⟨i, ⟨hi, rfl⟩, hst⟩
 by_cases hlt : i < b.length
 ·refine Exists.elim (hround i hlt) fun e hx => ?_
  refine Exists.elim hx fun o hx => ?_
  refine Exists.elim hx fun d1 hx => ?_
  refine Exists.elim hx fun d2 hx => ?_
  refine Exists.elim hx fun d3 hx => ?_
  refine Exists.elim hx fun d4 hx => ?_
  have hrow := hx.1
  have ho := hx.2.1
  have hz := hx.2.2.1
  have hD1 := hx.2.2.2.1
  have hD2 := hx.2.2.2.2.1
  have hD3 := hx.2.2.2.2.2.1
  have hD4 := hx.2.2.2.2.2.2.1
  have hT := hx.2.2.2.2.2.2.2
  clear hx
  rw [ho] at hst
  subst hst
  refine spT (by omega) fun h1 => ?_
  refine nd ?_
  refine Row.mk _ hrow ?_
  refine Need.mk (strFits (by omega)) ?_
  refine Need.mk (strFits (by simp only [ByteArray.size_append, sz32, sz10]; omega)) ?_
  refine ACall.mk _ _ hD1 ?_
  refine Need.mk (strFits (by simp only [ByteArray.size_append, sz32, sz10]; omega)) ?_
  refine Need.mk (strFits (by simp only [ByteArray.size_append, sz32, sz10]; omega)) ?_
  refine ACall.mk _ _ hD2 ?_
  refine Need.mk (strFits (by simp only [ByteArray.size_append, sz32, sz10]; omega)) ?_
  refine Need.mk (strFits (by simp only [ByteArray.size_append, sz32, sz10]; omega)) ?_
  refine ACall.mk _ _ hD3 ?_
  refine Need.mk (strFits (by simp only [ByteArray.size_append, sz32, sz10]; omega)) ?_
  refine Need.mk (strFits (by simp only [ByteArray.size_append, sz32, sz10]; omega)) ?_
  refine ACall.mk _ _ hD4 ?_
  refine Need.mk (strFits (by simp only [ByteArray.size_append, sz32, sz10]; omega)) ?_
  refine Need.mk (strFits (by simp only [ByteArray.size_append, sz32, sz10]; omega)) ?_
  refine Need.mk (strFits (by simp only [ByteArray.size_append, sz32, sz10]; omega)) ?_
  refine Need.mk (rfl) ?_
  refine Num.mk _ (wrapS (by omega)) ?_
  exact ⟨_, _, by omega, Weak.nrm [true, false, false, true, true] [] rfl rfl rfl, i + 1, ⟨by omega, rfl⟩, congrArg (S (i + 1)) hT⟩
 ·refine Exists.elim (hlast i hlt) fun o hx => ?_
  refine Exists.elim hx fun d hx => ?_
  have ho := hx.1
  have hz := hx.2.1
  have hD := hx.2.2.1
  have hres := hx.2.2.2
  clear hx
  rw [ho] at hst
  subst hst
  refine spF (by omega) fun h1 => ?_
  refine ACall.mk _ _ hD ?_
  refine Need.mk (strFits (by simp only [ByteArray.size_append, sz32, sz10]; omega)) ?_
  refine Need.mk (strFits (by simp only [ByteArray.size_append, sz32, sz10]; omega)) ?_
  refine Need.mk (strFits (by simp only [ByteArray.size_append, sz32, sz10]; omega)) ?_
  exact Need.mk ⟨[], _, .same, hres, rfl⟩ trivial
theorem Builder_Len (l : Bs) (hl : l.length ≤ 140737488355328) : AFnK Tryz.prog 90 [.bx 0 0] [[.me 101, .us 5 (strU l)]] [0] (.one (vi l.length)) [[.me 101, .us 5 (strU l)]] := by
 have hol := strU_len l
 have hres : RV.one (vi (((strU l).length : Nat) : Int)) = RV.one (vi (l.length : Int)) := by rw [strU_len]
 refine AFnK.introX (E := En 1 md0) (en_ok 1 md0) Tryz.func90 rfl rfl rfl fun _ _ => ?_
 exact Need.mk ⟨[], _, .same, hres, rfl⟩ trivial
theorem Builder_LenF (l : Bs) (hl : l.length ≤ 140737488355328) : AFnK Tryz.prog 90 [.bx 0 0] [[.me 101, .sl (strU l)]] [0] (.one (vi l.length)) [[.me 101, .sl (strU l)]] := by
 have hol := strU_len l
 have hres : RV.one (vi (((strU l).length : Nat) : Int)) = RV.one (vi (l.length : Int)) := by rw [strU_len]
 refine AFnK.introX (E := En 1 md0) (en_ok 1 md0) Tryz.func90 rfl rfl rfl fun _ _ => ?_
 exact Need.mk ⟨[], _, .same, hres, rfl⟩ trivial
theorem impl_FrameText0 (b : List Ent) (hb : OkE b) (hl : b.length ≤ 1048576) (h : batOk b = false) : AFn Tryz.prog 88 [.one (.c (.sl (b.map Ent.enc)))] [] (.one (vs (bt (frameT b)))) [] := by
 have hB := impl_batchOk b hb hl
 rw [h] at hB
 have hres : RV.one (vs ⟨#[]⟩) = RV.one (vs (bt (frameT b))) := by rw [frameT_neg (by rw [h]; decide)]; rfl
 refine AFn.introX (E := En 0 md0) (en_ok 0 md0) Tryz.func88 rfl rfl rfl fun _ _ => ?_
 refine ACall.mk _ _ hB ?_
 refine sp0 ?_
 exact Need.mk ⟨[], _, .same, hres, rfl⟩ trivial
theorem impl_FrameText1 (b : List Ent) (hb : OkE b) (hl : b.length ≤ 1048576) (h : batOk b = true) : AFn Tryz.prog 88 [.one (.c (.sl (b.map Ent.enc)))] [] (.one (vs (bt (frameT b)))) [] := by
 have hB := impl_batchOk b hb hl
 rw [h] at hB
 have hol : (b.map Ent.enc).length = b.length := List.length_map ..
 have hb12 := (batOk_p h).2.1
 have hround : ∀ i : Nat, i < b.length → ∃ (e : Ent) (l0 l1 l2 l3 l4 l5 : Bs) (d1 d2 d3 d4 : ByteArray), (b.map Ent.enc)[i]? = some e.enc ∧ bodyT (b.take i) = l0 ∧ (e.key.size ≤ 8 ∧ d1.size ≤ 8 ∧ d2.size ≤ 8 ∧ d3.size ≤ 8 ∧ d4.size ≤ 8 ∧ e.text.size ≤ 60) ∧
   AFn Tryz.prog 135 [av (.int .i64 e.seq)] [] (.one (vs d1)) [] ∧ AFn Tryz.prog 135 [av (.int .i64 e.kind)] [] (.one (vs d2)) [] ∧ AFn Tryz.prog 135 [av (.int .i64 e.n)] [] (.one (vs d3)) [] ∧ AFn Tryz.prog 135 [av (.int .i64 (e.text.size : Int))] [] (.one (vs d4)) [] ∧
   AFnK Tryz.prog 87 [.bx 0 0, av (.string (e.key ++ ⟨#[32]⟩))] [[.me 101, .us 5 (strU l0)]] [0] (.tup [.one (vi (e.key ++ ⟨#[32]⟩).size), .one (.v .nilIface)]) [[.me 101, .us 5 (strU l1)]] ∧
   AFnK Tryz.prog 87 [.bx 0 0, av (.string (d1 ++ ⟨#[32]⟩))] [[.me 101, .us 5 (strU l1)]] [0] (.tup [.one (vi (d1 ++ ⟨#[32]⟩).size), .one (.v .nilIface)]) [[.me 101, .us 5 (strU l2)]] ∧
   AFnK Tryz.prog 87 [.bx 0 0, av (.string (d2 ++ ⟨#[32]⟩))] [[.me 101, .us 5 (strU l2)]] [0] (.tup [.one (vi (d2 ++ ⟨#[32]⟩).size), .one (.v .nilIface)]) [[.me 101, .us 5 (strU l3)]] ∧
   AFnK Tryz.prog 87 [.bx 0 0, av (.string (d3 ++ ⟨#[32]⟩))] [[.me 101, .us 5 (strU l3)]] [0] (.tup [.one (vi (d3 ++ ⟨#[32]⟩).size), .one (.v .nilIface)]) [[.me 101, .us 5 (strU l4)]] ∧
   AFnK Tryz.prog 87 [.bx 0 0, av (.string (d4 ++ ⟨#[32]⟩))] [[.me 101, .us 5 (strU l4)]] [0] (.tup [.one (vi (d4 ++ ⟨#[32]⟩).size), .one (.v .nilIface)]) [[.me 101, .us 5 (strU l5)]] ∧
   AFnK Tryz.prog 87 [.bx 0 0, av (.string (e.text))] [[.me 101, .us 5 (strU l5)]] [0] (.tup [.one (vi (e.text).size), .one (.v .nilIface)]) [[.me 101, .us 5 (strU (bodyT (b.take (i + 1))))]] := by
  intro i hlt
  have hob := body_lt h i
  obtain ⟨e, he⟩ : ∃ e, b[i]? = some e := ⟨_, List.getElem?_eq_getElem hlt⟩
  have hrow : (b.map Ent.enc)[i]? = some e.enc := by rw [List.getElem?_map, he]; rfl
  obtain ⟨p1, p2, p3, p4, p5⟩ := entOk_p (bat_get h he)
  have p0 := (keyOk_no32 p1).2
  have hT : bodyT (b.take i) ++ tb (e.key ++ ⟨#[32]⟩) ++ tb (bt (Lib.itoa e.seq) ++ ⟨#[32]⟩) ++ tb (bt (Lib.itoa e.kind) ++ ⟨#[32]⟩) ++ tb (bt (Lib.itoa e.n) ++ ⟨#[32]⟩) ++ tb (bt (Lib.itoa (e.text.size : Int)) ++ ⟨#[32]⟩) ++ tb e.text = bodyT (b.take (i + 1)) := by
   rw [body_step he]
   have e32 : (⟨#[32]⟩ : ByteArray) = bt [32] := rfl
   have ek : e.key = bt (tb e.key) := (bt_tb _).symm
   rw [e32, ek]
   simp only [bt_app, tb_bt]
   unfold entT
   simp
  rw [tb_len] at p0
  have z1 := itoaB (n := e.seq) (by omega) (by omega)
  have z2 := itoaB (n := e.kind) (by omega) (by omega)
  have z3 := itoaB (n := e.n) (by omega) (by omega)
  have z4 := itoaB (n := (e.text.size : Int)) (by omega) (by omega)
  have D1 := strconv_Itoa e.seq (by omega) (by omega)
  have D2 := strconv_Itoa e.kind (by omega) (by omega)
  have D3 := strconv_Itoa e.n (by omega) (by omega)
  have D4 := strconv_Itoa (e.text.size : Int) (by omega) (by omega)
  have t32 : ∀ x : ByteArray, (tb (x ++ ⟨#[32]⟩)).length = x.size + 1 := fun x => by rw [tb_len, ByteArray.size_append]; rfl
  have s32 : ∀ x : ByteArray, (x ++ ⟨#[32]⟩).size = x.size + 1 := fun x => by rw [ByteArray.size_append]; rfl
  have W5 := Builder_WriteString (bodyT (b.take i) ++ tb (e.key ++ ⟨#[32]⟩) ++ tb (bt (Lib.itoa e.seq) ++ ⟨#[32]⟩) ++ tb (bt (Lib.itoa e.kind) ++ ⟨#[32]⟩) ++ tb (bt (Lib.itoa e.n) ++ ⟨#[32]⟩) ++ tb (bt (Lib.itoa (e.text.size : Int)) ++ ⟨#[32]⟩)) e.text (by simp only [List.length_append, t32]; omega)
  rw [hT] at W5
  exact ⟨e, _, _, _, _, _, _, _, _, _, _, hrow, rfl, ⟨p0, z1, z2, z3, z4, p3⟩, D1, D2, D3, D4, Builder_WriteString _ _ (by simp only [s32]; omega), Builder_WriteString _ _ (by simp only [List.length_append, t32, s32]; omega), Builder_WriteString _ _ (by simp only [List.length_append, t32, s32]; omega), Builder_WriteString _ _ (by simp only [List.length_append, t32, s32]; omega), Builder_WriteString _ _ (by simp only [List.length_append, t32, s32]; omega), W5⟩
 have hlast : ∀ i : Nat, ¬ i < b.length → ∃ (l : Bs) (d : ByteArray), bodyT (b.take i) = l ∧ (l.length ≤ 1260 ∧ d.size ≤ 8 ∧ (bt l).size ≤ 1260) ∧ AFn Tryz.prog 135 [av (.int .i64 (l.length : Int))] [] (.one (vs d)) [] ∧ AFnK Tryz.prog 90 [.bx 0 0] [[.me 101, .us 5 (strU l)]] [0] (.one (vi l.length)) [[.me 101, .us 5 (strU l)]] ∧
   AFnK Tryz.prog 89 [.bx 0 0] [[.me 101, .us 5 (strU l)]] [0] (.one (vs (bt l))) [[.me 101, .sl (strU l)]] ∧ RV.one (vs (d ++ bt [32] ++ bt l ++ bt [10])) = RV.one (vs (bt (frameT b))) := by
  intro i hlt
  have hob := body_lt h i
  have hieq : b.take i = b := List.take_of_length_le (by omega)
  rw [hieq] at hob ⊢
  have z := itoaB (n := ((bodyT b).length : Int)) (by omega) (by omega)
  refine ⟨_, _, rfl, ⟨hob, z, by rw [bt_size]; exact hob⟩, strconv_Itoa _ (by omega) (by omega), Builder_Len _ (by omega), Builder_String _, ?_⟩
  have := frame_text h
  rw [bt_size] at this
  rw [this]
 refine AFn.introX (E := En 0 md0 (me := some 101)) (en_ok 0 md0 [] [] [] [] [] (some 101)) Tryz.func88 rfl rfl rfl fun _ _ => ?_
 refine ACall.mk _ _ hB ?_
 refine sp1 ?_
 let S : Nat → Bs → St := fun i l => ⟨none :: none :: none :: some (.bx 3 0) :: none :: none :: none :: none :: none :: none :: none :: some (.one (.c (.sl (b.map Ent.enc)))) :: some (av (.int .i64 (↑(b.map Ent.enc).length))) :: some (av (.int .i64 i)) :: List.replicate 37 none, absent :: absent :: absent :: ⟨0, 0, some [.me 101, .us 5 (strU l)]⟩ :: List.replicate 47 absent⟩
 refine ALoop.mk (fun m s => ∃ i : Nat, (i ≤ b.length ∧ m = b.length - i) ∧ s = S i (bodyT (b.take i)))
  ⟨_, _, Weak.nrm [false, false, false, true, false, false, false, false, false, false, false, true, true, true] [(3, 3)] rfl rfl rfl, 0, ⟨Nat.zero_le _, rfl⟩, rfl⟩ ?_
 rintro m s ⟨i, ⟨hi, rfl⟩, hst⟩
 by_cases hlt : i < b.length
 ·refine Exists.elim (hround i hlt) fun e hx => ?_
  refine Exists.elim hx fun l0 hx => ?_
  refine Exists.elim hx fun l1 hx => ?_
  refine Exists.elim hx fun l2 hx => ?_
  refine Exists.elim hx fun l3 hx => ?_
  refine Exists.elim hx fun l4 hx => ?_
  refine Exists.elim hx fun l5 hx => ?_
  refine Exists.elim hx fun d1 hx => ?_
  refine Exists.elim hx fun d2 hx => ?_
  refine Exists.elim hx fun d3 hx => ?_
  refine Exists.elim hx fun d4 hx => ?_
  have hrow := hx.1
  have ho := hx.2.1
  have hz := hx.2.2.1
  have hD1 := hx.2.2.2.1
  have hD2 := hx.2.2.2.2.1
  have hD3 := hx.2.2.2.2.2.1
  have hD4 := hx.2.2.2.2.2.2.1
  have hW0 := hx.2.2.2.2.2.2.2.1
  have hW1 := hx.2.2.2.2.2.2.2.2.1
  have hW2 := hx.2.2.2.2.2.2.2.2.2.1
  have hW3 := hx.2.2.2.2.2.2.2.2.2.2.1
  have hW4 := hx.2.2.2.2.2.2.2.2.2.2.2.1
  have hW5 := hx.2.2.2.2.2.2.2.2.2.2.2.2
  clear hx
  rw [ho] at hst
  subst hst
  refine spT (by omega) fun h1 => ?_
  refine nd ?_
  refine Row.mk _ hrow ?_
  refine Need.mk (strFits (by simp only [ByteArray.size_append, sz32, sz10]; omega)) ?_
  refine ACall.mk _ _ hW0 ?_
  let S2 : Nat → Bs → St := fun j l => ⟨none :: none :: none :: some (.bx 3 0) :: none :: some (.bx 5 0) :: none :: none :: none :: none :: none :: some (.one (.c (.sl (b.map Ent.enc)))) :: some (av (.int .i64 (↑(b.map Ent.enc).length))) :: some (av (.int .i64 i)) :: none :: none :: none :: none :: none :: none :: none :: none :: none :: none :: none :: none :: none :: none :: none :: none :: some (.one (.ref 30 0 (.cell 0))) :: some (av (.int .i64 4)) :: some (av (.int .i64 j)) :: List.replicate 18 none,
   absent :: absent :: absent :: ⟨0, 0, some [.me 101, .us 5 (strU l)]⟩ :: absent :: ⟨0, 0, some [vs e.key, vi e.seq, vi e.kind, vs e.text, vi e.n]⟩ :: absent :: absent :: absent :: absent :: absent :: absent :: absent :: absent :: absent :: absent :: absent :: absent :: absent :: absent :: absent :: absent :: absent :: absent :: absent :: absent :: absent :: absent :: absent :: absent :: ⟨0, 1, some [.us 3 [[vi e.seq], [vi e.kind], [vi e.n], [vi e.text.size]]]⟩ :: List.replicate 20 absent⟩
  refine ALoop.mk (fun m st => (m = 4 ∧ st = S2 0 l1) ∨ (m = 3 ∧ st = S2 1 l2) ∨ (m = 2 ∧ st = S2 2 l3) ∨ (m = 1 ∧ st = S2 3 l4) ∨ (m = 0 ∧ st = S2 4 l5))
   ⟨_, _, Weak.trans (Weak.nrm [false, false, false, true, false, true, false, false, false, false, false, true, true, true, false, false, false, false, false, false, false, false, false, false, false, false, false, false, false, false, true, true, true] [(3, 3), (5, 5), (30, 30)] rfl rfl rfl) Weak.one, .inl ⟨rfl, rfl⟩⟩ ?_
  rintro m st hcase
  clear hW0 hrow
  refine Or.elim hcase (fun hst => ?_) fun hcase => Or.elim hcase (fun hst => ?_) fun hcase => Or.elim hcase (fun hst => ?_) fun hcase => Or.elim hcase (fun hst => ?_) fun hst => ?_
  ·have h5 := hst.2
   have h6 := hst.1
   clear hst hcase
   subst h6
   subst h5
   refine sp1 ?_
   refine Need.mk (by simp) ?_
   refine Row.mk _ rfl ?_
   refine ACall.mk _ _ hD1 ?_
   refine Need.mk (strFits (by simp only [ByteArray.size_append, sz32, sz10]; omega)) ?_
   refine ACall.mk _ _ hW1 ?_
   refine Num.mk _ (wrapS (by omega)) ?_
   exact ⟨_, _, by omega, Weak.nrm [false, false, false, true, false, true, false, false, false, false, false, true, true, true, false, false, false, false, false, false, false, false, false, false, false, false, false, false, false, false, true, true, true] [(3, 3), (5, 5), (30, 30)] rfl rfl rfl, .inr (.inl ⟨rfl, rfl⟩)⟩
  ·have h5 := hst.2
   have h6 := hst.1
   clear hst hcase
   subst h6
   subst h5
   refine sp1 ?_
   refine Need.mk (by simp) ?_
   refine Row.mk _ rfl ?_
   refine ACall.mk _ _ hD2 ?_
   refine Need.mk (strFits (by simp only [ByteArray.size_append, sz32, sz10]; omega)) ?_
   refine ACall.mk _ _ hW2 ?_
   refine Num.mk _ (wrapS (by omega)) ?_
   exact ⟨_, _, by omega, Weak.nrm [false, false, false, true, false, true, false, false, false, false, false, true, true, true, false, false, false, false, false, false, false, false, false, false, false, false, false, false, false, false, true, true, true] [(3, 3), (5, 5), (30, 30)] rfl rfl rfl, .inr (.inr (.inl ⟨rfl, rfl⟩))⟩
  ·have h5 := hst.2
   have h6 := hst.1
   clear hst hcase
   subst h6
   subst h5
   refine sp1 ?_
   refine Need.mk (by simp) ?_
   refine Row.mk _ rfl ?_
   refine ACall.mk _ _ hD3 ?_
   refine Need.mk (strFits (by simp only [ByteArray.size_append, sz32, sz10]; omega)) ?_
   refine ACall.mk _ _ hW3 ?_
   refine Num.mk _ (wrapS (by omega)) ?_
   exact ⟨_, _, by omega, Weak.nrm [false, false, false, true, false, true, false, false, false, false, false, true, true, true, false, false, false, false, false, false, false, false, false, false, false, false, false, false, false, false, true, true, true] [(3, 3), (5, 5), (30, 30)] rfl rfl rfl, .inr (.inr (.inr (.inl ⟨rfl, rfl⟩)))⟩
  ·have h5 := hst.2
   have h6 := hst.1
   clear hst hcase
   subst h6
   subst h5
   refine sp1 ?_
   refine Need.mk (by simp) ?_
   refine Row.mk _ rfl ?_
   refine ACall.mk _ _ hD4 ?_
   refine Need.mk (strFits (by simp only [ByteArray.size_append, sz32, sz10]; omega)) ?_
   refine ACall.mk _ _ hW4 ?_
   refine Num.mk _ (wrapS (by omega)) ?_
   exact ⟨_, _, by omega, Weak.nrm [false, false, false, true, false, true, false, false, false, false, false, true, true, true, false, false, false, false, false, false, false, false, false, false, false, false, false, false, false, false, true, true, true] [(3, 3), (5, 5), (30, 30)] rfl rfl rfl, .inr (.inr (.inr (.inr ⟨rfl, rfl⟩)))⟩
  ·have h5 := hst.2
   have h6 := hst.1
   clear hst hcase
   subst h6
   subst h5
   refine sp0 ?_
   refine ACall.mk _ _ hW5 ?_
   refine Num.mk _ (wrapS (by omega)) ?_
   exact ⟨_, _, by omega, Weak.nrm [false, false, false, true, false, false, false, false, false, false, false, true, true, true] [(3, 3)] rfl rfl rfl, i + 1, ⟨by omega, rfl⟩, rfl⟩
 ·refine Exists.elim (hlast i hlt) fun l hx => ?_
  refine Exists.elim hx fun d hx => ?_
  have ho := hx.1
  have hz := hx.2.1
  have hD := hx.2.2.1
  have hN := hx.2.2.2.1
  have hS := hx.2.2.2.2.1
  have hres := hx.2.2.2.2.2
  clear hx
  rw [ho] at hst
  subst hst
  refine spF (by omega) fun h1 => ?_
  refine ACall.mk _ _ hN ?_
  refine ACall.mk _ _ hD ?_
  refine Need.mk (strFits (by simp only [ByteArray.size_append, sz32, sz10]; omega)) ?_
  refine ACall.mk _ _ hS ?_
  refine Need.mk (strFits (by simp only [ByteArray.size_append, sz32, sz10]; omega)) ?_
  refine Need.mk (strFits (by simp only [ByteArray.size_append, sz32, sz10]; omega)) ?_
  exact Need.mk ⟨[], _, .same, hres, rfl⟩ trivial
theorem impl_FrameText (b : List Ent) (hb : OkE b) (hl : b.length ≤ 1048576) : AFn Tryz.prog 88 [.one (.c (.sl (b.map Ent.enc)))] [] (.one (vs (bt (frameT b)))) [] := by
 cases h : batOk b with
 | true => exact impl_FrameText1 b hb hl h
 | false => exact impl_FrameText0 b hb hl h
def failB : RV := .tup [.one (.v nilV), .one (vb false)]
theorem reader_batch1 (s : ByteArray) (p : Nat) (hs : s.size ≤ 1048576) (hp : p ≤ s.size) (q : Nat) (hN : numB s p = (0, false, q)) : AFnK Tryz.prog 104 [.bx 0 0] [lrd s p] [0] failB [lrd s q] := by
 have hR := reader_number s p hs hp _ _ _ hN
 refine AFnK.introX (E := En 1 md0) (en_ok 1 md0) Tryz.func104 rfl rfl rfl fun _ _ => ?_
 refine ACall.mk _ _ hR ?_
 refine sp0 ?_
 exact Need.mk ⟨[], _, .same, rfl, rfl⟩ trivial
theorem reader_batch2 (s : ByteArray) (p : Nat) (hs : s.size ≤ 1048576) (hp : p ≤ s.size) (n : Int) (q : Nat) (hN : numB s p = (n, true, q)) (hq : q ≤ s.size) (hl : n < 0 ∨ (s.size : Int) - q < n) : AFnK Tryz.prog 104 [.bx 0 0] [lrd s p] [0] failB [lrd s q] := by
 have hR := reader_number s p hs hp _ _ _ hN
 have hT := reader_takeN s q n hs hq hl
 refine AFnK.introX (E := En 1 md0) (en_ok 1 md0) Tryz.func104 rfl rfl rfl fun _ _ => ?_
 refine ACall.mk _ _ hR ?_
 refine sp1 ?_
 refine ACall.mk _ _ hT ?_
 refine sp0 ?_
 exact Need.mk ⟨[], _, .same, rfl, rfl⟩ trivial
theorem reader_batch3 (s : ByteArray) (p : Nat) (hs : s.size ≤ 1048576) (hp : p ≤ s.size) (n : Nat) (q : Nat) (hN : numB s p = ((n : Int), true, q)) (hl : q + n = s.size) : AFnK Tryz.prog 104 [.bx 0 0] [lrd s p] [0] failB [lrd s (q + n)] := by
 have hR := reader_number s p hs hp _ _ _ hN
 have hT := reader_takeY s q n hs (by omega)
 have hT2 := reader_takeN s (q + n) 1 hs (by omega) (by omega)
 refine AFnK.introX (E := En 1 md0) (en_ok 1 md0) Tryz.func104 rfl rfl rfl fun _ _ => ?_
 refine ACall.mk _ _ hR ?_
 refine sp1 ?_
 refine ACall.mk _ _ hT ?_
 refine sp1 ?_
 refine ACall.mk _ _ hT2 ?_
 refine sp0 ?_
 exact Need.mk ⟨[], _, .same, rfl, rfl⟩ trivial
theorem reader_batchM (s : ByteArray) (p : Nat) (hs : s.size ≤ 1048576) (hp : p ≤ s.size) (n : Nat) (q : Nat) (hN : numB s p = ((n : Int), true, q)) (hl : q + n + 1 ≤ s.size) (hpq : p < q) (B : ByteArray) (hB : s.extract q (q + n) = B) (r : RV)
  (k0 : RI.body 12 [] (tb B) = none → r = failB) (k1 : ∀ b, RI.body 12 [] (tb B) = some b → batOk b = false → r = failB) (k2 : ∀ b, RI.body 12 [] (tb B) = some b → batOk b = true → bt (frameT b) ≠ s.extract p (q + n + 1) → r = failB)
  (k3 : ∀ b, RI.body 12 [] (tb B) = some b → batOk b = true → bt (frameT b) = s.extract p (q + n + 1) → r = .tup [.one (.us 83 (b.map Ent.enc)), .one (vb true)]) :
  AFnK Tryz.prog 104 [.bx 0 0] [lrd s p] [0] r [lrd s (q + n + 1)] := by
 have hR := reader_number s p hs hp _ _ _ hN
 have hT := reader_takeY s q n hs (by omega)
 have hT2 := reader_takeY s (q + n) 1 hs (by omega)
 have hBs := ext_size s q (q + n)
 rw [hB] at hT hBs
 have hBz : B.size ≤ 1048576 := by omega
 have hpos : 0 < Tryz.prog.cellsOf 83 := pos_of tab_ok (t := 83) rfl
 have hround : ∀ (out : List Ent) (a : Nat), a < B.size → out.length ≤ 12 → OkE out → RI.body (12 - out.length) out ((tb B).drop a) = RI.body 12 [] (tb B) →
   (∃ (e : Ent) (a2 : Nat), AFnK Tryz.prog 147 [.bx 0 0] [lrd B a] [0] (.tup [.agg e.enc, .one (vb true)]) [lrd B a2] ∧ (out.length = 12 → r = failB) ∧ a2 ≤ B.size ∧ (out.length ≠ 12 → OkE (out ++ [e]) ∧ RI.body (12 - (out ++ [e]).length) (out ++ [e]) ((tb B).drop a2) = RI.body 12 [] (tb B))) ∨
   (∃ a2 : Nat, AFnK Tryz.prog 147 [.bx 0 0] [lrd B a] [0] (.tup [.agg ent0.enc, .one (vb false)]) [lrd B a2] ∧ r = failB) := by
  intro out a ha hlen hOk hI
  have hne : (tb B).drop a ≠ [] := fun h => by have := drop_nil.1 h; omega
  rcases reader_entry B a hBz (by omega) with ⟨e, a2, g1, g2, g3, g4⟩ | ⟨g1, a2, g2⟩
  ·refine .inl ⟨e, a2, g4, fun h12 => k0 ?_, g3, fun h12 => ⟨fun x hx => ?_, ?_⟩⟩
   ·rw [← hI, show 12 - out.length = 0 by omega, RIb_zero RI hne]
   ·rcases List.mem_append.1 hx with hx | hx
    ·exact hOk x hx
    ·rw [List.mem_singleton.1 hx]
     exact RI.ent_Ok g1 (by rw [List.length_drop, tb_len]; unfold maxLen; omega)
   ·rw [← hI, show 12 - out.length = (12 - (out ++ [e]).length) + 1 by simp; omega, RIb_step RI hne g1]
  ·refine .inr ⟨a2, g2, k0 ?_⟩
   rw [← hI, RIb_bad RI hne g1]
 have hlast : ∀ (out : List Ent) (a : Nat), ¬ a < B.size → out.length ≤ 12 → RI.body (12 - out.length) out ((tb B).drop a) = RI.body 12 [] (tb B) → RI.body 12 [] (tb B) = some out := by
  intro out a ha hlen hI
  rw [drop_nil.2 (by omega), RIb_nil] at hI
  exact hI.symm
 refine AFnK.introX (E := En 1 md0) (en_ok 1 md0) Tryz.func104 rfl rfl rfl fun _ _ => ?_
 refine ACall.mk _ _ hR ?_
 refine sp1 ?_
 refine ACall.mk _ _ hT ?_
 refine sp1 ?_
 refine ACall.mk _ _ hT2 ?_
 refine sp1 ?_
 let S : List Ent → Nat → St := fun out a => ⟨some (.bx 0 0) :: none :: none :: none :: some (av (.int .i64 p)) :: none :: none :: some (av (.string B)) :: some (.bx 9 0) :: some (.one (.ref 10 0 (.cell 0))) :: List.replicate 69 none, ⟨0, 0, some [vs s, vi ((q + n + 1 : Nat) : Int)]⟩ :: absent :: absent :: absent :: absent :: absent :: absent :: absent :: absent :: ⟨0, 0, some [vs B, vi a]⟩ :: ⟨0, 1, some [.us 83 (out.map Ent.enc)]⟩ :: List.replicate 69 absent⟩
 refine ALoop.mk (fun m st => ∃ (out : List Ent) (a : Nat), (a ≤ B.size ∧ m = 13 - out.length ∧ out.length ≤ 12) ∧ OkE out ∧ RI.body (12 - out.length) out ((tb B).drop a) = RI.body 12 [] (tb B) ∧ st = S out a)
  ⟨_, _, Weak.trans (Weak.nrm [true, false, false, false, true, false, false, true, true, true] [(0, 0), (9, 9)] rfl rfl rfl) (Weak.nilOwn 9 10 83 rfl rfl hpos), [], 0, ⟨Nat.zero_le _, rfl, Nat.zero_le _⟩, (fun e he => nomatch he), rfl, rfl⟩ ?_
 rintro m st ⟨out, a, ⟨ha, rfl, hlen⟩, hOk, hI, hst⟩
 have hol : (out.map Ent.enc).length = out.length := List.length_map ..
 by_cases hlt : a < B.size
 ·refine Or.elim (hround out a hlt hlen hOk hI) (fun hx => ?_) fun hx => ?_
  ·refine Exists.elim hx fun e hx => ?_
   refine Exists.elim hx fun a2 hx => ?_
   have hE := hx.1
   by_cases h12 : out.length = 12
   ·have hr := hx.2.1 h12
    clear hx hI hOk k0 k1 k2 k3 hround
    subst hr
    subst hst
    refine spT (by omega) fun h1 => ?_
    refine ACall.mk _ _ hE ?_
    refine sp1 ?_
    refine spT (by omega) fun h3 => ?_
    exact Need.mk ⟨[], _, .same, rfl, rfl⟩ trivial
   ·have ha2 := hx.2.2.1
    have hOk2 := (hx.2.2.2 h12).1
    have hI2 := (hx.2.2.2 h12).2
    have hol2 : (out ++ [e]).length = out.length + 1 := by simp
    have hmap : out.map Ent.enc ++ [e.enc] = (out ++ [e]).map Ent.enc := by rw [List.map_append]; rfl
    clear hx hI hOk k0 k1 k2 k3 hround
    subst hst
    refine spT (by omega) fun h1 => ?_
    refine ACall.mk _ _ hE ?_
    refine sp1 ?_
    refine spF (by omega) fun h3 => ?_
    refine apq (A' := _) (B' := [e.enc]) rfl rfl ?_
    exact ⟨_, _, by omega, Weak.nrm [true, false, false, false, true, false, false, true, true, true] [(0, 0), (9, 9), (60, 10)] rfl rfl rfl, out ++ [e], a2, ⟨ha2, rfl, by omega⟩, hOk2, hI2, congrArg (fun R => (⟨some (.bx 0 0) :: none :: none :: none :: some (av (.int .i64 p)) :: none :: none :: some (av (.string B)) :: some (.bx 9 0) :: some (.one (.ref 10 0 (.cell 0))) :: List.replicate 69 none, ⟨0, 0, some [vs s, vi ((q + n + 1 : Nat) : Int)]⟩ :: absent :: absent :: absent :: absent :: absent :: absent :: absent :: absent :: ⟨0, 0, some [vs B, vi a2]⟩ :: ⟨0, 1, some [.us 83 R]⟩ :: List.replicate 69 absent⟩ : St)) hmap⟩
  ·refine Exists.elim hx fun a2 hx => ?_
   have hE := hx.1
   have hr := hx.2
   clear hx hI hOk k0 k1 k2 k3 hround
   subst hr
   subst hst
   refine spT (by omega) fun h1 => ?_
   refine ACall.mk _ _ hE ?_
   refine sp0 ?_
   exact Need.mk ⟨[], _, .same, rfl, rfl⟩ trivial
 ·have hfin := hlast out a hlt hlen hI
  have hBk := impl_batchOk out hOk (by omega)
  have hFT := impl_FrameText out hOk (by omega)
  have hex : ∃ c, batOk out = c := ⟨_, rfl⟩
  refine Exists.elim hex fun c hc => ?_
  rw [hc] at hBk
  cases c with
  | false =>
   have hr := k1 out hfin hc
   clear hI hOk k0 k1 k2 k3 hround hlast hex
   subst hr
   subst hst
   refine spF (by omega) fun h1 => ?_
   refine Fz.mk _ (frzE _) ?_
   refine ACall.mk _ _ hBk ?_
   refine Need.mk (⟨ClL.mem (.v .nil), no_objs⟩) ?_
   refine sp0 ?_
   refine Need.mk (rfl) ?_
   exact Need.mk ⟨[], _, .same, rfl, rfl⟩ trivial
  | true =>
   have hcs := Int.toNat_natCast p
   by_cases hcmp : bt (frameT out) = s.extract ((p : Int)).toNat (((q + n + 1 : Nat) : Int)).toNat
   ·have hr := k3 out hfin hc hcmp
    clear hI hOk k0 k1 k2 k3 hround hlast hex
    subst hr
    subst hst
    refine spF (by omega) fun h1 => ?_
    refine Fz.mk _ (frzE _) ?_
    refine ACall.mk _ _ hBk ?_
    refine Need.mk (⟨ClL.mem (.v .nil), no_objs⟩) ?_
    refine sp1 ?_
    refine Fz.mk _ (frzE _) ?_
    refine ACall.mk _ _ hFT ?_
    refine Need.mk (⟨ClL.mem (.v .nil), no_objs⟩) ?_
    refine nd ?_
    refine Split.mk fun t h3 => ?_
    cases t
    case true => (exfalso; rw [Bool.not_eq_true', bytes_beq, decide_eq_false_iff_not] at h3; exact absurd ‹_› h3)
    rw [Bool.not_eq_false', bytes_beq, decide_eq_true_iff] at h3
    refine Need.mk (rfl) ?_
    exact Need.mk ⟨[], _, .same, rfl, rfl⟩ trivial
   ·have hr := k2 out hfin hc hcmp
    clear hI hOk k0 k1 k2 k3 hround hlast hex
    subst hr
    subst hst
    refine spF (by omega) fun h1 => ?_
    refine Fz.mk _ (frzE _) ?_
    refine ACall.mk _ _ hBk ?_
    refine Need.mk (⟨ClL.mem (.v .nil), no_objs⟩) ?_
    refine sp1 ?_
    refine Fz.mk _ (frzE _) ?_
    refine ACall.mk _ _ hFT ?_
    refine Need.mk (⟨ClL.mem (.v .nil), no_objs⟩) ?_
    refine nd ?_
    refine Split.mk fun t h3 => ?_
    cases t
    case false => (exfalso; rw [Bool.not_eq_false', bytes_beq, decide_eq_true_iff] at h3; exact absurd h3 ‹_›)
    rw [Bool.not_eq_true', bytes_beq, decide_eq_false_iff_not] at h3
    refine Need.mk (rfl) ?_
    exact Need.mk ⟨[], _, .same, rfl, rfl⟩ trivial
theorem reader_batch (s : ByteArray) (p : Nat) (hs : s.size ≤ 1048576) (hp : p ≤ s.size) :
  (∃ (b : List Ent) (q : Nat), frameD ((tb s).drop p) = some (b, (tb s).drop q) ∧ p < q ∧ q ≤ s.size ∧ AFnK Tryz.prog 104 [.bx 0 0] [lrd s p] [0] (.tup [.one (.us 83 (b.map Ent.enc)), .one (vb true)]) [lrd s q]) ∨
  (frameD ((tb s).drop p) = none ∧ ∃ q : Nat, AFnK Tryz.prog 104 [.bx 0 0] [lrd s p] [0] failB [lrd s q]) := by
 have hex : ∃ x, numB s p = x := ⟨_, rfl⟩
 obtain ⟨⟨n, c, q⟩, hN⟩ := hex
 cases c with
 | false =>
  obtain ⟨g1, g2⟩ := numB_no hp hN
  subst g2
  exact .inr ⟨frameI_no g1, q, reader_batch1 s p hs hp q hN⟩
 | true =>
  obtain ⟨g1, hpq, hq, n1, n2⟩ := numB_ok hp hN
  by_cases hl : n < 0 ∨ (s.size : Int) - q < n
  ·exact .inr ⟨frameI_cut hq g1 (by omega), q, reader_batch2 s p hs hp n q hN hq hl⟩
  ·obtain ⟨m, rfl⟩ : ∃ m : Nat, n = m := ⟨n.toNat, by omega⟩
   by_cases he : q + m = s.size
   ·exact .inr ⟨frameI_cut hq g1 (by omega), q + m, reader_batch3 s p hs hp m q hN he⟩
   ·have hl2 : q + m + 1 ≤ s.size := by omega
    have hF := frameI_body hpq hl2 g1
    cases hB : RI.body 12 [] (tb (s.extract q (q + m))) with
    | none =>
     rw [hB, Option.bind_none] at hF
     exact .inr ⟨hF, _, reader_batchM s p hs hp m q hN hl2 hpq _ rfl failB (fun _ => rfl) (fun _ _ _ => rfl) (fun _ _ _ _ => rfl) (fun b hb => by rw [hB] at hb; cases hb)⟩
    | some b =>
     rw [hB, Option.bind_some] at hF
     by_cases hcmp : bt (frameT b) = s.extract p (q + m + 1)
     ·rw [if_pos hcmp] at hF
      have hbt : batOk b = true := by
       cases hb : batOk b with
       | true => rfl
       | false => exact absurd hcmp (frameI_none hpq hl2 hb)
      refine .inl ⟨b, q + m + 1, hF, by omega, hl2, reader_batchM s p hs hp m q hN hl2 hpq _ rfl _ (fun h => ?_) (fun b' h1 h2 => ?_) (fun b' h1 _ h3 => ?_) (fun b' h1 _ _ => ?_)⟩
      ·rw [hB] at h; cases h
      ·rw [hB] at h1; injection h1 with h1; subst h1; rw [hbt] at h2; cases h2
      ·rw [hB] at h1; injection h1 with h1; subst h1; exact absurd hcmp h3
      ·rw [hB] at h1; injection h1 with h1; subst h1; rfl
     ·rw [if_neg hcmp] at hF
      refine .inr ⟨hF, _, reader_batchM s p hs hp m q hN hl2 hpq _ rfl failB (fun _ => rfl) (fun _ _ _ => rfl) (fun _ _ _ _ => rfl) (fun b' h1 _ h3 => ?_)⟩
      rw [hB] at h1; injection h1 with h1; subst h1; exact absurd h3 hcmp
def encXO (l : List Ent) : List C := [.us 83 (l.map Ent.enc)]
theorem frzX (xs : List (List Ent)) : Frz (.us 32 (xs.map encXO)) (.sl (xs.map encX)) := frz_map fun r _ => .cons (frzE r) .nil
theorem impl_FrameRead (s : ByteArray) (hs : s.size ≤ 1048576) (R : List (List Ent)) (r : Bs) (hR : readD (tb s) = (R, r)) : AFn Tryz.prog 56 [av (.string s)] [] (.tup [.one (.us 32 (R.map encXO)), .one (vi ((s.size : Int) - r.length))]) [] := by
 have hpos : 0 < Tryz.prog.cellsOf 32 := pos_of tab_ok (t := 32) rfl
 have hround : ∀ (out : List (List Ent)) (p : Nat), p ≤ s.size → readD (tb s) = (out ++ (readD ((tb s).drop p)).1, (readD ((tb s).drop p)).2) →
   (∃ (b : List Ent) (q : Nat), AFnK Tryz.prog 104 [.bx 0 0] [lrd s p] [0] (.tup [.one (.us 83 (b.map Ent.enc)), .one (vb true)]) [lrd s q] ∧ p < q ∧ q ≤ s.size ∧ readD (tb s) = ((out ++ [b]) ++ (readD ((tb s).drop q)).1, (readD ((tb s).drop q)).2)) ∨
   (∃ q : Nat, AFnK Tryz.prog 104 [.bx 0 0] [lrd s p] [0] (.tup [.one (.v nilV), .one (vb false)]) [lrd s q] ∧ RV.tup [.one (.us 32 (out.map encXO)), .one (vi (p : Int))] = RV.tup [.one (.us 32 (R.map encXO)), .one (vi ((s.size : Int) - r.length))]) := by
  intro out p hp hI
  rcases reader_batch s p hs hp with ⟨b, q, g1, g2, g3, g4⟩ | ⟨g1, q, g2⟩
  ·refine .inl ⟨b, q, g4, g2, g3, ?_⟩
   rw [hI, readD_some g1]
   simp
  ·refine .inr ⟨q, g2, ?_⟩
   rw [readD_none g1, hR] at hI
   injection hI with e1 e2
   rw [List.append_nil] at e1
   rw [e1, e2, List.length_drop, tb_len, show (s.size : Int) - ((s.size - p : Nat) : Int) = p by omega]
 refine AFn.introX (E := En 0 md0) (en_ok 0 md0) Tryz.func56 rfl rfl rfl fun _ _ => ?_
 let S : List (List Ent) → Nat → St := fun out p => ⟨none :: none :: none :: none :: some (.bx 4 0) :: some (.one (.ref 5 0 (.cell 0))) :: List.replicate 19 none, absent :: absent :: absent :: absent :: ⟨0, 0, some [vs s, vi p]⟩ :: ⟨0, 1, some [.us 32 (out.map encXO)]⟩ :: List.replicate 19 absent⟩
 refine ALoop.mk (fun m st => ∃ (out : List (List Ent)) (p : Nat), (p ≤ s.size ∧ out.length ≤ p ∧ m = s.size - p) ∧ readD (tb s) = (out ++ (readD ((tb s).drop p)).1, (readD ((tb s).drop p)).2) ∧ st = S out p)
  ⟨_, _, Weak.trans (Weak.nrm [false, false, false, false, true, true] [(4, 4)] rfl rfl rfl) (Weak.nilOwn 5 5 32 rfl rfl hpos), [], 0, ⟨Nat.zero_le _, Nat.zero_le _, rfl⟩, rfl, rfl⟩ ?_
 rintro m st ⟨out, p, ⟨hp, hop, rfl⟩, hI, hst⟩
 have hol : (out.map encXO).length = out.length := List.length_map ..
 refine Or.elim (hround out p hp hI) (fun hx => ?_) fun hx => ?_
 ·refine Exists.elim hx fun b hx => ?_
  refine Exists.elim hx fun q hx => ?_
  have hB := hx.1
  have h2 := hx.2.1
  have h3 := hx.2.2.1
  have hI2 := hx.2.2.2
  have hol2 : (out ++ [b]).length = out.length + 1 := by simp
  have hmap : out.map encXO ++ [encXO b] = (out ++ [b]).map encXO := by rw [List.map_append]; rfl
  clear hx hI hround
  subst hst
  refine ACall.mk _ _ hB ?_
  refine sp1 ?_
  refine apq (A' := _) (B' := [encXO b]) rfl rfl ?_
  exact ⟨_, _, by omega, Weak.nrm [false, false, false, false, true, true] [(4, 4), (24, 5)] rfl rfl rfl, out ++ [b], q, ⟨h3, by omega, rfl⟩, hI2, congrArg (fun R => (⟨none :: none :: none :: none :: some (.bx 4 0) :: some (.one (.ref 5 0 (.cell 0))) :: List.replicate 19 none, absent :: absent :: absent :: absent :: ⟨0, 0, some [vs s, vi q]⟩ :: ⟨0, 1, some [.us 32 R]⟩ :: List.replicate 19 absent⟩ : St)) hmap⟩
 ·refine Exists.elim hx fun q hx => ?_
  have hB := hx.1
  have hres := hx.2
  clear hx hI hround
  subst hst
  refine ACall.mk _ _ hB ?_
  refine sp0 ?_
  exact Need.mk ⟨[], _, .same, hres, rfl⟩ trivial
def CmpOk (f : FuncId) (lt : Ent → Ent → Bool) : Prop := ∃ ord : Ent → Ent → Int, (∀ x y, decide (ord x y < 0) = lt x y) ∧ ∀ x y, AFn Tryz.prog f [.agg (x.enc.map .c), .agg (y.enc.map .c)] [] (.one (vi (ord x y))) []
theorem slices_insertionSort (f : FuncId) (lt : Ent → Ent → Bool) (hf : CmpOk f lt) (xs : List Ent) (a b : Nat) (hab : a ≤ b) (hb : b ≤ xs.length) (hx : xs.length ≤ 1099511627776) :
  AFn Tryz.prog 182 [.one (.ref 0 0 (.cell 0)), av (.int .i64 a), av (.int .i64 b), av (.func (.func f) #[] #[])] [[.us 83 (xs.map Ent.enc)]] (.tup []) [[.us 83 ((sortRange lt xs a b).map Ent.enc)]] := by
 obtain ⟨ord, hord, hfn⟩ := hf
 refine AFn.introX (E := En 1 md0) (en_ok 1 _) Tryz.func182 rfl rfl rfl fun _ hs => ?_
 let S : List Ent → Nat → Option AV → St := fun ys i j => ⟨some (.one (.ref 0 0 (.cell 0))) :: some (av (.int .i64 a)) :: some (av (.int .i64 b)) :: some (av (.func (.func f) #[] #[])) :: none :: none :: none :: none :: some (av (.int .i64 i)) :: j :: List.replicate 43 none, ⟨0, 1, some [.us 83 (ys.map Ent.enc)]⟩ :: List.replicate 53 absent⟩
 refine Num.mk _ (wrapS (by omega)) ?_
 refine ALoop.mk (fun n s => ∃ i : Nat, n = b - i ∧ a < i ∧ (i ≤ b ∨ i = a + 1) ∧ s = S (sortRange lt xs a (min i b)) i none)
  ⟨b - (a + 1), _, Weak.nrm [true, true, true, true, false, false, false, false, true] [(0, 0)] rfl rfl rfl, a + 1, rfl, by omega, .inr rfl, ?_⟩ ?_
 ·have : sortRange lt xs a (min (a + 1) b) = xs := by
   by_cases h : a < b
   ·rw [Nat.min_eq_left (by omega), sortRange_one lt (by omega)]
   ·rw [Nat.min_eq_right (by omega), show b = a by omega, sortRange_self]
  rw [this]; rfl
 rintro n s ⟨i, rfl, hai, hib, hs⟩
 by_cases hi : b ≤ i
 ·rw [Nat.min_eq_right hi] at hs
  subst hs
  refine Split.mk fun t ht => ?_
  cases t
  ·exact Need.mk ⟨[], _, .same, rfl, rfl⟩ trivial
  ·simp at ht; omega
 ·have hix : i < xs.length := by omega
  rw [Nat.min_eq_left (by omega), sortRange_split lt hix] at hs
  have hex := exq (isort lt ((xs.drop a).take (i - a)))
  obtain ⟨acc, hacc⟩ := hex
  rw [hacc] at hs
  subst hs
  have hal : acc.length = i - a := by rw [← hacc, isort_len, List.length_take, List.length_drop]; omega
  have hpl : (xs.take a).length = a := by rw [List.length_take]; omega
  refine Split.mk fun t ht => ?_
  cases t
  ·simp at ht; omega
  refine ALoop.mk (fun n s => ∃ (u v : List Ent), n = u.length ∧ u.length + v.length = i - a ∧ ins lt u xs[i] ++ v = ins lt acc xs[i] ∧ s = S (xs.take a ++ u ++ xs[i] :: (v ++ xs.drop (i + 1))) i (some (av (.int .i64 ((a + u.length : Nat) : Int)))))
   ⟨acc.length, _, Weak.nrm [true, true, true, true, false, false, false, false, true, true] [(0, 0)] rfl rfl rfl, acc, [], rfl, by simp [hal], by simp, ?_⟩ ?_
  ·rw [show a + acc.length = i by omega]; rfl
  rintro n s ⟨u, v, rfl, hl, hins, hs⟩
  have stop : ins lt u xs[i] = u ++ [xs[i]] → xs.take a ++ u ++ xs[i] :: (v ++ xs.drop (i + 1)) = sortRange lt xs a (min (i + 1) b) := fun h => by
   rw [Nat.min_eq_left (by omega), sortRange_succ lt (by omega) hix, hacc, ← hins, h]; simp
  by_cases hu : u = []
  ·rw [stop (by rw [hu]; rfl), hu] at hs
   clear stop hins hl hacc hal hpl
   subst hs
   refine Split.mk fun t ht2 => ?_
   cases t
   ·refine Need.mk rfl ?_
    refine Num.mk _ (wrapS (by omega)) ?_
    exact ⟨b - (i + 1), _, by omega, Weak.nrm [true, true, true, true, false, false, false, false, true] [(0, 0)] rfl rfl rfl, i + 1, rfl, by omega, .inl (by omega), rfl⟩
   ·simp at ht2
  ·have hsn := snoc_of (List.length_pos_iff.2 hu)
   obtain ⟨u', x, hu⟩ := hsn
   subst hu
   have hul : (u' ++ [x]).length = u'.length + 1 := by simp
   by_cases hlt : lt xs[i] x = false
   ·skip
    have g1 : ((sortRange lt xs a (min (i + 1) b)).map Ent.enc)[a + (u' ++ [x]).length]? = some xs[i].enc := by
     rw [← stop (ins_stop lt _ _ _ hlt), List.getElem?_map, get_mid (by rw [hpl])]; rfl
    have g2 : ((sortRange lt xs a (min (i + 1) b)).map Ent.enc)[a + u'.length]? = some x.enc := by
     rw [← stop (ins_stop lt _ _ _ hlt), show xs.take a ++ (u' ++ [x]) ++ xs[i] :: (v ++ xs.drop (i + 1)) = xs.take a ++ u' ++ x :: (xs[i] :: (v ++ xs.drop (i + 1))) by simp, List.getElem?_map, get_mid (by rw [hpl])]; rfl
    rw [stop (ins_stop lt _ _ _ hlt)] at hs
    have hlen : ((sortRange lt xs a (min (i + 1) b)).map Ent.enc).length = xs.length := by rw [List.length_map, sortRange_len lt (by omega) (by omega)]
    clear stop hins hacc
    subst hs
    refine Split.mk fun t ht2 => ?_
    cases t
    ·simp at ht2; omega
    refine Need.mk ⟨by omega, by rw [hlen]; omega⟩ ?_
    refine Row.mk _ g1 ?_
    refine Num.mk ((a + u'.length : Nat) : Int) (by rw [IntKind.wrap_i64]; omega) ?_
    refine Need.mk ⟨by omega, by rw [hlen]; omega⟩ ?_
    refine Row.mk _ g2 ?_
    refine ACall.mk _ _ (hfn xs[i] x) ?_
    refine Split.mk fun t ht3 => ?_
    rw [hord, hlt] at ht3
    subst ht3
    refine Need.mk rfl ?_
    refine Num.mk _ (wrapS (by omega)) ?_
    exact ⟨b - (i + 1), _, by omega, Weak.nrm [true, true, true, true, false, false, false, false, true] [(0, 0)] rfl rfl rfl, i + 1, rfl, by omega, .inl (by omega), rfl⟩
   ·have hlt : lt xs[i] x = true := by simpa using hlt
    clear stop
    have hins' : ins lt u' xs[i] ++ (x :: v) = ins lt acc xs[i] := by rw [← hins, ins_step lt _ _ _ hlt]; simp
    clear hins hacc
    have hex := exq (xs.take a ++ (u' ++ [x]) ++ xs[i] :: (v ++ xs.drop (i + 1)))
    obtain ⟨ys, hys⟩ := hex
    rw [hys] at hs
    have e1 : xs.take a ++ u' ++ x :: (xs[i] :: (v ++ xs.drop (i + 1))) = ys := by rw [← hys]; simp
    have g1 : (ys.map Ent.enc)[a + (u' ++ [x]).length]? = some xs[i].enc := by
     rw [← hys, List.getElem?_map, get_mid (by rw [hpl])]; rfl
    have g2 : (ys.map Ent.enc)[a + u'.length]? = some x.enc := by
     rw [← e1, List.getElem?_map, get_mid (by rw [hpl])]; rfl
    have hlen : (ys.map Ent.enc).length = xs.length := by rw [← hys]; simp at hl ⊢; omega
    have e2 : ((ys.map Ent.enc).set (a + (u' ++ [x]).length) x.enc).set (a + u'.length) xs[i].enc = (xs.take a ++ u' ++ xs[i] :: (x :: v ++ xs.drop (i + 1))).map Ent.enc := by
     rw [← List.map_set, ← List.map_set, ← hys, set_mid (by rw [hpl]), show xs.take a ++ (u' ++ [x]) ++ x :: (v ++ xs.drop (i + 1)) = xs.take a ++ u' ++ x :: (x :: (v ++ xs.drop (i + 1))) by simp, set_mid (by rw [hpl])]; rfl
    have g3 : ((ys.map Ent.enc).set (a + (u' ++ [x]).length) x.enc)[a + u'.length]? = some x.enc := by
     rw [List.getElem?_set_ne (by omega)]; exact g2
    have hlen2 : ((ys.map Ent.enc).set (a + (u' ++ [x]).length) x.enc).length = xs.length := by rw [List.length_set, hlen]
    clear hys e1
    subst hs
    refine Split.mk fun t ht2 => ?_
    cases t
    ·simp at ht2; omega
    refine Need.mk ⟨by omega, by rw [hlen]; omega⟩ ?_
    refine Row.mk _ g1 ?_
    refine Num.mk ((a + u'.length : Nat) : Int) (by rw [IntKind.wrap_i64]; omega) ?_
    refine Need.mk ⟨by omega, by rw [hlen]; omega⟩ ?_
    refine Row.mk _ g2 ?_
    refine ACall.mk _ _ (hfn xs[i] x) ?_
    refine Split.mk fun t ht3 => ?_
    rw [hord, hlt] at ht3
    subst ht3
    refine Need.mk rfl ?_
    have hnum : IntKind.i64.wrap (((a + (u' ++ [x]).length : Nat) : Int) - 1) = ((a + u'.length : Nat) : Int) := by rw [IntKind.wrap_i64]; omega
    refine Num.mk _ hnum ?_
    refine Num.mk _ hnum ?_
    refine Need.mk ⟨by omega, by rw [hlen]; omega⟩ ?_
    refine Row.mk _ g2 ?_
    refine Need.mk ⟨by omega, by rw [hlen]; omega⟩ ?_
    refine Row.mk _ g1 ?_
    refine Need.mk ⟨by omega, by rw [hlen]; omega⟩ ?_
    refine Row.mk _ g1 ?_
    refine Need.mk ⟨by omega, show ((a + u'.length : Nat) : Int) < ((((ys.map Ent.enc).set (a + (u' ++ [x]).length) x.enc).length : Nat) : Int) from by rw [hlen2]; omega⟩ ?_
    refine Row.mk _ g3 ?_
    refine Need.mk rfl ?_
    refine Num.mk _ hnum ?_
    refine ⟨u'.length, _, by omega, Weak.nrm [true, true, true, true, false, false, false, false, true, true] [(0, 0)] rfl rfl rfl, u', x :: v, rfl, by simp at hl ⊢; omega, hins', ?_⟩
    refine Eq.trans (b := ⟨some (.one (.ref 0 0 (.cell 0))) :: some (av (.int .i64 a)) :: some (av (.int .i64 b)) :: some (av (.func (.func f) #[] #[])) :: none :: none :: none :: none :: some (av (.int .i64 i)) :: some (av (.int .i64 ((a + u'.length : Nat) : Int))) :: List.replicate 43 none, ⟨0, 1, some [.us 83 (((ys.map Ent.enc).set (a + (u' ++ [x]).length) x.enc).set (a + u'.length) xs[i].enc)]⟩ :: List.replicate 53 absent⟩) rfl ?_
    rw [e2]
theorem slices_swapRange (f : FuncId) (x p m q y : List Ent) (h : p.length = q.length) (hx : x.length + p.length + m.length + q.length + y.length ≤ 1099511627776) :
  AFn Tryz.prog 220 [.one (.ref 0 0 (.cell 0)), av (.int .i64 x.length), av (.int .i64 ((x.length + p.length + m.length : Nat) : Int)), av (.int .i64 p.length), av (.func (.func f) #[] #[])] [[.us 83 ((x ++ p ++ m ++ q ++ y).map Ent.enc)]] (.tup []) [[.us 83 ((x ++ q ++ m ++ p ++ y).map Ent.enc)]] := by
 refine AFn.introX (E := En 1 md0) (en_ok 1 _) Tryz.func220 rfl rfl rfl fun _ hs => ?_
 let S : List (List C) → Nat → St := fun rows i => ⟨some (.one (.ref 0 0 (.cell 0))) :: some (av (.int .i64 x.length)) :: some (av (.int .i64 ((x.length + p.length + m.length : Nat) : Int))) :: some (av (.int .i64 p.length)) :: none :: none :: none :: none :: none :: none :: some (av (.int .i64 i)) :: List.replicate 27 none, ⟨0, 1, some [.us 83 rows]⟩ :: List.replicate 38 absent⟩
 refine ALoop.mk (fun n s => ∃ i : Nat, i ≤ p.length ∧ n = p.length - i ∧ s = S ((swZ x p m q y i).map Ent.enc) i)
  ⟨p.length, _, Weak.nrm [true, true, true, true, false, false, false, false, false, false, true] [(0, 0)] rfl rfl rfl, 0, Nat.zero_le _, rfl, ?_⟩ ?_
 ·rw [swZ_zero]; rfl
 rintro n s ⟨i, hi, rfl, hs⟩
 by_cases hia : i = p.length
 ·subst hia
  rw [swZ_end x p m q y h] at hs
  subst hs
  refine Split.mk fun t ht => ?_
  cases t
  ·exact Need.mk ⟨[], _, .same, rfl, rfl⟩ trivial
  ·simp at ht
 ·have hil : i < p.length := by omega
  have g1 : ((swZ x p m q y i).map Ent.enc)[x.length + i]? = some p[i].enc := by rw [List.getElem?_map, swZ_get1 h hil]; rfl
  have g2 : ((swZ x p m q y i).map Ent.enc)[x.length + p.length + m.length + i]? = some (q[i]'(by omega)).enc := by rw [List.getElem?_map, swZ_get2 h hil]; rfl
  have g3 : (((swZ x p m q y i).map Ent.enc).set (x.length + i) (q[i]'(by omega)).enc)[x.length + p.length + m.length + i]? = some (q[i]'(by omega)).enc := by rw [← List.map_set, List.getElem?_map, swZ_get3 h hil]; rfl
  have e2 : (((swZ x p m q y i).map Ent.enc).set (x.length + i) (q[i]'(by omega)).enc).set (x.length + p.length + m.length + i) p[i].enc = (swZ x p m q y (i + 1)).map Ent.enc := by rw [← List.map_set, ← List.map_set, swZ_set2 h hil]
  have hlen : ((swZ x p m q y i).map Ent.enc).length = x.length + p.length + m.length + q.length + y.length := by rw [List.length_map, swZ_len _ _ _ _ _ _ h]
  have hlen2 : (((swZ x p m q y i).map Ent.enc).set (x.length + i) (q[i]'(by omega)).enc).length = x.length + p.length + m.length + q.length + y.length := by rw [List.length_set, hlen]
  have n1 : IntKind.i64.wrap ((x.length : Int) + (i : Int)) = ((x.length + i : Nat) : Int) := by rw [IntKind.wrap_i64]; omega
  have n2 : IntKind.i64.wrap (((x.length + p.length + m.length : Nat) : Int) + (i : Int)) = ((x.length + p.length + m.length + i : Nat) : Int) := by rw [IntKind.wrap_i64]; omega
  subst hs
  refine Split.mk fun t ht => ?_
  cases t
  ·simp at ht; omega
  refine Num.mk _ n1 ?_
  refine Num.mk _ n2 ?_
  refine Num.mk _ n2 ?_
  refine Need.mk ⟨by omega, by rw [hlen]; omega⟩ ?_
  refine Row.mk _ g2 ?_
  refine Num.mk _ n1 ?_
  refine Need.mk ⟨by omega, by rw [hlen]; omega⟩ ?_
  refine Row.mk _ g1 ?_
  refine Need.mk ⟨by omega, by rw [hlen]; omega⟩ ?_
  refine Row.mk _ g1 ?_
  refine Need.mk ⟨by omega, show ((x.length + p.length + m.length + i : Nat) : Int) < (((((swZ x p m q y i).map Ent.enc).set (x.length + i) (q[i]'(by omega)).enc).length : Nat) : Int) from by rw [hlen2]; omega⟩ ?_
  refine Row.mk _ g3 ?_
  refine Need.mk rfl ?_
  refine Num.mk _ (wrapS (by omega)) ?_
  refine ⟨p.length - (i + 1), _, by omega, Weak.nrm [true, true, true, true, false, false, false, false, false, false, true] [(0, 0)] rfl rfl rfl, i + 1, by omega, rfl, ?_⟩
  refine Eq.trans (b := S ((((swZ x p m q y i).map Ent.enc).set (x.length + i) (q[i]'(by omega)).enc).set (x.length + p.length + m.length + i) p[i].enc) (i + 1)) rfl ?_
  rw [e2]
theorem slices_swapRange' (f : FuncId) (x p m q y : List Ent) (l r : List Ent) (a b n : Nat) (hl : l = x ++ p ++ m ++ q ++ y) (hr : r = x ++ q ++ m ++ p ++ y) (ha : a = x.length) (hb : b = x.length + p.length + m.length) (hn : n = p.length) (h : p.length = q.length) (hx : l.length ≤ 1099511627776) :
  AFn Tryz.prog 220 [.one (.ref 0 0 (.cell 0)), av (.int .i64 a), av (.int .i64 b), av (.int .i64 n), av (.func (.func f) #[] #[])] [[.us 83 (l.map Ent.enc)]] (.tup []) [[.us 83 (r.map Ent.enc)]] := by
 subst hl hr ha hb hn
 exact slices_swapRange f x p m q y h (by simpa [Nat.add_assoc] using hx)
theorem slices_rotate (f : FuncId) (x u v y l r : List Ent) (a m b : Nat) (hl : l = x ++ u ++ v ++ y) (hr : r = x ++ v ++ u ++ y) (ha : a = x.length) (hm : m = x.length + u.length) (hb : b = x.length + u.length + v.length) (hu : 0 < u.length) (hv : 0 < v.length) (hx : l.length ≤ 1099511627776) :
  AFn Tryz.prog 203 [.one (.ref 0 0 (.cell 0)), av (.int .i64 a), av (.int .i64 m), av (.int .i64 b), av (.func (.func f) #[] #[])] [[.us 83 (l.map Ent.enc)]] (.tup []) [[.us 83 (r.map Ent.enc)]] := by
 have hll : l.length = x.length + u.length + v.length + y.length := by rw [hl]; simp; omega
 refine AFn.introX (E := En 1 (md1 [220])) (en_ok 1 _) Tryz.func203 rfl rfl rfl fun _ hs => ?_
 let S : List Ent → Nat → Nat → St := fun ys i j => ⟨some (.one (.ref 0 0 (.cell 0))) :: some (av (.int .i64 a)) :: some (av (.int .i64 m)) :: some (av (.int .i64 b)) :: some (av (.func (.func f) #[] #[])) :: none :: none :: none :: none :: none :: some (av (.int .i64 i)) :: some (av (.int .i64 j)) :: List.replicate 46 none, ⟨0, 1, some [.us 83 (ys.map Ent.enc)]⟩ :: List.replicate 58 absent⟩
 refine Num.mk (u.length : Int) (by rw [IntKind.wrap_i64]; omega) ?_
 refine Num.mk (v.length : Int) (by rw [IntKind.wrap_i64]; omega) ?_
 refine ALoop.mk (fun n s => ∃ (x' u' v' y' : List Ent) (i j : Nat), n = i + j ∧ i = u'.length ∧ j = v'.length ∧ 0 < i ∧ 0 < j ∧ x'.length + i = m ∧ x'.length + i + j + y'.length = l.length ∧ x' ++ v' ++ u' ++ y' = r ∧ s = S (x' ++ u' ++ v' ++ y') i j)
  ⟨u.length + v.length, _, Weak.nrm [true, true, true, true, true, false, false, false, false, false, true, true] [(0, 0)] rfl rfl rfl, x, u, v, y, u.length, v.length, rfl, rfl, rfl, hu, hv, by omega, by omega, hr.symm, by rw [← hl]; rfl⟩ ?_
 rintro n s ⟨x', u', v', y', i, j, rfl, hi, hj, hi0, hj0, hmm, htot, htar, hs⟩
 have hlen' : (x' ++ u' ++ v' ++ y').length ≤ 1099511627776 := by simp; omega
 by_cases hij : i = j
 ·have hcall := slices_swapRange' f x' u' [] v' y' (x' ++ u' ++ v' ++ y') r (m - i) m i (by simp) (by rw [← htar]; simp) (by omega) (by simp; omega) hi (by omega) hlen'
  subst hs
  refine Split.mk fun t ht => ?_
  cases t
  ·refine Num.mk ((m - i : Nat) : Int) (by rw [IntKind.wrap_i64]; omega) ?_
   refine ACall.mk _ _ hcall ?_
   exact Need.mk ⟨[], _, .same, rfl, rfl⟩ trivial
  ·simp at ht; omega
 ·by_cases hgt : j < i
  ·have e1 : u' = u'.take j ++ u'.drop j := (List.take_append_drop j u').symm
   have l1 : (u'.take j).length = j := by rw [List.length_take]; omega
   have l2 : (u'.drop j).length = i - j := by rw [List.length_drop]; omega
   have hcall := slices_swapRange' f x' (u'.take j) (u'.drop j) v' y' (x' ++ u' ++ v' ++ y') (x' ++ v' ++ u'.drop j ++ u'.take j ++ y') (m - i) m j (by rw [List.append_assoc x' (u'.take j), List.take_append_drop]) rfl (by omega) (by omega) l1.symm (by omega) hlen'
   have htar2 : x' ++ v' ++ u'.take j ++ u'.drop j ++ y' = r := by rw [List.append_assoc (x' ++ v') (u'.take j), List.take_append_drop, htar]
   subst hs
   refine Split.mk fun t ht => ?_
   cases t
   ·simp at ht; omega
   refine Split.mk fun t ht2 => ?_
   cases t
   ·simp at ht2; omega
   refine Num.mk ((m - i : Nat) : Int) (by rw [IntKind.wrap_i64]; omega) ?_
   refine ACall.mk _ _ hcall ?_
   refine Num.mk ((i - j : Nat) : Int) (by rw [IntKind.wrap_i64]; omega) ?_
   exact ⟨i - j + j, _, by omega, Weak.nrm [true, true, true, true, true, false, false, false, false, false, true, true] [(0, 0)] rfl rfl rfl, x' ++ v', u'.drop j, u'.take j, y', i - j, j, rfl, l2.symm, l1.symm, by omega, by omega, by simp; omega, by simp; omega, htar2, rfl⟩
  ·have l1 : (v'.take (j - i)).length = j - i := by rw [List.length_take]; omega
   have l2 : (v'.drop (j - i)).length = i := by rw [List.length_drop]; omega
   have hcall := slices_swapRange' f x' u' (v'.take (j - i)) (v'.drop (j - i)) y' (x' ++ u' ++ v' ++ y') (x' ++ v'.drop (j - i) ++ v'.take (j - i) ++ (u' ++ y')) (m - i) (m + j - i) i (by rw [List.append_assoc (x' ++ u') (v'.take (j - i)), List.take_append_drop]) (by simp) (by omega) (by omega) hi (by omega) hlen'
   have htar2 : x' ++ v'.take (j - i) ++ v'.drop (j - i) ++ (u' ++ y') = r := by rw [List.append_assoc x' (v'.take (j - i)), List.take_append_drop, ← List.append_assoc, htar]
   subst hs
   refine Split.mk fun t ht => ?_
   cases t
   ·simp at ht; omega
   refine Split.mk fun t ht2 => ?_
   cases t
   ·refine Num.mk ((m - i : Nat) : Int) (by rw [IntKind.wrap_i64]; omega) ?_
    refine Num.mk ((m + j : Nat) : Int) (by rw [IntKind.wrap_i64]; omega) ?_
    refine Num.mk ((m + j - i : Nat) : Int) (by rw [IntKind.wrap_i64]; omega) ?_
    refine ACall.mk _ _ hcall ?_
    refine Num.mk ((j - i : Nat) : Int) (by rw [IntKind.wrap_i64]; omega) ?_
    exact ⟨i + (j - i), _, by omega, Weak.nrm [true, true, true, true, true, false, false, false, false, false, true, true] [(0, 0)] rfl rfl rfl, x', v'.drop (j - i), v'.take (j - i), u' ++ y', i, j - i, rfl, l2.symm, l1.symm, by omega, by omega, by omega, by simp; omega, htar2, rfl⟩
   ·simp at ht2; omega
end Go.Proofs.YtpcimdalgpfkaaaGreatDoor
