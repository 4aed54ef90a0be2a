/-
  Contracts of functions, part 5.
-/
import Derived.Test.YtcnongahanmclaaGreatTFnExactTreeCompactD
namespace Go.Proofs.YtcnongahanmclaaGreat
open Go Go.Proofs Ev
set_option maxRecDepth 100000
set_option maxHeartbeats 40000000
set_option linter.unusedSimpArgs false
set_option linter.unusedVariables false
theorem impl_Squash_ok (l : List Ent) (snaps : List Int) (hs0 : snaps.length ≤ 1099511627776) (hl : l.length ≤ 1000000) (hx : OkE l) (hok : ordOk l = true) (last : Bool) (o : List Ent) (ho : squash l snaps last = o) :
  AFn Tryz.prog 134 [sl (l.map Ent.enc), sl (snaps.map encI), av (.bool last)] [] (.one (.us 54 (o.map Ent.enc))) [] := by
 have hn : (l.map Ent.enc).length = l.length := List.length_map ..
 have hR := impl_inOrder l hx (Nat.le_trans hl (by decide))
 rw [hok] at hR
 refine AFn.introX (E := En 0 md0) (en_ok 0 _ _ _ _ _) Tryz.func134 rfl rfl rfl fun _ _ => ?_
 refine ACall.mk _ _ hR ?_
 refine sp1 ?_
 let S : Nat → List (List C) → St := fun i R => ⟨some (sl (List.map Ent.enc l)) :: some (sl (List.map encI snaps)) :: some (av (.bool last)) :: none :: none :: none :: none :: some (.one (.ref 7 0 (.cell 0))) :: some (av (.int .i64 i)) :: List.replicate 40 none, absent :: absent :: absent :: absent :: absent :: absent :: absent :: ⟨0, 1, some [.us 54 R]⟩ :: List.replicate 41 absent⟩
 refine ALoop.mk (fun m s => ∃ (i : Nat) (D : List (List Ent)) (x : List Ent) (R : List (List C)), i ≤ l.length ∧ m = l.length - i ∧ groups brK l = D ++ groups brK (l.drop i) ∧ x = D.flatMap (squashK snaps last) ∧ x.length ≤ i ∧ R = x.map Ent.enc ∧ s = S i R)
  ⟨_, _, Weak.trans (Weak.nrm [true, true, true, false, false, false, false, true, true] [] rfl rfl rfl) (Weak.nilOwn 7 7 54 rfl rfl (pos_of tab_ok (t := 54) rfl)), 0, [], [], [], Nat.zero_le _, rfl, rfl, rfl, Nat.zero_le _, rfl, rfl⟩ ?_
 rintro m s ⟨i, D, x, R, hi, rfl, hG, hx1, hxl, hR1, hs⟩
 by_cases hin : i = l.length
 ·have hxo : x = o := by rw [hx1, ← ho, squash, hG, hin, List.drop_length]; simp [groups]
  subst hxo
  subst hR1
  subst hs
  refine spF (by omega) fun h1 => ?_
  exact ndE trivial
 ·have hia : i < l.length := by omega
  subst hs
  refine spT (by omega) fun h1 => ?_
  refine Num.mk _ (wrapS (by omega)) ?_
  have h00 : ∀ j, i ≤ j → j < i + 1 → ∀ h : j < l.length, l[j].key = (l[i]'hia).key := fun j h1 h2 h3 => by
   have h4 : j = i := by omega
   subst h4
   rfl
  let S2 : Nat → St := fun k => ⟨some (sl (List.map Ent.enc l)) :: some (sl (List.map encI snaps)) :: some (av (.bool last)) :: none :: none :: none :: none :: some (.one (.ref 7 0 (.cell 0))) :: some (av (.int .i64 ↑i)) :: some (av (.int .i64 (k : Nat))) :: List.replicate 39 none, absent :: absent :: absent :: absent :: absent :: absent :: absent :: ⟨0, 1, some [.us 54 R]⟩ :: List.replicate 41 absent⟩
  refine ALoop.mk (fun m s => ∃ k : Nat, i < k ∧ k ≤ l.length ∧ m = l.length - k ∧ (∀ j, i ≤ j → j < k → ∀ h : j < l.length, l[j].key = (l[i]'hia).key) ∧ s = S2 k)
   ⟨_, _, Weak.nrm [true, true, true, false, false, false, false, true, true, true] [(7, 7)] rfl rfl rfl, i + 1, by omega, by omega, rfl, h00, rfl⟩ ?_
  rintro m s ⟨k, hik, hk, rfl, hno, hs⟩
  obtain ⟨g, hg⟩ := exq ((l.take k).drop i)
  have hgl : g.length = k - i := by rw [← hg, List.length_drop, List.length_take]; omega
  have hfin : ∀ _ : Unit, (k = l.length ∨ ∀ h : k < l.length, ¬ l[k].key = (l[i]'hia).key) → groups brK l = (D ++ [g]) ++ groups brK (l.drop k) := fun _ he => by
   have h := groups_split (br := brK) (l := l.drop i) (k := k - i) (by omega) (by rw [List.length_drop]; omega) (fun j h1 h2 h3 => by
    rw [List.length_drop] at h3
    have h5 := hno (i + j) (by omega) (by omega) (by omega)
    have h6 := hno (i + j - 1) (by omega) (by omega) (by omega)
    simp only [List.getElem_drop, brK]
    have e : i + (j - 1) = i + j - 1 := by omega
    simp only [e]
    rw [h5, h6]; simp) (fun h3 => by
    rw [List.length_drop] at h3
    have hkl : k < l.length := by omega
    have hne : ¬ k = l.length := by omega
    have h4 : ¬ l[k].key = (l[i]'hia).key := he.resolve_left hne hkl
    have h6 := hno (k - 1) (by omega) (by omega) (by omega)
    simp only [List.getElem_drop, brK]
    have e : i + (k - i - 1) = k - 1 := by omega
    have e2 : i + (k - i) = k := by omega
    simp only [e, e2]
    rw [h6]; simp [h4])
   have e1 : (l.drop i).take (k - i) = g := by rw [← hg, List.drop_take]
   have e2 : (l.drop i).drop (k - i) = l.drop k := by rw [List.drop_drop]; congr 1; omega
   rw [e1, e2] at h
   rw [hG, h]; simp
  have hgm : ∀ e ∈ g, entOk e = true := fun e he => ordOk_all hok e (by rw [← hg] at he; exact List.mem_of_mem_take (List.mem_of_mem_drop he))
  have hC := impl_squashKey g snaps last (by omega) hgm hs0
  have hform : List.take ((k : Int) - (i : Int)).toNat (List.drop ((i : Int)).toNat (l.map Ent.enc)) = g.map Ent.enc := by
   rw [Int.toNat_natCast, show ((k : Int) - (i : Int)).toNat = k - i by omega, ← hg, List.map_drop, List.map_take, List.drop_take]
  rw [← hform] at hC
  obtain ⟨y, hy⟩ := exq (squashK snaps last g)
  rw [hy] at hC
  have hyl : y.length ≤ k - i := by rw [← hy, ← hgl]; exact squashK_len
  have hx2 : x ++ y = (D ++ [g]).flatMap (squashK snaps last) := by rw [List.flatMap_append, ← hx1]; simp [hy]
  have hxy : (x ++ y).length ≤ k := by rw [List.length_append]; omega
  have hRR : x.map Ent.enc ++ y.map Ent.enc = (x ++ y).map Ent.enc := List.map_append.symm
  by_cases hkn : k = l.length
  ·have hf := hfin () (.inl hkn)
   subst hR1
   subst hs
   refine spF (by omega) fun h1 => ?_
   refine Need.mk (rfl) ?_
   refine Need.mk (⟨by omega, by omega, by omega, lenE _⟩) ?_
   refine ACall.mk _ _ hC ?_
   refine Need.mk ((plainE _)) ?_
   refine apq (A' := _) (B' := _) rfl rfl ?_
   exact ⟨_, _, by omega, Weak.nrm [true, true, true, false, false, false, false, true, true] [(46, 7)] rfl rfl rfl, k, D ++ [g], x ++ y, _, hk, rfl, hf, hx2, hxy, hRR, rfl⟩
  ·have hka : k < l.length := by omega
   by_cases hbr : l[k].key = l[i].key
   ·have hno2 : ∀ j, i ≤ j → j < k + 1 → ∀ h : j < l.length, l[j].key = (l[i]'hia).key := fun j h1 h2 h3 => by
     by_cases hjk : j = k
     ·subst hjk; exact hbr
     ·exact hno j h1 (by omega) h3
    subst hs
    refine spT (by omega) fun h1 => ?_
    refine nd ?_
    refine Row.mk _ (map_get _ l k (by omega)) ?_
    refine nd ?_
    refine Row.mk _ (map_get _ l i (by omega)) ?_
    refine Split.mk fun t h2 => ?_
    cases t
    case false => (exfalso; rw [bytes_beq, decide_eq_false_iff_not] at h2; exact absurd ‹_› h2)
    rw [bytes_beq, decide_eq_true_iff] at h2
    refine Need.mk (rfl) ?_
    refine Num.mk _ (wrapS (by omega)) ?_
    exact ⟨_, _, by omega, Weak.nrm [true, true, true, false, false, false, false, true, true, true] [(7, 7)] rfl rfl rfl, k + 1, by omega, by omega, rfl, hno2, rfl⟩
   ·have hf := hfin () (.inr fun _ => hbr)
    subst hR1
    subst hs
    refine spT (by omega) fun h1 => ?_
    refine nd ?_
    refine Row.mk _ (map_get _ l k (by omega)) ?_
    refine nd ?_
    refine Row.mk _ (map_get _ l i (by omega)) ?_
    refine Split.mk fun t h2 => ?_
    cases t
    case true => (exfalso; rw [bytes_beq, decide_eq_true_iff] at h2; exact absurd h2 ‹_›)
    rw [bytes_beq, decide_eq_false_iff_not] at h2
    refine Need.mk (rfl) ?_
    refine Need.mk (⟨by omega, by omega, by omega, lenE _⟩) ?_
    refine ACall.mk _ _ hC ?_
    refine Need.mk ((plainE _)) ?_
    refine apq (A' := _) (B' := _) rfl rfl ?_
    exact ⟨_, _, by omega, Weak.nrm [true, true, true, false, false, false, false, true, true] [(46, 7)] rfl rfl rfl, k, D ++ [g], x ++ y, _, hk, rfl, hf, hx2, hxy, hRR, rfl⟩
theorem impl_Squash (l : List Ent) (snaps : List Int) (hs0 : snaps.length ≤ 1099511627776) (hl : l.length ≤ 1000000) (hx : OkE l) (last : Bool) : AFn Tryz.prog 134 [sl (l.map Ent.enc), sl (snaps.map encI), av (.bool last)] [] (.one (.us 54 ((squashed l snaps last).map Ent.enc))) [] := by
 by_cases hok : ordOk l = true
 ·rw [show squashed l snaps last = squash l snaps last from if_pos hok]
  exact impl_Squash_ok l snaps hs0 hl hx hok last _ rfl
 ·rw [show squashed l snaps last = [] from if_neg hok]
  have hok : ordOk l = false := by simpa using hok
  have hR := impl_inOrder l hx (Nat.le_trans hl (by decide))
  rw [hok] at hR
  refine AFn.introX (E := En 0 md0) (en_ok 0 _ _ _ _ _) Tryz.func134 rfl rfl rfl fun _ _ => ?_
  refine ACall.mk _ _ hR ?_
  refine sp0 ?_
  exact Need.mk ⟨[false], _, .nil (pos_of tab_ok (t := 54) rfl) .same, rfl, rfl⟩ trivial
def encSh (l0 l1 l2 : List Rn) : List C := [.sl (l0.map Rn.enc), .sl (l1.map Rn.enc), .sl (l2.map Rn.enc)]
theorem impl_shelvesOf (l0 l1 l2 : List Rn) : AFn Tryz.prog 132 [sl ([l0, l1, l2].map encL)] [] (.agg (encSh l0 l1 l2)) [] := by
 refine AFn.introX (E := En 0 md0) (en_ok 0 _ _ _ _ _) Tryz.func132 rfl rfl rfl fun _ _ => ?_
 refine Need.mk (⟨(plainL _), (lenL _)⟩) ?_
 exact ndE trivial
theorem impl_levels (l0 l1 l2 : List Rn) : AFn Tryz.prog 136 [.agg ((encSh l0 l1 l2).map .c)] [] (.one (.us 66 ([l0, l1, l2].map encL))) [] := by
 refine AFn.introX (E := En 0 md0) (en_ok 0 _ _ _ _ _) Tryz.func136 rfl rfl rfl fun _ _ => ?_
 refine Need.mk (plainL [l0, l1, l2]) ?_
 refine apq (A' := []) (B' := [[.sl (List.map Rn.enc l0)], [.sl (List.map Rn.enc l1)], [.sl (List.map Rn.enc l2)]]) rfl rfl ?_
 exact ndE trivial
def growR_ren : Go.Shelf.Ren := ⟨fun | 4 => 183 | n => n, fun | 22 => 66 | 25 => 68 | n => n, fun | n => n⟩
theorem growR_lays : Go.Proofs.Lays8.n4 Tryz.prog growR_ren := {
 mixed := by kernel_rfl
 f4 := ⟨Tryz.f183.name, by decide, Tryz.func183.trans (congrArg some (by kernel_rfl))⟩
 t0 := Tryz.underlying0
 a0 := Tryz.isAgg0
 z0 := Tryz.sizeOf0
 v0 := Tryz.zeroValue0
 t3 := Tryz.underlying3
 a3 := Tryz.isAgg3
 z3 := Tryz.sizeOf3
 v3 := Tryz.zeroValue3
 t4 := Tryz.underlying4
 a4 := Tryz.isAgg4
 z4 := Tryz.sizeOf4
 v4 := Tryz.zeroValue4
 t9 := Tryz.underlying9
 a9 := Tryz.isAgg9
 z9 := Tryz.sizeOf9
 v9 := Tryz.zeroValue9
 t20 := Tryz.underlying20
 a20 := Tryz.isAgg20
 z20 := Tryz.sizeOf20
 v20 := Tryz.zeroValue20
 t22 := Tryz.underlying66
 a22 := Tryz.isAgg66
 z22 := Tryz.sizeOf66
 v22 := Tryz.zeroValue66 }
theorem growR_info : (Tryz.prog.info? 68).map (fun i => (i.zero, i.size, i.bytes)) = some (some (.agg #[.slice none 0 0, .int .i64 0]), 2, 32) := by kernel_rfl
theorem slices_GrowR (n : Nat) (hn : n ≤ 1099511627776) : AFn Tryz.prog 183 [.one (.c (.v nilV)), av (.int .i64 n)] [] (.one (.us 68 [])) [] := by
 cases hi : Tryz.prog.info? 68 with
 | none => have h := growR_info; rw [hi] at h; cases h
 | some i0 =>
  have h := growR_info
  rw [hi] at h
  simp only [Option.map_some, Option.some.injEq, Prod.mk.injEq] at h
  obtain ⟨h1, h2, h3⟩ := h
  exact grow_ok growR_lays rfl rfl hi h1 (by omega) (by kernel_rfl) (pos_of tab_ok (t := 68) rfl) n (by rw [h3]; omega) (by omega)
theorem slices_ConcatR (L : List (List Rn)) (hL : L.length ≤ 1000000) (hl : ∀ l ∈ L, l.length ≤ 1000000) (hf : L.flatten.length ≤ 1000000) : AFn Tryz.prog 135 [sl (L.map encL)] [] (.one (.us 68 (L.flatten.map Rn.enc))) [] := by
 have hn : (L.map encL).length = L.length := List.length_map ..
 have hsum : ∀ i, (L.take i).flatten.length ≤ 1000000 := fun i => Nat.le_trans (flat_take_le L i) hf
 refine AFn.introX (E := En 0 (fun f => if f = 183 then 3 else 0)) (en_ok 0 _) Tryz.func135 rfl rfl rfl fun _ _ => ?_
 let S : Nat → Nat → St := fun n i => ⟨some (sl (L.map encL)) :: none :: none :: some (av (.int .i64 n)) :: none :: none :: none :: none :: none :: some (sl (L.map encL)) :: some (av (.int .i64 (L.map encL).length)) :: some (av (.int .i64 i)) :: List.replicate 24 none, List.replicate 36 absent⟩
 refine ALoop.mk (fun m s => ∃ i : Nat, i ≤ L.length ∧ m = L.length - i ∧ s = S (L.take i).flatten.length i)
  ⟨_, _, Weak.nrm [true, false, false, true, false, false, false, false, false, true, true, true] [] rfl rfl rfl, 0, Nat.zero_le _, rfl, rfl⟩ ?_
 rintro m s ⟨i, hi, rfl, hs⟩
 by_cases hin : i = L.length
 ·rw [hin, List.take_length] at hs
  have hG := slices_GrowR L.flatten.length (by omega)
  obtain ⟨n, hN⟩ := exq (L.flatten.length)
  rw [hN] at hs hG
  subst hs
  refine spF (by omega) fun h1 => ?_
  refine ACall.mk _ _ hG ?_
  let S2 : List (List C) → Nat → St := fun R i => ⟨none :: none :: none :: none :: none :: none :: some (.one (.ref 6 0 (.cell 0))) :: none :: none :: none :: none :: none :: none :: none :: none :: none :: none :: none :: none :: none :: none :: none :: none :: none :: none :: some (sl (L.map encL)) :: some (av (.int .i64 (L.map encL).length)) :: some (av (.int .i64 i)) :: List.replicate 8 none, absent :: absent :: absent :: absent :: absent :: absent :: ⟨0, 1, some [.us 68 R]⟩ :: List.replicate 29 absent⟩
  refine ALoop.mk (fun m s => ∃ i : Nat, i ≤ L.length ∧ m = L.length - i ∧ s = S2 ((L.take i).flatten.map Rn.enc) i)
   ⟨_, _, Weak.nrm [false, false, false, false, false, false, true, false, false, false, false, false, false, false, false, false, false, false, false, false, false, false, false, false, false, true, true, true] [(24, 6)] rfl rfl rfl, 0, Nat.zero_le _, rfl, rfl⟩ ?_
  rintro m s ⟨i, hi, hm2, hs⟩
  by_cases hin : i = L.length
  ·rw [hin, List.take_length] at hs
   subst hs
   refine spF (by omega) fun h1 => ?_
   exact ndE trivial
  ·have hia : i < L.length := by omega
   have hft := flat_take L hia
   have hs1 := hsum i
   have hx := hl _ (List.getElem_mem hia)
   obtain ⟨xs, hxs⟩ := exq (L[i])
   have hrow : (L.map encL)[i]? = some (encL xs) := by rw [map_get _ L i hia, hxs]
   rw [hxs] at hft hx
   obtain ⟨G, hG2⟩ := exq ((L.take i).flatten)
   rw [hG2] at hs hs1 hft
   subst hs
   refine spT (by omega) fun h1 => ?_
   refine nd ?_
   refine Row.mk _ hrow ?_
   refine Need.mk (⟨(plainR _), (lenR _)⟩) ?_
   refine apq (A' := _) (B' := _) rfl rfl ?_
   refine Num.mk _ (wrapS (by omega)) ?_
   exact ⟨_, _, by omega, Weak.nrm [false, false, false, false, false, false, true, false, false, false, false, false, false, false, false, false, false, false, false, false, false, false, false, false, false, true, true, true] [(33, 6)] rfl rfl rfl, i + 1, by omega, rfl, Eq.trans (b := S2 (G.map Rn.enc ++ xs.map Rn.enc) (i + 1)) rfl (by rw [hft, List.map_append])⟩
 ·have hia : i < L.length := by omega
  have hft := flat_take L hia
  have hs1 := hsum i
  have hx := hl _ (List.getElem_mem hia)
  obtain ⟨xs, hxs⟩ := exq (L[i])
  have hrow : (L.map encL)[i]? = some (encL xs) := by rw [map_get _ L i hia, hxs]
  rw [hxs] at hft hx
  have hfl : (L.take (i + 1)).flatten.length = (L.take i).flatten.length + xs.length := by rw [hft, List.length_append]
  have hxn : (xs.map Rn.enc).length = xs.length := List.length_map ..
  obtain ⟨n, hN⟩ := exq ((L.take i).flatten.length)
  rw [hN] at hs hs1 hfl
  have hwr : IntKind.i64.wrap ((n : Int) + ((xs.map Rn.enc).length : Nat)) = ((n + xs.length : Nat) : Int) := wrapI' (by omega) (by omega)
  subst hs
  refine spT (by omega) fun h1 => ?_
  refine nd ?_
  refine Row.mk _ hrow ?_
  refine Num.mk _ hwr ?_
  refine sp0 ?_
  refine Num.mk _ (wrapS (by omega)) ?_
  exact ⟨_, _, by omega, Weak.nrm [true, false, false, true, false, false, false, false, false, true, true, true] [] rfl rfl rfl, i + 1, by omega, rfl, Eq.trans (b := S (n + xs.length) (i + 1)) rfl (by rw [hfl])⟩
theorem ordOk_OkE {l : List Ent} (h : ordOk l = true) : OkE l := fun e he => by
 have h1 := ordOk_all h e he
 unfold entOk at h1
 rw [Bool.and_eq_true, Bool.and_eq_true, Bool.and_eq_true, Bool.and_eq_true, decide_eq_true_iff, decide_eq_true_iff, decide_eq_true_iff] at h1
 have hk := h1.1
 unfold keyOk at hk
 rw [Bool.and_eq_true, Bool.and_eq_true, decide_eq_true_iff, decide_eq_true_iff] at hk
 exact ⟨Nat.le_trans hk.1.2 (by decide), Nat.le_trans h1.2.2.2.1 (by decide)⟩
theorem min_t {a b : ByteArray} : minB a b = if (Op.bytesLess a.toList b.toList || a.toList == b.toList) = true then a else b := by
 unfold minB
 cases h : slt b a with
 | true =>
  rw [if_pos rfl, if_neg]
  rw [Bool.or_eq_true]
  rintro (h4 | h4)
  ·have h2 := slt_asym h
   rw [show slt a b = true from h4] at h2; cases h2
  ·rw [show slt b a = Op.bytesLess b.toList a.toList from rfl, beq_iff_eq.1 h4, bl_irr] at h
   cases h
 | false =>
  rw [if_neg (by simp)]
  split
  ·rfl
  ·rename_i h2
   rw [Bool.or_eq_true] at h2
   exact slt_tot (Bool.eq_false_iff.2 fun h3 => h2 (.inl h3)) h
theorem max_t {a b : ByteArray} : maxB a b = if (!Op.bytesLess a.toList b.toList) = true then a else b := by
 unfold maxB
 show (if Op.bytesLess a.toList b.toList = true then b else a) = _
 cases Op.bytesLess a.toList b.toList <;> rfl
def loR (x : Rn) (xs : List Rn) (i : Nat) : ByteArray := (xs.take i).foldl (fun m r => minB m (lowK r)) (lowK x)
def hiR (x : Rn) (xs : List Rn) (i : Nat) : ByteArray := (xs.take i).foldl (fun m r => maxB m (highK r)) (highK x)
theorem loR_succ {x : Rn} {xs : List Rn} {i : Nat} (h : i < xs.length) : loR x xs (i + 1) = minB (loR x xs i) (lowK xs[i]) := by
 unfold loR; rw [List.take_succ_eq_append_getElem h, List.foldl_append]; rfl
theorem hiR_succ {x : Rn} {xs : List Rn} {i : Nat} (h : i < xs.length) : hiR x xs (i + 1) = maxB (hiR x xs i) (highK xs[i]) := by
 unfold hiR; rw [List.take_succ_eq_append_getElem h, List.foldl_append]; rfl
theorem impl_rangeOf (x : Rn) (xs : List Rn) (hl : xs.length ≤ 1048576) (hr : ∀ r ∈ x :: xs, 0 < r.ents.length ∧ r.ents.length ≤ 1048576) :
  AFn Tryz.prog 139 [sl ((x :: xs).map Rn.enc)] [] (.tup [.one (vs (lowR (x :: xs))), .one (vs (highR (x :: xs)))]) [] := by
 have hn : ((x :: xs).map Rn.enc).length = xs.length + 1 := List.length_map ..
 have hL := impl_lowKey x (hr x (List.mem_cons_self ..)).1
 have hH := impl_highKey x (hr x (List.mem_cons_self ..)).1 (Nat.le_trans (hr x (List.mem_cons_self ..)).2 (by decide))
 have h0 : ((x :: xs).map Rn.enc)[0]? = some x.enc := rfl
 have hE : List.take (((((x :: xs).map Rn.enc).length : Nat) : Int) - 1).toNat (List.drop (Int.toNat 1) ((x :: xs).map Rn.enc)) = xs.map Rn.enc := by
  rw [hn, show (((xs.length + 1 : Nat) : Int) - 1).toNat = xs.length by omega]
  exact List.take_of_length_le (by rw [show List.drop (Int.toNat 1) ((x :: xs).map Rn.enc) = xs.map Rn.enc from rfl, List.length_map]; omega)
 have hEl := congrArg List.length hE
 rw [List.length_map] at hEl
 have hlo : (x.ents.getD 0 ent0).key = loR x xs 0 := rfl
 have hhi : (x.ents.getD (x.ents.length - 1) ent0).key = hiR x xs 0 := rfl
 refine AFn.introX (E := En 0 md0) (en_ok 0 _) Tryz.func139 rfl rfl rfl fun _ _ => ?_
 refine nd ?_
 refine Row.mk _ h0 ?_
 refine ACall.mk _ _ hL ?_
 refine nd ?_
 refine Row.mk _ h0 ?_
 refine ACall.mk _ _ hH ?_
 refine Need.mk (rfl) ?_
 refine Need.mk (⟨by omega, by omega, by omega, lenR _⟩) ?_
 let S : Nat → ByteArray → ByteArray → St := fun i lo hi => ⟨none :: none :: none :: none :: some (av (.string lo)) :: some (av (.string hi)) :: none :: none :: none :: none :: none :: none :: none :: none :: none :: none :: none :: some (sl (List.take (((((x :: xs).map Rn.enc).length : Nat) : Int) - 1).toNat (List.drop (Int.toNat 1) ((x :: xs).map Rn.enc)))) :: some (av (.int .i64 ((List.take (((((x :: xs).map Rn.enc).length : Nat) : Int) - 1).toNat (List.drop (Int.toNat 1) ((x :: xs).map Rn.enc))).length : Nat))) :: some (av (.int .i64 i)) :: List.replicate 14 none, List.replicate 34 absent⟩
 refine ALoop.mk (fun m s => ∃ (i : Nat) (lo hi : ByteArray), i ≤ xs.length ∧ m = xs.length - i ∧ lo = loR x xs i ∧ hi = hiR x xs i ∧ s = S i lo hi)
  ⟨_, _, Weak.nrm [false, false, false, false, true, true, false, false, false, false, false, false, false, false, false, false, false, true, true, true] [] rfl rfl rfl, 0, _, _, Nat.zero_le _, rfl, hlo, hhi, rfl⟩ ?_
 rintro m s ⟨i, _, _, hi, rfl, rfl, rfl, hs⟩
 by_cases hin : i = xs.length
 ·have e1 : loR x xs i = lowR (x :: xs) := by subst hin; unfold loR; rw [List.take_length]; rfl
  have e2 : hiR x xs i = highR (x :: xs) := by subst hin; unfold hiR; rw [List.take_length]; rfl
  rw [← e1, ← e2]
  subst hs
  refine Split.mk fun t h1 => ?_
  cases t
  case true => (exfalso; simp at h1 <;> omega)
  rw [decide_eq_false_iff_not] at h1
  exact ndE trivial
 ·have hia : i < xs.length := by omega
  have hget : (List.take (((((x :: xs).map Rn.enc).length : Nat) : Int) - 1).toNat (List.drop (Int.toNat 1) ((x :: xs).map Rn.enc)))[i]? = some (xs[i]).enc := by rw [hE]; exact map_get _ xs i hia
  have hmem := hr _ (List.mem_cons_of_mem x (List.getElem_mem hia))
  have hL2 := impl_lowKey xs[i] hmem.1
  have hH2 := impl_highKey xs[i] hmem.1 (Nat.le_trans hmem.2 (by decide))
  have s1 : loR x xs (i + 1) = minB (loR x xs i) (xs[i].ents.getD 0 ent0).key := loR_succ hia
  have s2 : hiR x xs (i + 1) = maxB (hiR x xs i) (xs[i].ents.getD (xs[i].ents.length - 1) ent0).key := hiR_succ hia
  rw [min_t] at s1
  rw [max_t] at s2
  subst hs
  refine Split.mk fun t h1 => ?_
  cases t
  case false => (exfalso; simp at h1 <;> omega)
  rw [decide_eq_true_iff] at h1
  refine nd ?_
  refine Row.mk _ hget ?_
  refine ACall.mk _ _ hL2 ?_
  refine Split.mk fun t h2 => ?_
  cases t
  ·skip
   refine ACall.mk _ _ hH2 ?_
   refine Split.mk fun t h3 => ?_
   cases t
   ·skip
    refine Num.mk _ (wrapS (by omega)) ?_
    exact ⟨_, _, by omega, Weak.nrm [false, false, false, false, true, true, false, false, false, false, false, false, false, false, false, false, false, true, true, true] [] rfl rfl rfl, i + 1, _, _, by omega, rfl, (s1.trans (if_neg fun h => Bool.noConfusion (h.symm.trans h2))).symm, (s2.trans (if_neg fun h => Bool.noConfusion (h.symm.trans h3))).symm, rfl⟩
   ·skip
    refine Num.mk _ (wrapS (by omega)) ?_
    exact ⟨_, _, by omega, Weak.nrm [false, false, false, false, true, true, false, false, false, false, false, false, false, false, false, false, false, true, true, true] [] rfl rfl rfl, i + 1, _, _, by omega, rfl, (s1.trans (if_neg fun h => Bool.noConfusion (h.symm.trans h2))).symm, (s2.trans (if_pos h3)).symm, rfl⟩
  ·skip
   refine ACall.mk _ _ hH2 ?_
   refine Split.mk fun t h4 => ?_
   cases t
   ·skip
    refine Num.mk _ (wrapS (by omega)) ?_
    exact ⟨_, _, by omega, Weak.nrm [false, false, false, false, true, true, false, false, false, false, false, false, false, false, false, false, false, true, true, true] [] rfl rfl rfl, i + 1, _, _, by omega, rfl, (s1.trans (if_pos h2)).symm, (s2.trans (if_neg fun h => Bool.noConfusion (h.symm.trans h4))).symm, rfl⟩
   ·skip
    refine Num.mk _ (wrapS (by omega)) ?_
    exact ⟨_, _, by omega, Weak.nrm [false, false, false, false, true, true, false, false, false, false, false, false, false, false, false, false, false, true, true, true] [] rfl rfl rfl, i + 1, _, _, by omega, rfl, (s1.trans (if_pos h2)).symm, (s2.trans (if_pos h4)).symm, rfl⟩
theorem sort_SearchG (f : FuncId) (rows : List (List C)) (lim : ByteArray) (p : Nat → Bool) (n k : Nat) (hn : n ≤ 1099511627776) (hk : k ≤ n) (h1 : ∀ i, i < k → p i = false) (h2 : ∀ i, k ≤ i → i < n → p i = true)
  (hf : ∀ i : Nat, i < n → AFnK Tryz.prog f [av (.int .i64 i), .bx 0 0, .bx 1 0] [[.sl rows], [vs lim]] [0, 0] (rb (p i)) [[.sl rows], [vs lim]]) :
  AFnK Tryz.prog 191 [av (.int .i64 n), .clo f [.bx 0 0, .bx 1 0]] [[.sl rows], [vs lim]] [0, 0] (.one (vi k)) [[.sl rows], [vs lim]] := by
 refine AFnK.introX (E := En 2 md0) (en_ok 2 md0) Tryz.func191 rfl rfl rfl fun _ _ => ?_
 let S : Nat → Nat → St := fun i j => ⟨some (av (.int .i64 n)) :: some (.clo f [.bx 0 0, .bx 1 0]) :: none :: none :: none :: some (av (.int .i64 i)) :: some (av (.int .i64 j)) :: List.replicate 19 none, ⟨0, 0, some [.sl rows]⟩ :: ⟨0, 0, some [vs lim]⟩ :: List.replicate 26 absent⟩
 refine ALoop.mk (fun m s => ∃ i j : Nat, i ≤ k ∧ k ≤ j ∧ j ≤ n ∧ m = j - i ∧ s = S i j)
  ⟨n, _, Weak.nrm [true, true, false, false, false, true, true] [(0, 0), (1, 1)] rfl rfl rfl, 0, n, Nat.zero_le _, hk, Nat.le_refl _, rfl, rfl⟩ ?_
 rintro m s ⟨i, j, hi, hj, hjn, rfl, hs⟩
 by_cases hij : i < j
 ·have hm1 : i ≤ (i + j) / 2 := by omega
  have hm2 : (i + j) / 2 < j := by omega
  have hc := hf ((i + j) / 2) (by omega)
  have up : p ((i + j) / 2) = false → (i + j) / 2 + 1 ≤ k := fun h => by
   refine Nat.lt_of_not_le fun hle => ?_
   rw [h2 _ hle (by omega)] at h; cases h
  have dn : p ((i + j) / 2) = true → k ≤ (i + j) / 2 := fun h => by
   refine Nat.le_of_not_lt fun hle => ?_
   rw [h1 _ hle] at h; cases h
  subst hs
  refine Split.mk fun t ht => ?_
  cases t
  ·simp at ht; omega
  refine Num.mk ((i + j : Nat) : Int) (wrapI' (by omega) (by omega)) ?_
  refine Num.mk _ (wrapU (by omega)) ?_
  refine Need.mk (by decide) ?_
  refine Num.mk _ (half (by omega)) ?_
  refine ACall.mk _ _ hc ?_
  refine Split.mk fun t h3 => ?_
  cases t
  ·refine Num.mk _ (wrapS (by omega)) ?_
   exact ⟨j - ((i + j) / 2 + 1), _, by omega, Weak.nrm [true, true, false, false, false, true, true] [(0, 0), (1, 1)] rfl rfl rfl, (i + j) / 2 + 1, j, up h3, hj, hjn, rfl, rfl⟩
  ·exact ⟨(i + j) / 2 - i, _, by omega, Weak.nrm [true, true, false, false, false, true, true] [(0, 0), (1, 1)] rfl rfl rfl, i, (i + j) / 2, hi, dn h3, by omega, rfl, rfl⟩
 ·have he : i = k := by omega
  subst hs
  refine Split.mk fun t ht => ?_
  cases t
  ·exact Need.mk ⟨[], _, .same, by rw [he]; rfl, rfl⟩ trivial
  ·simp at ht; omega
theorem impl_meeting1 (xs : List Rn) (low : ByteArray) (i : Nat) (h : i < xs.length) (hr : 0 < xs[i].ents.length ∧ xs[i].ents.length ≤ 1048576) :
  AFnK Tryz.prog 192 [av (.int .i64 i), .bx 0 0, .bx 1 0] [[.sl (xs.map Rn.enc)], [vs low]] [0, 0] (rb (!slt (highK xs[i]) low)) [[.sl (xs.map Rn.enc)], [vs low]] := by
 have hn : (xs.map Rn.enc).length = xs.length := List.length_map ..
 have hget := map_get Rn.enc xs i h
 have hH := impl_highKey xs[i] hr.1 (Nat.le_trans hr.2 (by decide))
 refine AFnK.introX (E := En 2 md0) (en_ok 2 md0) Tryz.func192 rfl rfl rfl fun _ _ => ?_
 refine nd ?_
 refine Row.mk _ hget ?_
 refine ACall.mk _ _ hH ?_
 refine Split.mk fun t h1 => ?_
 cases t
 ·refine Need.mk (rfl) ?_
  exact Need.mk ⟨[], _, .same, congrArg rb h1.symm, rfl⟩ trivial
 ·refine Need.mk (rfl) ?_
  exact Need.mk ⟨[], _, .same, congrArg rb h1.symm, rfl⟩ trivial
theorem impl_meeting2 (xs : List Rn) (high : ByteArray) (i : Nat) (h : i < xs.length) (hr : 0 < xs[i].ents.length) :
  AFnK Tryz.prog 193 [av (.int .i64 i), .bx 0 0, .bx 1 0] [[.sl (xs.map Rn.enc)], [vs high]] [0, 0] (rb (slt high (lowK xs[i]))) [[.sl (xs.map Rn.enc)], [vs high]] := by
 have hn : (xs.map Rn.enc).length = xs.length := List.length_map ..
 have hget := map_get Rn.enc xs i h
 have hH := impl_lowKey xs[i] hr
 refine AFnK.introX (E := En 2 md0) (en_ok 2 md0) Tryz.func193 rfl rfl rfl fun _ _ => ?_
 refine nd ?_
 refine Row.mk _ hget ?_
 refine ACall.mk _ _ hH ?_
 refine Split.mk fun t h1 => ?_
 cases t
 ·rw [str_gt] at h1
  refine Need.mk (rfl) ?_
  exact Need.mk ⟨[], _, .same, congrArg rb h1.symm, rfl⟩ trivial
 ·rw [str_gt] at h1
  refine Need.mk (rfl) ?_
  exact Need.mk ⟨[], _, .same, congrArg rb h1.symm, rfl⟩ trivial
def rn0 : Rn := ⟨[], 0⟩
theorem impl_meeting (xs : List Rn) (low high : ByteArray) (hl : xs.length ≤ 1048576) (hr : ∀ r ∈ xs, runOk r = true) (ha : ApartP xs) (k1 k2 k3 : Nat) (e1 : fromI xs low = k1) (e2 : toI xs high = k2) (e3 : max k1 k2 = k3) :
  AFn Tryz.prog 140 [sl (xs.map Rn.enc), av (.string low), av (.string high)] [] (.tup [.one (vi k1), .one (vi k3)]) [] := by
 have hn : (xs.map Rn.enc).length = xs.length := List.length_map ..
 have hsz : ∀ r ∈ xs, 0 < r.ents.length ∧ r.ents.length ≤ 1048576 := fun r h => by
  obtain ⟨a, b, _⟩ := runOk_len (hr r h)
  omega
 obtain ⟨f1, f2, f3⟩ := fromI_spec (low := low) hr ha
 obtain ⟨t1, t2, t3⟩ := toI_spec (high := high) hr ha
 rw [e1] at f1 f2 f3
 rw [e2] at t1 t2 t3
 have hD : ∀ i (h : i < xs.length), xs.getD i rn0 = xs[i] := fun i h => by simp [List.getD_eq_getElem?_getD, h]
 have hS1 := sort_SearchG 192 (xs.map Rn.enc) low (fun i => !slt (highK (xs.getD i rn0)) low) xs.length k1 (by omega) f1
  (fun i h => by show (!slt (highK (xs.getD i rn0)) low) = false; rw [hD i (by omega), f2 i (by omega) h]; rfl)
  (fun i h h' => by show (!slt (highK (xs.getD i rn0)) low) = true; rw [hD i h', f3 i h' h]; rfl)
  (fun i h => by show AFnK _ _ _ _ _ (rb (!slt (highK (xs.getD i rn0)) low)) _; rw [hD i h]; exact impl_meeting1 xs low i h (hsz _ (List.getElem_mem h)))
 have hS2 := sort_SearchG 193 (xs.map Rn.enc) high (fun i => slt high (lowK (xs.getD i rn0))) xs.length k2 (by omega) t1
  (fun i h => by show slt high (lowK (xs.getD i rn0)) = false; rw [hD i (by omega), t2 i (by omega) h])
  (fun i h h' => by show slt high (lowK (xs.getD i rn0)) = true; rw [hD i h', t3 i h' h])
  (fun i h => by show AFnK _ _ _ _ _ (rb (slt high (lowK (xs.getD i rn0)))) _; rw [hD i h]; exact impl_meeting2 xs high i h (hsz _ (List.getElem_mem h)).1)
 rw [← hn] at hS1 hS2
 rw [show (k3 : Int) = if (k1 : Int) < k2 then (k2 : Int) else k1 by subst e3; split <;> omega]
 refine AFn.introX (E := En 0 md0) (en_ok 0 _) Tryz.func140 rfl rfl rfl fun _ _ => ?_
 refine ACall.mk _ _ hS1 ?_
 refine ACall.mk _ _ hS2 ?_
 exact ndE trivial
theorem cut_step {zs : List Ent} {e : Nat} (he0 : 0 < e) (hel : e ≤ zs.length) (hbr : ∀ j (h1 : 0 < j) (_ : j < e) (h3 : j < zs.length), ¬ brkP (0 + j - 1) (zs[j - 1]'(by omega)) zs[j]) (hend : ∀ (h : e < zs.length), brkP (0 + e - 1) (zs[e - 1]'(by omega)) zs[e]) : cutL zs = mkRun (zs.take e) :: cutL (zs.drop e) := by
 unfold cutL; rw [pieces_split he0 hel hbr hend]; rfl
theorem ordOk_subl {a b : List Ent} (h : a.Sublist b) (ho : ordOk b = true) : ordOk a = true := ord_of_pw ((pw_of_ord ho).sublist h) fun e he => ordOk_all ho e (h.subset he)
theorem good_long {l : List Ent} (h : 150 < l.length) : good l = false := by
 unfold good
 rw [decide_eq_false (p := l.length ≤ 150) (by omega), Bool.false_and, Bool.and_false]
theorem cutOk_long {zs : List Ent} {e : Nat} (he0 : 0 < e) (hel : e ≤ zs.length) (hbr : ∀ j (h1 : 0 < j) (_ : j < e) (h3 : j < zs.length), ¬ brkP (0 + j - 1) (zs[j - 1]'(by omega)) zs[j]) (hend : ∀ (h : e < zs.length), brkP (0 + e - 1) (zs[e - 1]'(by omega)) zs[e]) : cutOk zs = (decide (e ≤ 150) && cutOk (zs.drop e)) := by
 unfold cutOk; rw [pieces_split he0 hel hbr hend, List.all_cons, List.length_take, Nat.min_eq_left hel]
theorem impl_cutRuns (l : List Ent) (hl : l.length ≤ 1048576) (ho : ordOk l = true) (o : C) (c : Bool) (hcc : cutOk l = c) (h1 : c = true → o = .us 68 ((cutL l).map Rn.enc)) (h2 : c = false → o = .v nilV) :
  AFn Tryz.prog 142 [sl (l.map Ent.enc)] [] (.tup [.one o, .one (vb c)]) [] := by
 refine AFn.introX (E := En 0 md0 (fb := [6])) (en_ok 0 _ _ _ _ _) Tryz.func142 rfl rfl rfl fun _ _ => ?_
 let S : List Ent → List (List C) → St := fun zs R => ⟨some (sl (zs.map Ent.enc)) :: none :: none :: none :: some (.one (.ref 4 0 (.cell 0))) :: List.replicate 47 none, absent :: absent :: absent :: absent :: ⟨0, 1, some [.us 68 R]⟩ :: List.replicate 47 absent⟩
 refine ALoop.mk (fun m s => ∃ (zs : List Ent) (R : List (List C)), m = zs.length ∧ zs.length ≤ 1048576 ∧ ordOk zs = true ∧ cutOk zs = c ∧ R.length + zs.length ≤ 1048576 ∧ R ++ (cutL zs).map Rn.enc = (cutL l).map Rn.enc ∧ s = S zs R)
  ⟨_, _, Weak.trans (Weak.nrm [true, false, false, false, true] [] rfl rfl rfl) (Weak.nilOwn 4 4 68 rfl rfl (pos_of tab_ok (t := 68) rfl)), l, [], rfl, hl, ho, hcc, by simpa using hl, rfl, rfl⟩ ?_
 rintro m s ⟨zs, R, rfl, hzl, hzo, hzc, hRl, hR, hs⟩
 have hn : (zs.map Ent.enc).length = zs.length := List.length_map ..
 by_cases hz : zs.length = 0
 ·have hz0 : zs = [] := List.length_eq_zero_iff.1 hz
  have hct : c = true := by rw [← hzc, hz0]; rfl
  have hres : o = .us 68 R := by rw [h1 hct, ← hR, hz0]; exact congrArg _ (List.append_nil R)
  rw [hct, hres]
  subst hs
  refine spF (by omega) fun h1 => ?_
  exact ndE trivial
 ·have h9 : decide (((zs.map Ent.enc).length : Int) > 0) = true := by rw [hn]; exact decide_eq_true (by omega)
  subst hs
  refine Split.mk fun t h1 => ?_
  cases t
  case false => (exfalso; rw [decide_eq_false_iff_not] at h1; omega)
  let S2 : Nat → St := fun e => ⟨some (sl (zs.map Ent.enc)) :: none :: none :: none :: some (.one (.ref 4 0 (.cell 0))) :: some (av (.int .i64 e)) :: List.replicate 46 none, absent :: absent :: absent :: absent :: ⟨0, 1, some [.us 68 R]⟩ :: List.replicate 47 absent⟩
  refine ALoop.mk (fun m s => ∃ e : Nat, 0 < e ∧ e ≤ zs.length ∧ m = zs.length - e ∧ (∀ j (h1 : 0 < j) (_ : j < e) (h3 : j < zs.length), ¬ brkP (0 + j - 1) (zs[j - 1]'(by omega)) zs[j]) ∧ s = S2 e)
   ⟨_, _, Weak.nrm [true, false, false, false, true, true] [(4, 4)] rfl rfl rfl, 1, by omega, by omega, rfl, fun j h1 h2 => by omega, rfl⟩ ?_
  rintro m s ⟨e, he0, hel, rfl, hbr, hs⟩
  by_cases hgo : ∃ h : e < zs.length, e < 20 ∨ zs[e].key = (zs[e - 1]'(by omega)).key
  ·obtain ⟨hin, hor⟩ := hgo
   have hsub : IntKind.i64.wrap ((e : Int) - 1) = ((e - 1 : Nat) : Int) := wrapI' (by omega) (by omega)
   have g1 := map_get Ent.enc zs e hin
   have g2 := map_get Ent.enc zs (e - 1) (by omega)
   have hnb : ∀ j (h1 : 0 < j) (_ : j < e + 1) (h3 : j < zs.length), ¬ brkP (0 + j - 1) (zs[j - 1]'(by omega)) zs[j] := fun j h1 h2 h3 => by
    by_cases hj : j < e
    ·exact hbr j h1 hj h3
    ·obtain rfl : j = e := by omega
     intro hb
     rcases hor with h | h
     ·have := hb.1; omega
     ·exact hb.2 h
   by_cases h20 : e < 20
   ·subst hs
    refine spT (by omega) fun h1 => ?_
    refine spT (by omega) fun h2 => ?_
    refine Need.mk (rfl) ?_
    refine Num.mk _ (wrapS (by omega)) ?_
    exact ⟨_, _, by omega, Weak.nrm [true, false, false, false, true, true] [(4, 4)] rfl rfl rfl, e + 1, by omega, by omega, rfl, hnb, rfl⟩
   ·have hk : zs[e].key = (zs[e - 1]'(by omega)).key := hor.resolve_left h20
    subst hs
    refine spT (by omega) fun h1 => ?_
    refine spF (by omega) fun h2 => ?_
    refine nd ?_
    refine Row.mk _ g1 ?_
    refine Num.mk _ hsub ?_
    refine nd ?_
    refine Row.mk _ g2 ?_
    refine Split.mk fun t h3 => ?_
    cases t
    case false => (exfalso; rw [bytes_beq, decide_eq_false_iff_not] at h3; exact absurd ‹_› h3)
    rw [bytes_beq, decide_eq_true_iff] at h3
    refine Need.mk (rfl) ?_
    refine Num.mk _ (wrapS (by omega)) ?_
    exact ⟨_, _, by omega, Weak.nrm [true, false, false, false, true, true] [(4, 4)] rfl rfl rfl, e + 1, by omega, by omega, rfl, hnb, rfl⟩
  ·have hend : ∀ (h : e < zs.length), brkP (0 + e - 1) (zs[e - 1]'(by omega)) zs[e] := fun h => ⟨by have : ¬ e < 20 := fun h2 => hgo ⟨h, .inl h2⟩; omega, fun h2 => hgo ⟨h, .inr h2⟩⟩
   have hcs := cut_step he0 hel hbr hend
   have hco := cutOk_long he0 hel hbr hend
   have hto := ordOk_subl (List.take_sublist e zs) hzo
   have hdo := ordOk_subl (List.drop_sublist e zs) hzo
   have hE1 : List.take ((e : Int) - 0).toNat (List.drop (Int.toNat 0) (zs.map Ent.enc)) = (zs.take e).map Ent.enc := by rw [show ((e : Int) - 0).toNat = e by omega, List.map_take]; rfl
   have hE2 : List.take (((((zs.map Ent.enc).length : Nat) : Int) - (e : Int)).toNat) (List.drop (Int.toNat (e : Int)) (zs.map Ent.enc)) = (zs.drop e).map Ent.enc := by rw [hn, List.take_of_length_le (by rw [List.length_drop, hn]; omega), List.map_drop]; rfl
   by_cases hlen : e ≤ 150
   ·have hCall := impl_RunOf_ok (zs.take e) (ordOk_OkE hto) (good_ord hto (by rw [List.length_take]; omega) (by rw [List.length_take]; omega))
    rw [isort_ord hto] at hCall
    have hCall2 : AFn Tryz.prog 133 [sl (List.take ((e : Int) - 0).toNat (List.drop (Int.toNat 0) (zs.map Ent.enc)))] [] (.tup [.agg [.us 54 ((zs.take e).map Ent.enc), vi (rmask (zs.take e) : Nat)], .one (vb true)]) [] := by rw [hE1]; exact hCall
    rw [decide_eq_true hlen, Bool.true_and, hzc] at hco
    have hRR : (R ++ [(mkRun (zs.take e)).enc]) ++ (cutL (zs.drop e)).map Rn.enc = (cutL l).map Rn.enc := by rw [← hR, hcs, List.append_assoc]; rfl
    have hdl : (zs.drop e).length = zs.length - e := List.length_drop ..
    by_cases hin : e < zs.length
    ·have hsub : IntKind.i64.wrap ((e : Int) - 1) = ((e - 1 : Nat) : Int) := wrapI' (by omega) (by omega)
     have g1 := map_get Ent.enc zs e hin
     have g2 := map_get Ent.enc zs (e - 1) (by omega)
     have hk : ¬ zs[e].key = (zs[e - 1]'(by omega)).key := (hend hin).2
     have h20 : ¬ e < 20 := by have := (hend hin).1; omega
     subst hs
     refine spT (by omega) fun h1 => ?_
     refine spF (by omega) fun h2 => ?_
     refine nd ?_
     refine Row.mk _ g1 ?_
     refine Num.mk _ hsub ?_
     refine nd ?_
     refine Row.mk _ g2 ?_
     refine Split.mk fun t h3 => ?_
     cases t
     case true => (exfalso; rw [bytes_beq, decide_eq_true_iff] at h3; exact absurd h3 ‹_›)
     rw [bytes_beq, decide_eq_false_iff_not] at h3
     refine Need.mk (rfl) ?_
     refine Need.mk (⟨by omega, by omega, by omega, lenE _⟩) ?_
     refine ACall.mk _ _ hCall2 ?_
     refine sp1 ?_
     refine Fz.mk _ (frzE _) ?_
     refine apq (A' := _) (B' := [[.sl (List.map Ent.enc (List.take e zs)), vi (↑(rmask (List.take e zs)))]]) rfl rfl ?_
     refine Need.mk (⟨by omega, by omega, by omega, lenE _⟩) ?_
     exact ⟨_, _, by omega, Weak.nrm [true, false, false, false, true] [(47, 4)] rfl rfl rfl, zs.drop e, R ++ [(mkRun (zs.take e)).enc], rfl, by omega, hdo, hco.symm, by simp only [List.length_append, List.length_cons, List.length_nil]; omega, hRR, congrArg (fun q => (⟨some (sl q) :: none :: none :: none :: some (.one (.ref 4 0 (.cell 0))) :: List.replicate 47 none, absent :: absent :: absent :: absent :: ⟨0, 1, some [.us 68 (R ++ [(mkRun (zs.take e)).enc])]⟩ :: List.replicate 47 absent⟩ : St)) hE2⟩
    ·subst hs
     refine spF (by omega) fun h1 => ?_
     refine Need.mk (rfl) ?_
     refine Need.mk (⟨by omega, by omega, by omega, lenE _⟩) ?_
     refine ACall.mk _ _ hCall2 ?_
     refine sp1 ?_
     refine Fz.mk _ (frzE _) ?_
     refine apq (A' := _) (B' := [[.sl (List.map Ent.enc (List.take e zs)), vi (↑(rmask (List.take e zs)))]]) rfl rfl ?_
     refine Need.mk (⟨by omega, by omega, by omega, lenE _⟩) ?_
     exact ⟨_, _, by omega, Weak.nrm [true, false, false, false, true] [(47, 4)] rfl rfl rfl, zs.drop e, R ++ [(mkRun (zs.take e)).enc], rfl, by omega, hdo, hco.symm, by simp only [List.length_append, List.length_cons, List.length_nil]; omega, hRR, congrArg (fun q => (⟨some (sl q) :: none :: none :: none :: some (.one (.ref 4 0 (.cell 0))) :: List.replicate 47 none, absent :: absent :: absent :: absent :: ⟨0, 1, some [.us 68 (R ++ [(mkRun (zs.take e)).enc])]⟩ :: List.replicate 47 absent⟩ : St)) hE2⟩
   ·have hCall := impl_RunOf_bad (zs.take e) (ordOk_OkE hto) (good_long (by rw [List.length_take]; omega))
    rw [← hE1] at hCall
    rw [decide_eq_false hlen, Bool.false_and, hzc] at hco
    have hres := h2 hco
    rw [hres, hco]
    by_cases hin : e < zs.length
    ·have hsub : IntKind.i64.wrap ((e : Int) - 1) = ((e - 1 : Nat) : Int) := wrapI' (by omega) (by omega)
     have g1 := map_get Ent.enc zs e hin
     have g2 := map_get Ent.enc zs (e - 1) (by omega)
     have hk : ¬ zs[e].key = (zs[e - 1]'(by omega)).key := (hend hin).2
     have h20 : ¬ e < 20 := by have := (hend hin).1; omega
     subst hs
     refine spT (by omega) fun h1 => ?_
     refine spF (by omega) fun h2 => ?_
     refine nd ?_
     refine Row.mk _ g1 ?_
     refine Num.mk _ hsub ?_
     refine nd ?_
     refine Row.mk _ g2 ?_
     refine Split.mk fun t h3 => ?_
     cases t
     case true => (exfalso; rw [bytes_beq, decide_eq_true_iff] at h3; exact absurd h3 ‹_›)
     rw [bytes_beq, decide_eq_false_iff_not] at h3
     refine Need.mk (rfl) ?_
     refine Need.mk (⟨by omega, by omega, by omega, lenE _⟩) ?_
     refine ACall.mk _ _ hCall ?_
     refine sp0 ?_
     refine Fz.mk _ (FrzLL.frz .nil) ?_
     exact ndE trivial
    ·subst hs
     refine spF (by omega) fun h1 => ?_
     refine Need.mk (rfl) ?_
     refine Need.mk (⟨by omega, by omega, by omega, lenE _⟩) ?_
     refine ACall.mk _ _ hCall ?_
     refine sp0 ?_
     refine Fz.mk _ (FrzLL.frz .nil) ?_
     exact ndE trivial
def encLs (r : Rn) : List C := [.sl (r.ents.map Ent.enc)]
theorem impl_entsOf (xs : List Rn) (hl : xs.length ≤ 1048576) :
  AFn Tryz.prog 141 [sl (xs.map Rn.enc)] [] (.one (.us 29 (xs.map encLs))) [] := by
 have hn : (xs.map Rn.enc).length = xs.length := List.length_map ..
 refine AFn.introX (E := En 0 md0) (en_ok 0 _) Tryz.func141 rfl rfl rfl fun _ _ => ?_
 let S : Nat → List (List C) → St := fun i R => ⟨none :: none :: none :: some (.one (.ref 3 0 (.cell 0))) :: none :: none :: some (sl (List.map Rn.enc xs)) :: some (av (.int .i64 (↑(List.map Rn.enc xs).length))) :: some (av (.int .i64 i)) :: List.replicate 10 none, absent :: absent :: absent :: ⟨0, 1, some [.us 29 R]⟩ :: List.replicate 15 absent⟩
 refine ALoop.mk (fun m s => ∃ (i : Nat) (R : List (List C)), i ≤ xs.length ∧ m = xs.length - i ∧ R = (xs.take i).map encLs ∧ s = S i R)
  ⟨_, _, Weak.trans (Weak.nrm [false, false, false, true, false, false, true, true, true] [] rfl rfl rfl) (Weak.nilOwn 3 3 29 rfl rfl (pos_of tab_ok (t := 29) rfl)), 0, [], Nat.zero_le _, rfl, rfl, rfl⟩ ?_
 rintro m s ⟨i, R, hi, rfl, hR, hs⟩
 by_cases hin : i < xs.length
 ·have hRl : R.length = i := by rw [hR, List.length_map, List.length_take]; omega
  have hget := map_get Rn.enc xs i hin
  have hRR : R ++ [[.sl (xs[i].ents.map Ent.enc)]] = (xs.take (i + 1)).map encLs := by rw [hR, List.take_succ_eq_append_getElem hin, List.map_append]; rfl
  subst hs
  refine spT (by omega) fun h1 => ?_
  refine nd ?_
  refine Row.mk _ hget ?_
  refine apq (A' := _) (B' := [[.sl (List.map Ent.enc xs[i].ents)]]) rfl rfl ?_
  refine Num.mk _ (wrapS (by omega)) ?_
  exact ⟨_, _, by omega, Weak.nrm [false, false, false, true, false, false, true, true, true] [(16, 3)] rfl rfl rfl, i + 1, _, by omega, rfl, hRR, rfl⟩
 ·have hres : R = xs.map encLs := by rw [hR, List.take_of_length_le (by omega)]
  rw [← hres]
  subst hs
  refine spF (by omega) fun h1 => ?_
  exact ndE trivial
theorem impl_takeRuns0 (xs : List Rn) (pick : Int) (hl : xs.length ≤ 1048576) :
  AFn Tryz.prog 138 [sl (xs.map Rn.enc), av (.int .i64 0), av (.int .i64 pick)] [] (.tup [.one (.sl (xs.map Rn.enc)), .one (.v nilV), .one (vb (decide (0 < xs.length)))]) [] := by
 have hn : (xs.map Rn.enc).length = xs.length := List.length_map ..
 by_cases h0 : 0 < xs.length
 ·rw [decide_eq_true h0]
  refine AFn.introX (E := En 0 md0) (en_ok 0 _) Tryz.func138 rfl rfl rfl fun _ _ => ?_
  refine sp1 ?_
  refine spT (by omega) fun h2 => ?_
  exact ndE trivial
 ·rw [decide_eq_false h0]
  refine AFn.introX (E := En 0 md0) (en_ok 0 _) Tryz.func138 rfl rfl rfl fun _ _ => ?_
  refine sp1 ?_
  refine spF (by omega) fun h2 => ?_
  exact ndE trivial
theorem impl_takeRunsN (xs : List Rn) (lv pick : Int) (h0 : lv ≠ 0) (hp : ¬ (0 ≤ pick ∧ pick < xs.length)) :
  AFn Tryz.prog 138 [sl (xs.map Rn.enc), av (.int .i64 lv), av (.int .i64 pick)] [] (.tup [.one (.v nilV), .one (.v nilV), .one (vb false)]) [] := by
 have hn : (xs.map Rn.enc).length = xs.length := List.length_map ..
 by_cases hp1 : pick < 0
 ·refine AFn.introX (E := En 0 md0) (en_ok 0 _) Tryz.func138 rfl rfl rfl fun _ _ => ?_
  refine sqF (by omega) fun h1 => ?_
  refine spT (by omega) fun h2 => ?_
  exact ndE trivial
 ·refine AFn.introX (E := En 0 md0) (en_ok 0 _) Tryz.func138 rfl rfl rfl fun _ _ => ?_
  refine sqF (by omega) fun h1 => ?_
  refine spF (by omega) fun h2 => ?_
  refine spT (by omega) fun h3 => ?_
  exact ndE trivial
theorem impl_takeRunsY (xs : List Rn) (lv : Int) (p : Nat) (h0 : lv ≠ 0) (hp : p < xs.length) (hl : xs.length ≤ 1000000) :
  AFn Tryz.prog 138 [sl (xs.map Rn.enc), av (.int .i64 lv), av (.int .i64 p)] [] (.tup [.one (.sl (((xs.drop p).take 1).map Rn.enc)), .one (.us 68 ((xs.take p ++ xs.drop (p + 1)).map Rn.enc)), .one (vb true)]) [] := by
 have hn : (xs.map Rn.enc).length = xs.length := List.length_map ..
 have hC := slices_ConcatR [xs.take p, xs.drop (p + 1)] (by show (2 : Nat) ≤ 1000000; decide) (by intro l h; rcases List.mem_cons.1 h with rfl | h; (rw [List.length_take]; omega); cases List.mem_singleton.1 h; rw [List.length_drop]; omega) (by show ([xs.take p, xs.drop (p + 1)].flatten).length ≤ _; rw [show [xs.take p, xs.drop (p + 1)].flatten = xs.take p ++ (xs.drop (p + 1) ++ []) from rfl, List.length_append, List.length_append, List.length_take, List.length_drop]; simp; omega)
 rw [show [xs.take p, xs.drop (p + 1)].flatten = xs.take p ++ xs.drop (p + 1) by simp] at hC
 have e1 : List.take ((p : Int) - 0).toNat (List.drop (Int.toNat 0) (List.map Rn.enc xs)) = (xs.take p).map Rn.enc := by
  rw [show ((p : Int) - 0).toNat = p by omega, List.map_take]; rfl
 have e2 : List.take (↑(List.map Rn.enc xs).length - ((p + 1 : Nat) : Int)).toNat (List.drop (p + 1) (List.map Rn.enc xs)) = (xs.drop (p + 1)).map Rn.enc := by
  rw [hn, List.map_drop, List.take_of_length_le (by rw [List.length_drop, List.length_map]; omega)]
 have e3 : List.take ((((p + 1 : Nat) : Int) - (p : Int)).toNat) (List.drop (Int.toNat (p : Int)) (List.map Rn.enc xs)) = ((xs.drop p).take 1).map Rn.enc := by
  rw [show (((p + 1 : Nat) : Int) - (p : Int)).toNat = 1 by omega, List.map_take, List.map_drop]; rfl
 rw [← e3]
 rw [show [xs.take p, xs.drop (p + 1)].map encL = [[.sl ((xs.take p).map Rn.enc)], [.sl ((xs.drop (p + 1)).map Rn.enc)]] from rfl, ← e1, ← e2] at hC
 refine AFn.introX (E := En 0 (mdv [] [135])) (en_ok 0 _) Tryz.func138 rfl rfl rfl fun _ _ => ?_
 refine sqF (by omega) fun h1 => ?_
 refine sp0 ?_
 refine spF (by omega) fun h3 => ?_
 refine Num.mk _ (wrapS (by omega)) ?_
 refine Need.mk (⟨by omega, by omega, by omega, lenR _⟩) ?_
 refine Need.mk (⟨by omega, by omega, by omega, lenR _⟩) ?_
 refine Num.mk _ (wrapS (by omega)) ?_
 refine Need.mk (⟨by omega, by omega, by omega, lenR _⟩) ?_
 refine Fz.mk _ (FrzLL.frz (.cons (.cons .sl .nil) (.cons (.cons .sl .nil) .nil))) ?_
 refine ACall.mk _ _ hC ?_
 refine Need.mk (rfl) ?_
 exact ndE trivial
theorem laws_markText (k : Nat) (hk : k ≤ 4611686018427387904) : AFn Tryz.prog 72 [av (.int .i64 k)] [] (.one (vs (markT k))) [] := by
 refine AFn.introX (E := En 0 md0) (en_ok 0 md0) Tryz.func72 rfl rfl rfl fun _ _ => ?_
 refine Split.mk fun t ht => ?_
 cases t
 ·have h0 : 0 < k := by simp at ht; omega
  refine ALoop.mk (fun n s => ∃ (j : Nat) (out : ByteArray), n = j ∧ j + out.size ≤ 4611686018427387904 ∧ digs j out = digs k ⟨#[]⟩ ∧
   s = ⟨some (av (.int .i64 j)) :: none :: some (av (.string ⟨#[]⟩)) :: some (av (.string out)) :: List.replicate 16 none, List.replicate 20 absent⟩)
   ⟨k, _, Weak.nrm [true, false, true, true] [] rfl rfl rfl, k, ⟨#[]⟩, rfl, hk, rfl, rfl⟩ ?_
  rintro j s ⟨_, out, rfl, hb, hd, rfl⟩
  refine Split.mk fun t ht => ?_
  cases t
  ·have hj : j = 0 := by simp at ht; omega
   subst hj
   refine Need.mk (strFits1 (by omega)) ?_
   refine Need.mk ⟨[], _, .same, ?_, rfl⟩ trivial
   have : markT k = ⟨#[109]⟩ ++ digs k ⟨#[]⟩ := by simp [markT]; omega
   rw [this, ← hd, digs_zero]; rfl
  ·have hj : 0 < j := by simpa using ht
   refine Need.mk (by decide) ?_
   refine Num.mk ((48 + j % 10 : Nat) : Int) (by rw [show ((j : Int).tmod 10) = ((j % 10 : Nat) : Int) from rfl, wrapI] <;> omega) ?_
   refine Num.mk ((48 + j % 10 : Nat) : Int) (by rw [wrapU8] <;> omega) ?_
   refine Need.mk (strFits1 (by omega)) ?_
   refine Need.mk (by decide) ?_
   refine Num.mk ((j / 10 : Nat) : Int) (by rw [show ((j : Int).tdiv 10) = ((j / 10 : Nat) : Int) from rfl, wrapI] <;> omega) ?_
   refine ⟨j / 10, _, by omega, Weak.nrm [true, false, true, true] [] rfl rfl rfl, j / 10, dig j ++ out, rfl, ?_, ?_, rfl⟩
   ·rw [ByteArray.size_append, show (dig j).size = 1 from rfl]; omega
   ·rw [← digs_succ hj]; exact hd
 ·have h0 : k = 0 := by simp at ht; omega
  subst h0
  exact ndE trivial
theorem laws_markEntryS (xs : List Ent) (k : Nat) (hk : k + 5 * xs.length ≤ 4611686018427387904) : AFn Tryz.prog 24 [.one (.ref 0 0 (.cell 0)), av (.int .i64 k)] [[.us 54 (xs.map Ent.enc)]] (.one (vi ((k + 5 * xs.length : Nat) : Int))) [[.us 54 ((markL k xs.length).map Ent.enc)]] := by
 refine AFn.introX (E := En 1 md0) (en_ok 1 md0) Tryz.func24 rfl rfl rfl fun _ _ => ?_
 let S : List (List C) → Nat → Nat → St := fun rows i m => ⟨some (.one (.ref 0 0 (.cell 0))) :: some (av (.int .i64 m)) :: none :: none :: none :: some (av (.int .i64 i)) :: List.replicate 44 none, ⟨0, 1, some [.us 54 rows]⟩ :: List.replicate 50 absent⟩
 refine ALoop.mk (fun n s => ∃ (i : Nat) (ys : List Ent), i ≤ xs.length ∧ n = xs.length - i ∧ ys.length = xs.length ∧ (∀ j : Nat, j < i → ys[j]? = some (markE (k + 5 * j))) ∧ s = S (ys.map Ent.enc) i (k + 5 * i))
  ⟨xs.length, _, Weak.nrm [true, true, false, false, false, true] [(0, 0)] rfl rfl rfl, 0, xs, Nat.zero_le _, rfl, rfl, by intro j hj; omega, rfl⟩ ?_
 rintro n s ⟨i, ys, hi, rfl, hl, hm, rfl⟩
 refine Split.mk fun t ht => ?_
 rw [List.length_map] at ht
 cases t
 ·have hia : i = xs.length := by simp at ht; omega
  subst hia
  refine Need.mk ⟨[], _, .same, rfl, ?_⟩ trivial
  rw [← markL_of hl hm]; rfl
 ·have hia : i < ys.length := by simpa using ht
  have hlen : i < (ys.map Ent.enc).length := by rw [List.length_map]; exact hia
  refine ACall.mk _ _ (laws_markText (k + 5 * i) (by omega)) ?_
  refine Need.mk ⟨by omega, by simpa using hia⟩ ?_
  refine Row.mk _ (map_get _ ys i hia) ?_
  refine Num.mk _ (wrapS (by omega)) ?_
  refine Need.mk ⟨by omega, by simpa using hia⟩ ?_
  refine Row.mk _ (set_get _ _ _ hlen) ?_
  refine Num.mk _ (wrapS (by omega)) ?_
  refine Need.mk ⟨by omega, by simpa using hia⟩ ?_
  refine Row.mk _ (set_get _ _ _ (by simpa using hia)) ?_
  refine Num.mk _ (wrapS (by omega)) ?_
  refine ACall.mk _ _ (laws_markText (k + 5 * i + 1 + 1 + 1) (by omega)) ?_
  refine Need.mk ⟨by omega, by simpa using hia⟩ ?_
  refine Row.mk _ (set_get _ _ _ (by simpa using hia)) ?_
  refine Num.mk _ (wrapS (by omega)) ?_
  refine Need.mk ⟨by omega, by simpa using hia⟩ ?_
  refine Row.mk _ (set_get _ _ _ (by simpa using hia)) ?_
  refine Num.mk _ (wrapS (by omega)) ?_
  refine Num.mk _ (wrapS (by omega)) ?_
  refine ⟨xs.length - (i + 1), _, by omega, Weak.nrm [true, true, false, false, false, true] [(0, 0)] rfl rfl rfl, i + 1, ys.set i (markE (k + 5 * i)), by omega, rfl, by simpa using hl, fun j hj => ?_, ?_⟩
  ·by_cases hji : j = i
   ·subst hji; exact List.getElem?_set_self hia
   ·rw [List.getElem?_set_ne (Ne.symm hji)]; exact hm j (by omega)
  ·refine Eq.trans (b := S ((((((ys.map Ent.enc).set i _).set i _).set i _).set i _).set i (markE (k + 5 * i)).enc) (i + 1) (k + 5 * i + 1 + 1 + 1 + 1 + 1)) rfl ?_
   simp only [List.set_set, List.map_set]
   rfl
theorem laws_markRunS (xs : List Rn) (k : Nat) (hk : posR k xs ≤ 4611686018427387904) : AFn Tryz.prog 128 [.one (.ref 0 0 (.cell 0)), av (.int .i64 k)] [[.us 68 (xs.map encO)]] (.one (vi (posR k xs : Nat))) [[.us 68 ((mkRs k xs).map encO)]] := by
 refine AFn.introX (E := En 1 (md1 [24])) (en_ok 1 _) Tryz.func128 rfl rfl rfl fun _ _ => ?_
 let S : List (List C) → Nat → Nat → St := fun rows i m => ⟨some (.one (.ref 0 0 (.cell 0))) :: some (av (.int .i64 m)) :: none :: none :: none :: some (av (.int .i64 i)) :: List.replicate 21 none, ⟨0, 1, some [.us 68 rows]⟩ :: List.replicate 27 absent⟩
 refine ALoop.mk (fun n s => ∃ i : Nat, i ≤ xs.length ∧ n = xs.length - i ∧ s = S ((mkRs k (xs.take i) ++ xs.drop i).map encO) i (posR k (xs.take i)))
  ⟨xs.length, _, Weak.nrm [true, true, false, false, false, true] [(0, 0)] rfl rfl rfl, 0, Nat.zero_le _, rfl, rfl⟩ ?_
 rintro n s ⟨i, hi, rfl, rfl⟩
 have hlen : (mkRs k (xs.take i) ++ xs.drop i).length = xs.length := by rw [List.length_append, mkRs_len, List.length_take, List.length_drop]; omega
 refine Split.mk fun t ht => ?_
 rw [List.length_map, hlen] at ht
 cases t
 ·have hia : i = xs.length := by simp at ht; omega
  subst hia
  refine Need.mk ⟨[], _, .same, ?_, ?_⟩ trivial
  ·rw [List.take_length]; rfl
  ·rw [List.take_length, List.drop_length, List.append_nil]; rfl
 ·have hia : i < xs.length := by simpa using ht
  have hget : (mkRs k (xs.take i) ++ xs.drop i)[i]? = some xs[i] := by
   rw [List.getElem?_append_right (by rw [mkRs_len, List.length_take]; omega), mkRs_len, List.length_take, Nat.min_eq_left (by omega), Nat.sub_self, List.getElem?_drop, Nat.add_zero, List.getElem?_eq_getElem hia]
  have hpos : posR k (xs.take (i + 1)) = posR k (xs.take i) + 5 * xs[i].ents.length + 1 := by rw [List.take_succ_eq_append_getElem hia, posR_app]; rfl
  have hle : posR k (xs.take (i + 1)) ≤ 4611686018427387904 := by
   have : posR k xs = posR (posR k (xs.take (i + 1))) (xs.drop (i + 1)) := by rw [← posR_app, List.take_append_drop]
   have h2 := posR_le (xs.drop (i + 1)) (posR k (xs.take (i + 1)))
   omega
  have hrow : ((mkRs k (xs.take i) ++ xs.drop i).map encO)[i]? = some (encO xs[i]) := by rw [List.getElem?_map, hget]; rfl
  have hlt : i < ((mkRs k (xs.take i) ++ xs.drop i).map encO).length := by rw [List.length_map, hlen]; exact hia
  have hxl := posR_len xs k
  refine Need.mk ⟨by omega, by omega⟩ ?_
  refine Row.mk _ hrow ?_
  refine Row.mk _ hrow ?_
  refine ACall.mk _ _ (laws_markEntryS xs[i].ents (posR k (xs.take i)) (by omega)) ?_
  refine Row.mk _ hrow ?_
  refine Need.mk ⟨by omega, by rw [List.length_set]; omega⟩ ?_
  refine Row.mk _ (set_get _ _ _ hlt) ?_
  refine Num.mk _ (wrapS (by omega)) ?_
  refine Num.mk _ (wrapS (by omega)) ?_
  refine ⟨xs.length - (i + 1), _, by omega, Weak.nrm [true, true, false, false, false, true] [(0, 0)] rfl rfl rfl, i + 1, by omega, rfl, ?_⟩
  refine Eq.trans (b := S ((((mkRs k (xs.take i) ++ xs.drop i).map encO).set i _).set i (encO (mkR (posR k (xs.take i)) xs[i]))) (i + 1) (posR k (xs.take i) + 5 * xs[i].ents.length + 1)) rfl ?_
  rw [hpos, List.set_set, ← List.map_set, mkRs_step hia]
theorem laws_markRunSS (xs : List (List Rn)) (k : Nat) (hk : posL k xs ≤ 4611686018427387904) : AFn Tryz.prog 70 [.one (.ref 0 0 (.cell 0)), av (.int .i64 k)] [[.us 66 (xs.map encLO)]] (.one (vi (posL k xs : Nat))) [[.us 66 ((mkLs k xs).map encLO)]] := by
 refine AFn.introX (E := En 1 (md1 [128])) (en_ok 1 _) Tryz.func70 rfl rfl rfl fun _ hs => ?_
 have hxl := Small.lenU (hs _ (List.mem_cons_self ..) _ (List.mem_cons_self ..))
 rw [List.length_map] at hxl
 let S : List (List C) → Nat → Nat → St := fun rows i m => ⟨some (.one (.ref 0 0 (.cell 0))) :: some (av (.int .i64 m)) :: none :: none :: none :: some (av (.int .i64 i)) :: List.replicate 13 none, ⟨0, 1, some [.us 66 rows]⟩ :: List.replicate 19 absent⟩
 refine ALoop.mk (fun n s => ∃ i : Nat, i ≤ xs.length ∧ n = xs.length - i ∧ s = S ((mkLs k (xs.take i) ++ xs.drop i).map encLO) i (posL k (xs.take i)))
  ⟨xs.length, _, Weak.nrm [true, true, false, false, false, true] [(0, 0)] rfl rfl rfl, 0, Nat.zero_le _, rfl, rfl⟩ ?_
 rintro n s ⟨i, hi, rfl, rfl⟩
 have hlen : (mkLs k (xs.take i) ++ xs.drop i).length = xs.length := by rw [List.length_append, mkLs_len, List.length_take, List.length_drop]; omega
 refine Split.mk fun t ht => ?_
 rw [List.length_map, hlen] at ht
 cases t
 ·have hia : i = xs.length := by simp at ht; omega
  subst hia
  refine Need.mk ⟨[], _, .same, ?_, ?_⟩ trivial
  ·rw [List.take_length]; rfl
  ·rw [List.take_length, List.drop_length, List.append_nil]; rfl
 ·have hia : i < xs.length := by simpa using ht
  have hget : (mkLs k (xs.take i) ++ xs.drop i)[i]? = some xs[i] := by
   rw [List.getElem?_append_right (by rw [mkLs_len, List.length_take]; omega), mkLs_len, List.length_take, Nat.min_eq_left (by omega), Nat.sub_self, List.getElem?_drop, Nat.add_zero, List.getElem?_eq_getElem hia]
  have hpos : posL k (xs.take (i + 1)) = posR (posL k (xs.take i)) xs[i] := by rw [List.take_succ_eq_append_getElem hia, posL_app]; rfl
  have hle : posL k (xs.take (i + 1)) ≤ 4611686018427387904 := by
   have : posL k xs = posL (posL k (xs.take (i + 1))) (xs.drop (i + 1)) := by rw [← posL_app, List.take_append_drop]
   have h2 := posL_le (xs.drop (i + 1)) (posL k (xs.take (i + 1)))
   omega
  have hrow : ((mkLs k (xs.take i) ++ xs.drop i).map encLO)[i]? = some (encLO xs[i]) := by rw [List.getElem?_map, hget]; rfl
  have hlt : i < ((mkLs k (xs.take i) ++ xs.drop i).map encLO).length := by rw [List.length_map, hlen]; exact hia
  refine Need.mk ⟨by omega, by omega⟩ ?_
  refine Row.mk _ hrow ?_
  refine Row.mk _ hrow ?_
  refine ACall.mk _ _ (laws_markRunS xs[i] (posL k (xs.take i)) (by omega)) ?_
  refine Row.mk _ hrow ?_
  refine Num.mk _ (wrapS (by omega)) ?_
  refine ⟨xs.length - (i + 1), _, by omega, Weak.nrm [true, true, false, false, false, true] [(0, 0)] rfl rfl rfl, i + 1, by omega, rfl, ?_⟩
  refine Eq.trans (b := S (((mkLs k (xs.take i) ++ xs.drop i).map encLO).set i (encLO (mkRs (posL k (xs.take i)) xs[i]))) (i + 1) (posR (posL k (xs.take i)) xs[i])) rfl ?_
  rw [hpos, ← List.map_set, mkLs_step hia]
theorem laws_markIntS (xs : List Int) (k : Nat) (hk : k + xs.length ≤ 4611686018427387904) : AFn Tryz.prog 71 [.one (.ref 0 0 (.cell 0)), av (.int .i64 k)] [[.us 3 (xs.map encI)]] (.one (vi ((k + xs.length : Nat) : Int))) [[.us 3 ((markI k xs.length).map encI)]] := by
 refine AFn.introX (E := En 1 md0) (en_ok 1 md0) Tryz.func71 rfl rfl rfl fun _ _ => ?_
 let S : List (List C) → Nat → Nat → St := fun rows i m => ⟨some (.one (.ref 0 0 (.cell 0))) :: some (av (.int .i64 m)) :: none :: none :: none :: some (av (.int .i64 i)) :: List.replicate 13 none, ⟨0, 1, some [.us 3 rows]⟩ :: List.replicate 19 absent⟩
 refine ALoop.mk (fun n s => ∃ (i : Nat) (ys : List Int), i ≤ xs.length ∧ n = xs.length - i ∧ ys.length = xs.length ∧ (∀ j : Nat, j < i → ys[j]? = some ((k + j : Nat) : Int)) ∧ s = S (ys.map encI) i (k + i))
  ⟨xs.length, _, Weak.nrm [true, true, false, false, false, true] [(0, 0)] rfl rfl rfl, 0, xs, Nat.zero_le _, rfl, rfl, by intro j hj; omega, rfl⟩ ?_
 rintro n s ⟨i, ys, hi, rfl, hl, hm, rfl⟩
 refine Split.mk fun t ht => ?_
 rw [List.length_map] at ht
 cases t
 ·have hia : i = xs.length := by simp at ht; omega
  subst hia
  refine Need.mk ⟨[], _, .same, rfl, ?_⟩ trivial
  rw [← markI_of hl hm]; rfl
 ·have hia : i < ys.length := by simpa using ht
  refine Need.mk ⟨by omega, by simpa using hia⟩ ?_
  refine Row.mk _ (map_get _ ys i hia) ?_
  refine Num.mk _ (wrapS (by omega)) ?_
  refine Num.mk _ (wrapS (by omega)) ?_
  refine ⟨xs.length - (i + 1), _, by omega, Weak.nrm [true, true, false, false, false, true] [(0, 0)] rfl rfl rfl, i + 1, ys.set i ((k + i : Nat) : Int), by omega, rfl, by simpa using hl, fun j hj => ?_, ?_⟩
  ·by_cases hji : j = i
   ·subst hji; exact List.getElem?_set_self hia
   ·rw [List.getElem?_set_ne (Ne.symm hji)]; exact hm j (by omega)
  ·refine Eq.trans (b := S ((ys.map encI).set i (encI ((k + i : Nat) : Int))) (i + 1) (k + i + 1)) rfl ?_
   simp only [List.map_set]
   rfl
def posT (k : Nat) (t : Tre) : Nat := posL (k + 5 * t.mem.length) t.levels + t.snaps.length
def mkT (k : Nat) (t : Tre) : Tre := ⟨t.seq, markL k t.mem.length, mkLs (k + 5 * t.mem.length) t.levels, markI (posL (k + 5 * t.mem.length) t.levels) t.snaps.length⟩
def argT (t : Tre) : AV := .agg [.c (vi t.seq), .ref 0 0 (.cell 0), .ref 1 0 (.cell 0), .ref 2 0 (.cell 0)]
def obsT (t : Tre) : List (List C) := [[.us 54 (t.mem.map Ent.enc)], [.us 66 (t.levels.map encLO)], [.us 3 (t.snaps.map encI)]]
theorem laws_markTree (t : Tre) (k : Nat) (hk : posT k t ≤ 4611686018427387904) : AFn Tryz.prog 23 [argT t, av (.int .i64 k)] (obsT t) (.one (vi (posT k t : Nat))) (obsT (mkT k t)) := by
 refine AFn.introX (E := En 3 (md1 [24, 70, 71]) [2]) (en_ok 3 _ _) Tryz.func23 rfl rfl rfl fun _ hs => ?_
 have h1 := posL_le t.levels (k + 5 * t.mem.length)
 unfold posT at hk
 refine ACall.mk _ _ (laws_markEntryS t.mem k (by omega)) ?_
 refine ACall.mk _ _ (laws_markRunSS t.levels (k + 5 * t.mem.length) (by omega)) ?_
 refine ACall.mk _ _ (laws_markIntS t.snaps (posL (k + 5 * t.mem.length) t.levels) (by omega)) ?_
 exact ndE trivial
theorem spec_l4RunO' (xs : List Ent) (hx : OkE xs) (hl : xs.length ≤ 1099511627776) :
  AFn Tryz.prog 130 [.one (.ref 0 0 (.cell 0))] [[.us 54 (xs.map Ent.enc)]] (.agg [.us 54 (xs.map Ent.enc), vi (rmask xs : Nat)]) [[.x]] := by
 refine AFn.introX (E := En 1 md0) (en_ok 1 _) Tryz.func130 rfl rfl rfl fun _ _ => ?_
 refine Fz.mk _ (frzE xs) ?_
 refine ACall.mk _ _ (spec_l4Mask xs hx hl) ?_
 refine Need.mk ⟨closed_v, no_objs⟩ ?_
 exact ndE trivial
theorem Tre.small_ok {t : Tre} (h : treeOk t = true) : t.Small := by
 obtain ⟨l0, l1, l2, he, h3⟩ := treeOk_levels h
 obtain ⟨⟨_, _, a3, _, a5⟩, ⟨a6, a7, a8⟩, _, _⟩ := treeP.1 h3
 refine ⟨by omega, by rw [he]; simp, fun l hl => ?_, by have := (snaps_iff.1 a5).1; omega⟩
 rw [he] at hl
 have key : ∀ {l : List Rn} {n : Nat} {b : Bool}, levB l n b = true → n ≤ 8 → l.length ≤ 1048576 ∧ ∀ r ∈ l, r.ents.length ≤ 1048576 := fun h hn => ⟨by have := (levB_ok h).1; omega, fun r hr => by have := (runOk_len ((levB_ok h).2 r hr)).2.1; omega⟩
 rcases List.mem_cons.1 hl with rfl | hl
 ·exact key a6 (by omega)
 ·rcases List.mem_cons.1 hl with rfl | hl
  ·exact key a7 (by omega)
  ·rw [List.mem_singleton.1 hl]; exact key a8 (by omega)
theorem posR_lin {b : Nat} : ∀ (l : List Rn) (k : Nat), (∀ r ∈ l, r.ents.length ≤ b) → posR k l ≤ k + (5 * b + 1) * l.length := by
 intro l
 induction l with
 | nil => intro k _; exact Nat.le_refl _
 | cons r l ih =>
  intro k h
  have h1 := ih (stepR k r) fun r hr => h r (List.mem_cons_of_mem _ hr)
  have h2 := h r (List.mem_cons_self ..)
  have h3 : stepR k r ≤ k + (5 * b + 1) := by unfold stepR; omega
  show posR (stepR k r) l ≤ _
  rw [List.length_cons, Nat.mul_add]
  omega
theorem posT_ok {t : Tre} (h : treeOk t = true) : posT 1 t ≤ 6000000 := by
 obtain ⟨l0, l1, l2, he, h3⟩ := treeOk_levels h
 obtain ⟨⟨_, _, a3, _, a5⟩, ⟨a6, a7, a8⟩, _, _⟩ := treeP.1 h3
 have key : ∀ {l : List Rn} {n : Nat} {b : Bool} (k : Nat), levB l n b = true → n ≤ 8 → posR k l ≤ k + 6008 := fun {l n b} k h hn => by
  have h1 := posR_lin (b := 150) l k fun r hr => (runOk_len ((levB_ok h).2 r hr)).2.1
  have h2 := (levB_ok h).1
  have h3 : (5 * 150 + 1) * l.length ≤ (5 * 150 + 1) * 8 := Nat.mul_le_mul_left _ (by omega)
  omega
 have h5 := (snaps_iff.1 a5).1
 unfold posT
 rw [he]
 show posR (posR (posR (1 + 5 * t.mem.length) l0) l1) l2 + t.snaps.length ≤ _
 have k0 := key (1 + 5 * t.mem.length) a6 (by omega)
 have k1 := key (posR (1 + 5 * t.mem.length) l0) a7 (by omega)
 have k2 := key (posR (posR (1 + 5 * t.mem.length) l0) l1) a8 (by omega)
 omega
theorem in_succ {xs : List Rn} {i : Nat} (h : i < xs.length) (lo hi : ByteArray) : inL (xs.take (i + 1)) lo hi = inL (xs.take i) lo hi ++ (if meetsB xs[i] lo hi = true then [xs[i]] else []) := by
 unfold inL; rw [List.take_succ_eq_append_getElem h, List.filter_append]; congr 1; cases hm : meetsB xs[i] lo hi <;> simp [hm]
theorem off_succ {xs : List Rn} {i : Nat} (h : i < xs.length) (lo hi : ByteArray) : offL (xs.take (i + 1)) lo hi = offL (xs.take i) lo hi ++ (if meetsB xs[i] lo hi = true then [] else [xs[i]]) := by
 unfold offL; rw [List.take_succ_eq_append_getElem h, List.filter_append]; congr 1; cases hm : meetsB xs[i] lo hi <;> simp [hm]
theorem order_succ {xs ys : List Rn} {i : Nat} (h : i < ys.length) : orderL xs (ys.take (i + 1)) = ins rLess (orderL xs (ys.take i)) ys[i] := by
 unfold orderL; rw [List.take_succ_eq_append_getElem h, List.foldl_append]; rfl
theorem order_mem : ∀ (xs ys : List Rn), ∀ r ∈ orderL xs ys, r ∈ xs ∨ r ∈ ys := by
 intro xs ys
 induction ys generalizing xs with
 | nil => exact fun r h => .inl h
 | cons y ys ih =>
  intro r h
  rcases ih (ins rLess xs y) r h with h | h
  ·rcases List.mem_cons.1 ((ins_perm rLess xs y).mem_iff.1 h) with rfl | h
   ·exact .inr (List.mem_cons_self ..)
   ·exact .inl h
  ·exact .inr (List.mem_cons_of_mem _ h)
theorem order_len : ∀ (xs ys : List Rn), (orderL xs ys).length = xs.length + ys.length := by
 intro xs ys
 induction ys generalizing xs with
 | nil => rfl
 | cons y ys ih => exact (ih (ins rLess xs y)).trans (by rw [ins_len, List.length_cons]; omega)
theorem spec_l5Meet (r : Rn) (low high : ByteArray) (h : 0 < r.ents.length) (hl : r.ents.length ≤ 1099511627776) : AFn Tryz.prog 214 [.agg (r.enc.map .c), av (.string low), av (.string high)] [] (rb (meetsB r low high)) [] := by
 have hL := spec_l5Low r h
 have hH := spec_l5High r h hl
 obtain ⟨a, ha⟩ := exq (lowK r)
 obtain ⟨b, hb⟩ := exq (highK r)
 unfold meetsB
 rw [ha] at hL
 rw [hb] at hH
 rw [ha, hb]
 by_cases h1 : slt high a = true
 ·have hres : (!slt high a && !slt b low) = false := by rw [h1]; rfl
  rw [hres]
  refine AFn.introX (E := En 0 md0) (en_ok 0 _) Tryz.func214 rfl rfl rfl fun _ _ => ?_
  refine ACall.mk _ _ hL ?_
  refine Split.mk fun t h1 => ?_
  cases t
  case true => (exfalso; rw [str_le, Bool.not_eq_true'] at h1; exact Bool.noConfusion (h1.symm.trans (‹_› : _ = true)))
  rw [str_le, Bool.not_eq_false'] at h1
  exact ndE trivial
 ·have h1' : slt high a = false := Bool.eq_false_iff.2 h1
  by_cases h2 : slt b low = true
  ·have hres : (!slt high a && !slt b low) = false := by rw [h1', h2]; rfl
   rw [hres]
   refine AFn.introX (E := En 0 md0) (en_ok 0 _) Tryz.func214 rfl rfl rfl fun _ _ => ?_
   refine ACall.mk _ _ hL ?_
   refine Split.mk fun t h1 => ?_
   cases t
   case false => (exfalso; rw [str_le, Bool.not_eq_false'] at h1; exact absurd h1 ‹_›)
   rw [str_le, Bool.not_eq_true'] at h1
   refine ACall.mk _ _ hH ?_
   refine Split.mk fun t h2 => ?_
   cases t
   case true => (exfalso; rw [str_le, Bool.not_eq_true'] at h2; exact Bool.noConfusion (h2.symm.trans (‹_› : _ = true)))
   rw [str_le, Bool.not_eq_false'] at h2
   exact ndE trivial
  ·have h2' : slt b low = false := Bool.eq_false_iff.2 h2
   have hres : (!slt high a && !slt b low) = true := by rw [h1', h2']; rfl
   rw [hres]
   refine AFn.introX (E := En 0 md0) (en_ok 0 _) Tryz.func214 rfl rfl rfl fun _ _ => ?_
   refine ACall.mk _ _ hL ?_
   refine Split.mk fun t h1 => ?_
   cases t
   case false => (exfalso; rw [str_le, Bool.not_eq_false'] at h1; exact absurd h1 ‹_›)
   rw [str_le, Bool.not_eq_true'] at h1
   refine ACall.mk _ _ hH ?_
   refine Split.mk fun t h2 => ?_
   cases t
   case false => (exfalso; rw [str_le, Bool.not_eq_false'] at h2; exact absurd h2 ‹_›)
   rw [str_le, Bool.not_eq_true'] at h2
   exact ndE trivial
theorem spec_l5Range (x : Rn) (xs : List Rn) (hl : xs.length ≤ 1048576) (hr : ∀ r ∈ x :: xs, 0 < r.ents.length ∧ r.ents.length ≤ 1048576) :
  AFn Tryz.prog 184 [sl ((x :: xs).map Rn.enc)] [] (.tup [.one (vs (lowR (x :: xs))), .one (vs (highR (x :: xs)))]) [] := by
 have hn : ((x :: xs).map Rn.enc).length = xs.length + 1 := List.length_map ..
 have hL := spec_l5Low x (hr x (List.mem_cons_self ..)).1
 have hH := spec_l5High x (hr x (List.mem_cons_self ..)).1 (Nat.le_trans (hr x (List.mem_cons_self ..)).2 (by decide))
 have h0 : ((x :: xs).map Rn.enc)[0]? = some x.enc := rfl
 refine AFn.introX (E := En 0 md0) (en_ok 0 _) Tryz.func184 rfl rfl rfl fun _ _ => ?_
 refine nd ?_
 refine Row.mk _ h0 ?_
 refine ACall.mk _ _ hL ?_
 refine nd ?_
 refine Row.mk _ h0 ?_
 refine ACall.mk _ _ hH ?_
 let S : Nat → ByteArray → ByteArray → St := fun i lo hi => ⟨some (sl (List.map Rn.enc (x :: xs))) :: none :: none :: none :: some (av (.string lo)) :: some (av (.string hi)) :: some (av (.int .i64 ((i + 1 : Nat) : Int))) :: List.replicate 40 none, List.replicate 47 absent⟩
 refine ALoop.mk (fun m s => ∃ (i : Nat) (lo hi : ByteArray), i ≤ xs.length ∧ m = xs.length - i ∧ lo = loR x xs i ∧ hi = hiR x xs i ∧ s = S i lo hi)
  ⟨_, _, Weak.nrm [true, false, false, false, true, true, true] [] rfl rfl rfl, 0, _, _, Nat.zero_le _, rfl, rfl, rfl, rfl⟩ ?_
 rintro m s ⟨i, _, _, hi, rfl, rfl, rfl, hs⟩
 by_cases hin : i < xs.length
 ·have hget : ((x :: xs).map Rn.enc)[i + 1]? = some (xs[i]).enc := map_get Rn.enc xs i hin
  have hmem := hr _ (List.mem_cons_of_mem x (List.getElem_mem hin))
  have hL2 := spec_l5Low xs[i] hmem.1
  have hH2 := spec_l5High xs[i] hmem.1 (Nat.le_trans hmem.2 (by decide))
  have s1 : loR x xs (i + 1) = minB (loR x xs i) (lowK xs[i]) := loR_succ hin
  have s2 : hiR x xs (i + 1) = maxB (hiR x xs i) (highK xs[i]) := hiR_succ hin
  by_cases c1 : slt (lowK xs[i]) (loR x xs i) = true
  ·have s1' : lowK xs[i] = loR x xs (i + 1) := (s1.trans (if_pos c1)).symm
   by_cases c2 : slt (hiR x xs i) (highK xs[i]) = true
   ·have s2' : highK xs[i] = hiR x xs (i + 1) := (s2.trans (if_pos c2)).symm
    subst hs
    refine spT (by omega) fun h1 => ?_
    refine nd ?_
    refine Row.mk _ hget ?_
    refine ACall.mk _ _ hL2 ?_
    refine Split.mk fun t h2 => ?_
    cases t
    case false => (exfalso; exact Bool.noConfusion (h2.symm.trans (‹_› : _ = true)))
    refine nd ?_
    refine Row.mk _ hget ?_
    refine ACall.mk _ _ hL2 ?_
    refine nd ?_
    refine Row.mk _ hget ?_
    refine ACall.mk _ _ hH2 ?_
    refine Split.mk fun t h3 => ?_
    cases t
    case false => (exfalso; rw [str_gt] at h3; exact Bool.noConfusion (h3.symm.trans (‹_› : _ = true)))
    rw [str_gt] at h3
    refine nd ?_
    refine Row.mk _ hget ?_
    refine ACall.mk _ _ hH2 ?_
    refine Num.mk _ (wrapS (by omega)) ?_
    exact ⟨_, _, by omega, Weak.nrm [true, false, false, false, true, true, true] [] rfl rfl rfl, i + 1, _, _, by omega, rfl, s1', s2', rfl⟩
   ·have s2' : hiR x xs i = hiR x xs (i + 1) := (s2.trans (if_neg c2)).symm
    have c2' := Bool.eq_false_iff.2 c2
    subst hs
    refine spT (by omega) fun h1 => ?_
    refine nd ?_
    refine Row.mk _ hget ?_
    refine ACall.mk _ _ hL2 ?_
    refine Split.mk fun t h2 => ?_
    cases t
    case false => (exfalso; exact Bool.noConfusion (h2.symm.trans (‹_› : _ = true)))
    refine nd ?_
    refine Row.mk _ hget ?_
    refine ACall.mk _ _ hL2 ?_
    refine nd ?_
    refine Row.mk _ hget ?_
    refine ACall.mk _ _ hH2 ?_
    refine Split.mk fun t h3 => ?_
    cases t
    case true => (exfalso; rw [str_gt] at h3; exact absurd h3 ‹_›)
    rw [str_gt] at h3
    refine Num.mk _ (wrapS (by omega)) ?_
    exact ⟨_, _, by omega, Weak.nrm [true, false, false, false, true, true, true] [] rfl rfl rfl, i + 1, _, _, by omega, rfl, s1', s2', rfl⟩
  ·have s1' : loR x xs i = loR x xs (i + 1) := (s1.trans (if_neg c1)).symm
   have c1' := Bool.eq_false_iff.2 c1
   by_cases c2 : slt (hiR x xs i) (highK xs[i]) = true
   ·have s2' : highK xs[i] = hiR x xs (i + 1) := (s2.trans (if_pos c2)).symm
    subst hs
    refine spT (by omega) fun h1 => ?_
    refine nd ?_
    refine Row.mk _ hget ?_
    refine ACall.mk _ _ hL2 ?_
    refine Split.mk fun t h2 => ?_
    cases t
    case true => (exfalso; exact Bool.noConfusion (h2.symm.trans (‹_› : _ = false)))
    refine nd ?_
    refine Row.mk _ hget ?_
    refine ACall.mk _ _ hH2 ?_
    refine Split.mk fun t h3 => ?_
    cases t
    case false => (exfalso; rw [str_gt] at h3; exact Bool.noConfusion (h3.symm.trans (‹_› : _ = true)))
    rw [str_gt] at h3
    refine nd ?_
    refine Row.mk _ hget ?_
    refine ACall.mk _ _ hH2 ?_
    refine Num.mk _ (wrapS (by omega)) ?_
    exact ⟨_, _, by omega, Weak.nrm [true, false, false, false, true, true, true] [] rfl rfl rfl, i + 1, _, _, by omega, rfl, s1', s2', rfl⟩
   ·have s2' : hiR x xs i = hiR x xs (i + 1) := (s2.trans (if_neg c2)).symm
    have c2' := Bool.eq_false_iff.2 c2
    subst hs
    refine spT (by omega) fun h1 => ?_
    refine nd ?_
    refine Row.mk _ hget ?_
    refine ACall.mk _ _ hL2 ?_
    refine Split.mk fun t h2 => ?_
    cases t
    case true => (exfalso; exact Bool.noConfusion (h2.symm.trans (‹_› : _ = false)))
    refine nd ?_
    refine Row.mk _ hget ?_
    refine ACall.mk _ _ hH2 ?_
    refine Split.mk fun t h3 => ?_
    cases t
    case true => (exfalso; rw [str_gt] at h3; exact absurd h3 ‹_›)
    rw [str_gt] at h3
    refine Num.mk _ (wrapS (by omega)) ?_
    exact ⟨_, _, by omega, Weak.nrm [true, false, false, false, true, true, true] [] rfl rfl rfl, i + 1, _, _, by omega, rfl, s1', s2', rfl⟩
 ·have e1 : loR x xs i = lowR (x :: xs) := by rw [show i = xs.length by omega]; unfold loR; rw [List.take_length]; rfl
  have e2 : hiR x xs i = highR (x :: xs) := by rw [show i = xs.length by omega]; unfold hiR; rw [List.take_length]; rfl
  rw [← e1, ← e2]
  subst hs
  refine spF (by omega) fun h1 => ?_
  exact ndE trivial
theorem spec_l5Part (xs : List Rn) (low high : ByteArray) (hl : xs.length ≤ 1048576) (hr : ∀ r ∈ xs, 0 < r.ents.length ∧ r.ents.length ≤ 1048576) :
  AFn Tryz.prog 185 [sl (xs.map Rn.enc), av (.string low), av (.string high)] [] (.tup [.one (.us 68 ((inL xs low high).map Rn.enc)), .one (.us 68 ((offL xs low high).map Rn.enc))]) [] := by
 have hn : (xs.map Rn.enc).length = xs.length := List.length_map ..
 refine AFn.introX (E := En 0 md0 (fb := [])) (en_ok 0 _ _ _ _ _) Tryz.func185 rfl rfl rfl fun _ _ => ?_
 let S : Nat → List (List C) → List (List C) → St := fun i R1 R2 => ⟨some (sl (List.map Rn.enc xs)) :: some (av (.string low)) :: some (av (.string high)) :: none :: none :: none :: none :: none :: some (.one (.ref 8 0 (.cell 0))) :: some (.one (.ref 9 0 (.cell 0))) :: some (av (.int .i64 i)) :: List.replicate 31 none, absent :: absent :: absent :: absent :: absent :: absent :: absent :: absent :: ⟨0, 1, some [.us 68 R1]⟩ :: ⟨0, 1, some [.us 68 R2]⟩ :: List.replicate 32 absent⟩
 refine ALoop.mk (fun m s => ∃ (i : Nat) (R1 R2 : List (List C)), i ≤ xs.length ∧ m = xs.length - i ∧ R1 = (inL (xs.take i) low high).map Rn.enc ∧ R2 = (offL (xs.take i) low high).map Rn.enc ∧ s = S i R1 R2)
  ⟨_, _, Weak.trans (Weak.nrm [true, true, true, false, false, false, false, false, true, true, true] [(11, 8), (12, 9)] rfl rfl rfl) Weak.one, 0, [], [], Nat.zero_le _, rfl, rfl, rfl, rfl⟩ ?_
 rintro m s ⟨i, R1, R2, hi, rfl, hR1, hR2, hs⟩
 by_cases hin : i < xs.length
 ·have hget := map_get Rn.enc xs i hin
  have hmem := hr _ (List.getElem_mem hin)
  have hM := spec_l5Meet xs[i] low high hmem.1 (Nat.le_trans hmem.2 (by decide))
  have hl1 : R1.length ≤ i := by rw [hR1, List.length_map]; exact Nat.le_trans (List.length_filter_le _ _) (by rw [List.length_take]; omega)
  have hl2 : R2.length ≤ i := by rw [hR2, List.length_map]; exact Nat.le_trans (List.length_filter_le _ _) (by rw [List.length_take]; omega)
  have t1 := in_succ hin low high
  have t2 := off_succ hin low high
  by_cases hm : meetsB xs[i] low high = true
  ·rw [if_pos hm] at t1 t2
   rw [hm] at hM
   have t1' : R1 ++ [xs[i].enc] = (inL (xs.take (i + 1)) low high).map Rn.enc := by rw [t1, List.map_append, ← hR1]; rfl
   have t2' : R2 = (offL (xs.take (i + 1)) low high).map Rn.enc := by rw [t2, List.append_nil, hR2]
   subst hs
   refine spT (by omega) fun h1 => ?_
   refine nd ?_
   refine Row.mk _ hget ?_
   refine ACall.mk _ _ hM ?_
   refine sp1 ?_
   refine nd ?_
   refine Row.mk _ hget ?_
   refine apq (A' := _) (B' := [[.sl (List.map Ent.enc xs[i].ents), vi xs[i].mask]]) rfl rfl ?_
   refine Num.mk _ (wrapS (by omega)) ?_
   exact ⟨_, _, by omega, Weak.nrm [true, true, true, false, false, false, false, false, true, true, true] [(32, 8), (9, 9)] rfl rfl rfl, i + 1, _, _, by omega, rfl, t1', t2', rfl⟩
  ·rw [if_neg hm] at t1 t2
   rw [Bool.eq_false_iff.2 hm] at hM
   have t1' : R1 = (inL (xs.take (i + 1)) low high).map Rn.enc := by rw [t1, List.append_nil, hR1]
   have t2' : R2 ++ [xs[i].enc] = (offL (xs.take (i + 1)) low high).map Rn.enc := by rw [t2, List.map_append, ← hR2]; rfl
   subst hs
   refine spT (by omega) fun h1 => ?_
   refine nd ?_
   refine Row.mk _ hget ?_
   refine ACall.mk _ _ hM ?_
   refine sp0 ?_
   refine nd ?_
   refine Row.mk _ hget ?_
   refine apq (A' := _) (B' := [[.sl (List.map Ent.enc xs[i].ents), vi xs[i].mask]]) rfl rfl ?_
   refine Num.mk _ (wrapS (by omega)) ?_
   exact ⟨_, _, by omega, Weak.nrm [true, true, true, false, false, false, false, false, true, true, true] [(8, 8), (39, 9)] rfl rfl rfl, i + 1, _, _, by omega, rfl, t1', t2', rfl⟩
 ·have e0 : xs.take i = xs := List.take_of_length_le (by omega)
  rw [e0] at hR1 hR2
  rw [← hR1, ← hR2]
  subst hs
  refine spF (by omega) fun h1 => ?_
  exact ndE trivial
theorem spec_l5Lists (xs : List Rn) (hl : xs.length ≤ 1048576) :
  AFn Tryz.prog 186 [sl (xs.map Rn.enc)] [] (.one (.us 29 (xs.map encLs))) [] := by
 have hn : (xs.map Rn.enc).length = xs.length := List.length_map ..
 refine AFn.introX (E := En 0 md0) (en_ok 0 _) Tryz.func186 rfl rfl rfl fun _ _ => ?_
 let S : Nat → List (List C) → St := fun i R => ⟨some (sl (List.map Rn.enc xs)) :: none :: none :: some (.one (.ref 3 0 (.cell 0))) :: some (av (.int .i64 i)) :: List.replicate 16 none, absent :: absent :: absent :: ⟨0, 1, some [.us 29 R]⟩ :: List.replicate 17 absent⟩
 refine ALoop.mk (fun m s => ∃ (i : Nat) (R : List (List C)), i ≤ xs.length ∧ m = xs.length - i ∧ R = (xs.take i).map encLs ∧ s = S i R)
  ⟨_, _, Weak.trans (Weak.nrm [true, false, false, true, true] [(5, 3)] rfl rfl rfl) Weak.one, 0, [], Nat.zero_le _, rfl, rfl, rfl⟩ ?_
 rintro m s ⟨i, R, hi, rfl, hR, hs⟩
 by_cases hin : i < xs.length
 ·have hRl : R.length = i := by rw [hR, List.length_map, List.length_take]; omega
  have hget := map_get Rn.enc xs i hin
  have hRR : R ++ [[.sl (xs[i].ents.map Ent.enc)]] = (xs.take (i + 1)).map encLs := by rw [hR, List.take_succ_eq_append_getElem hin, List.map_append]; rfl
  subst hs
  refine spT (by omega) fun h1 => ?_
  refine nd ?_
  refine Row.mk _ hget ?_
  refine apq (A' := _) (B' := [[.sl (List.map Ent.enc xs[i].ents)]]) rfl rfl ?_
  refine Num.mk _ (wrapS (by omega)) ?_
  exact ⟨_, _, by omega, Weak.nrm [true, false, false, true, true] [(19, 3)] rfl rfl rfl, i + 1, _, by omega, rfl, hRR, rfl⟩
 ·have hres : R = xs.map encLs := by rw [hR, List.take_of_length_le (by omega)]
  rw [← hres]
  subst hs
  refine spF (by omega) fun h1 => ?_
  exact ndE trivial
theorem spec_l5Fits (xs : List Rn) (hl : xs.length ≤ 1048576) (c : Bool) (hc : (xs.all (fun r => decide (r.ents.length ≤ 150)) && decide (xs.length ≤ 8)) = c) :
  AFn Tryz.prog 190 [sl (xs.map Rn.enc)] [] (rb c) [] := by
 have hn : (xs.map Rn.enc).length = xs.length := List.length_map ..
 refine AFn.introX (E := En 0 md0) (en_ok 0 _) Tryz.func190 rfl rfl rfl fun _ _ => ?_
 let S : Nat → St := fun i => ⟨some (sl (List.map Rn.enc xs)) :: none :: none :: some (av (.int .i64 i)) :: List.replicate 16 none, List.replicate 20 absent⟩
 refine ALoop.mk (fun m s => ∃ i : Nat, i ≤ xs.length ∧ m = xs.length - i ∧ (∀ j, j < i → ∀ h : j < xs.length, xs[j].ents.length ≤ 150) ∧ s = S i)
  ⟨_, _, Weak.nrm [true, false, false, true] [] rfl rfl rfl, 0, Nat.zero_le _, rfl, fun j h => by omega, rfl⟩ ?_
 rintro m s ⟨i, hi, rfl, hall, hs⟩
 by_cases hin : i < xs.length
 ·have hget := map_get Rn.enc xs i hin
  have hel : (xs[i].ents.map Ent.enc).length = xs[i].ents.length := List.length_map ..
  by_cases hb : xs[i].ents.length ≤ 150
  ·have hall2 := allS (P := fun j => ∀ h : j < xs.length, xs[j].ents.length ≤ 150) hall fun _ => hb
   subst hs
   refine spT (by omega) fun h1 => ?_
   refine nd ?_
   refine Row.mk _ hget ?_
   refine spF (by omega) fun h2 => ?_
   refine Num.mk _ (wrapS (by omega)) ?_
   exact ⟨_, _, by omega, Weak.nrm [true, false, false, true] [] rfl rfl rfl, i + 1, by omega, rfl, hall2, rfl⟩
  ·have hres : c = false := by
    rw [← hc, Bool.and_eq_false_iff]
    exact .inl (Bool.eq_false_iff.2 fun h => hb (of_decide_eq_true (List.all_eq_true.1 h _ (List.getElem_mem hin))))
   rw [hres]
   subst hs
   refine spT (by omega) fun h1 => ?_
   refine nd ?_
   refine Row.mk _ hget ?_
   refine spT (by omega) fun h2 => ?_
   exact ndE trivial
 ·have hres : decide (xs.length ≤ 8) = c := by
   rw [← hc, show xs.all (fun r => decide (r.ents.length ≤ 150)) = true from all_iff.2 fun j hj => decide_eq_true (hall j (by omega) hj)]
   rfl
  by_cases h8 : xs.length ≤ 8
  ·rw [← hres, decide_eq_true h8]
   subst hs
   refine spF (by omega) fun h1 => ?_
   refine spT (by omega) fun h2 => ?_
   exact ndE trivial
  ·rw [← hres, decide_eq_false h8]
   subst hs
   refine spF (by omega) fun h1 => ?_
   refine spF (by omega) fun h2 => ?_
   exact ndE trivial
theorem spec_l5Cut (xs : List Ent) (hl : xs.length ≤ 1048576) (hx : OkE xs) :
  AFn Tryz.prog 189 [sl (xs.map Ent.enc)] [] (.one (.us 68 ((cutL xs).map Rn.enc))) [] := by
 have hn : (xs.map Ent.enc).length = xs.length := List.length_map ..
 refine AFn.introX (E := En 0 (mdv [130] []) (fz := [45])) (en_ok 0 _ _ _ _ _) Tryz.func189 rfl rfl rfl fun _ _ => ?_
 let S : Nat → Nat → List (List C) → St := fun f i R => ⟨some (sl (List.map Ent.enc xs)) :: none :: none :: some (.one (.ref 3 0 (.cell 0))) :: some (av (.int .i64 f)) :: some (av (.int .i64 i)) :: List.replicate 43 none, absent :: absent :: absent :: ⟨0, 1, some [.us 68 R]⟩ :: List.replicate 45 absent⟩
 refine ALoop.mk (fun m s => ∃ (f i : Nat) (R : List (List C)), i ≤ xs.length + 1 ∧ f ≤ xs.length ∧ f < i ∧ m = xs.length + 1 - i ∧ (i = xs.length + 1 → f = xs.length) ∧ R.length ≤ f ∧ R ++ (cutL (xs.drop f)).map Rn.enc = (cutL xs).map Rn.enc ∧ (∀ j (h1 : 0 < j) (_ : j < i - f) (h3 : j < (xs.drop f).length), ¬ brkP (0 + j - 1) ((xs.drop f)[j - 1]'(by omega)) (xs.drop f)[j]) ∧ s = S f i R)
  ⟨_, _, Weak.trans (Weak.nrm [true, false, false, true, true, true] [(6, 3)] rfl rfl rfl) Weak.one, 0, 1, [], by omega, by omega, by omega, rfl, fun h => by omega, Nat.le_refl _, rfl, fun j h1 h2 => by omega, rfl⟩ ?_
 rintro m s ⟨f, i, R, hi, hf, hfi, rfl, hlast, hRl, hR, hbr, hs⟩
 by_cases hin : i ≤ xs.length
 ·have hdl : (xs.drop f).length = xs.length - f := List.length_drop ..
  have hfi2 : IntKind.i64.wrap ((i : Int) - (f : Int)) = ((i - f : Nat) : Int) := wrapI' (by omega) (by omega)
  have hsub : IntKind.i64.wrap ((i : Int) - 1) = ((i - 1 : Nat) : Int) := wrapI' (by omega) (by omega)
  have hE : ∀ (a b : Int), a = f → b = i → List.take (b - a).toNat (List.drop a.toNat (List.map Ent.enc xs)) = ((xs.drop f).take (i - f)).map Ent.enc := fun a b ha hb => by rw [ha, hb, show ((i : Int) - (f : Int)).toNat = i - f by omega, List.map_take, List.map_drop]; rfl
  by_cases hcut : i = xs.length ∨ ∃ h : i < xs.length, 20 ≤ i - f ∧ ¬ xs[i].key = (xs[i - 1]'(by omega)).key
  ·have hend : ∀ (h : i - f < (xs.drop f).length), brkP (0 + (i - f) - 1) ((xs.drop f)[i - f - 1]'(by omega)) (xs.drop f)[i - f] := fun h => by
    obtain ⟨hil, h20, hk⟩ := hcut.resolve_left (by omega)
    refine ⟨by omega, ?_⟩
    rw [List.getElem_drop, List.getElem_drop]
    have e1 : f + (i - f) = i := by omega
    have e2 : f + (i - f - 1) = i - 1 := by omega
    simp only [e1, e2]
    exact hk
   have hcs := cut_step (by omega) (by omega) hbr hend
   have hdd : (xs.drop f).drop (i - f) = xs.drop i := by rw [List.drop_drop]; congr 1; omega
   rw [hdd] at hcs
   have hRR : (R ++ [(mkRun ((xs.drop f).take (i - f))).enc]) ++ (cutL (xs.drop i)).map Rn.enc = (cutL xs).map Rn.enc := by rw [← hR, hcs, List.append_assoc]; rfl
   have hO := spec_l4RunO' ((xs.drop f).take (i - f)) (fun e he => hx e (List.mem_of_mem_drop (List.mem_of_mem_take he))) (by rw [List.length_take]; omega)
   have hO2 : AFn Tryz.prog 130 [.one (.ref 0 0 (.cell 0))] [[.us 54 ([] ++ List.take ((i : Int) - (f : Int)).toNat (List.drop (f : Int).toNat (List.map Ent.enc xs)))]] (.agg [.us 54 (((xs.drop f).take (i - f)).map Ent.enc), vi (rmask ((xs.drop f).take (i - f)) : Nat)]) [[.x]] := by rw [List.nil_append, hE (f : Int) (i : Int) rfl rfl]; exact hO
   by_cases hil : i = xs.length
   ·subst hs
    refine spT (by omega) fun h1 => ?_
    refine sqT (by omega) fun h2 => ?_
    refine Need.mk (rfl) ?_
    refine Need.mk (⟨by omega, by omega, by omega, lenE _⟩) ?_
    refine Need.mk (⟨(Plain.take (Plain.drop (plainE _) _) _), (len_take (len_drop (lenE _) _) _)⟩) ?_
    refine apq (A' := []) (B' := _) rfl rfl ?_
    refine ACall.mk _ _ hO2 ?_
    refine Fz.mk _ (frzE _) ?_
    refine apq (A' := _) (B' := [[.sl (List.map Ent.enc (List.take (i - f) (List.drop f xs))), vi (↑(rmask (List.take (i - f) (List.drop f xs))))]]) rfl rfl ?_
    refine Num.mk _ (wrapS (by omega)) ?_
    exact ⟨_, _, by omega, Weak.nrm [true, false, false, true, true, true] [(46, 3)] rfl rfl rfl, i, i + 1, R ++ [(mkRun ((xs.drop f).take (i - f))).enc], by omega, by omega, by omega, rfl, fun h => by omega, by simp only [List.length_append, List.length_cons, List.length_nil]; omega, hRR, fun j h1 h2 => by omega, rfl⟩
   ·obtain ⟨hil2, h20, hk⟩ := hcut.resolve_left hil
    have g1 := map_get Ent.enc xs i hil2
    have g2 := map_get Ent.enc xs (i - 1) (by omega)
    subst hs
    refine spT (by omega) fun h1 => ?_
    refine sqF (by omega) fun h2 => ?_
    refine Num.mk _ hfi2 ?_
    refine spT (by omega) fun h3 => ?_
    refine nd ?_
    refine Row.mk _ g1 ?_
    refine Num.mk _ hsub ?_
    refine nd ?_
    refine Row.mk _ g2 ?_
    refine Split.mk fun t h4 => ?_
    cases t
    case false => (exfalso; rw [Bool.not_eq_false', bytes_beq, decide_eq_true_iff] at h4; exact absurd h4 ‹_›)
    rw [Bool.not_eq_true', bytes_beq, decide_eq_false_iff_not] at h4
    refine Need.mk (rfl) ?_
    refine Need.mk (⟨by omega, by omega, by omega, lenE _⟩) ?_
    refine Need.mk (⟨(Plain.take (Plain.drop (plainE _) _) _), (len_take (len_drop (lenE _) _) _)⟩) ?_
    refine apq (A' := []) (B' := _) rfl rfl ?_
    refine ACall.mk _ _ hO2 ?_
    refine Fz.mk _ (frzE _) ?_
    refine apq (A' := _) (B' := [[.sl (List.map Ent.enc (List.take (i - f) (List.drop f xs))), vi (↑(rmask (List.take (i - f) (List.drop f xs))))]]) rfl rfl ?_
    refine Num.mk _ (wrapS (by omega)) ?_
    exact ⟨_, _, by omega, Weak.nrm [true, false, false, true, true, true] [(46, 3)] rfl rfl rfl, i, i + 1, R ++ [(mkRun ((xs.drop f).take (i - f))).enc], by omega, by omega, by omega, rfl, fun h => by omega, by simp only [List.length_append, List.length_cons, List.length_nil]; omega, hRR, fun j h1 h2 => by omega, rfl⟩
  ·have hil : i < xs.length := by have : ¬ i = xs.length := fun h => hcut (.inl h); omega
   have g1 := map_get Ent.enc xs i hil
   have g2 := map_get Ent.enc xs (i - 1) (by omega)
   have hnb : ∀ j (h1 : 0 < j) (_ : j < i + 1 - f) (h3 : j < (xs.drop f).length), ¬ brkP (0 + j - 1) ((xs.drop f)[j - 1]'(by omega)) (xs.drop f)[j] := fun j h1 h2 h3 => by
    by_cases hj : j < i - f
    ·exact hbr j h1 hj h3
    ·obtain rfl : j = i - f := by omega
     rintro ⟨b1, b2⟩
     rw [List.getElem_drop, List.getElem_drop] at b2
     have e1 : f + (i - f) = i := by omega
     have e2 : f + (i - f - 1) = i - 1 := by omega
     simp only [e1, e2] at b2
     exact hcut (.inr ⟨hil, by omega, b2⟩)
   by_cases h20 : 20 ≤ i - f
   ·have hk : xs[i].key = (xs[i - 1]'(by omega)).key := Decidable.not_not.1 fun hk => hcut (.inr ⟨hil, h20, hk⟩)
    subst hs
    refine spT (by omega) fun h1 => ?_
    refine sqF (by omega) fun h2 => ?_
    refine Num.mk _ hfi2 ?_
    refine spT (by omega) fun h3 => ?_
    refine nd ?_
    refine Row.mk _ g1 ?_
    refine Num.mk _ hsub ?_
    refine nd ?_
    refine Row.mk _ g2 ?_
    refine Split.mk fun t h4 => ?_
    cases t
    case true => (exfalso; rw [Bool.not_eq_true', bytes_beq, decide_eq_false_iff_not] at h4; exact absurd ‹_› h4)
    rw [Bool.not_eq_false', bytes_beq, decide_eq_true_iff] at h4
    refine Need.mk (rfl) ?_
    refine Num.mk _ (wrapS (by omega)) ?_
    exact ⟨_, _, by omega, Weak.nrm [true, false, false, true, true, true] [(3, 3)] rfl rfl rfl, f, i + 1, R, by omega, by omega, by omega, rfl, fun h => by omega, hRl, hR, hnb, rfl⟩
   ·subst hs
    refine spT (by omega) fun h1 => ?_
    refine sqF (by omega) fun h2 => ?_
    refine Num.mk _ hfi2 ?_
    refine spF (by omega) fun h3 => ?_
    refine Need.mk (rfl) ?_
    refine Num.mk _ (wrapS (by omega)) ?_
    exact ⟨_, _, by omega, Weak.nrm [true, false, false, true, true, true] [(3, 3)] rfl rfl rfl, f, i + 1, R, by omega, by omega, by omega, rfl, fun h => by omega, hRl, hR, hnb, rfl⟩
 ·have hfl := hlast (by omega)
  have hres : R = (cutL xs).map Rn.enc := by rw [← hR, hfl, List.drop_length]; exact (List.append_nil R).symm
  rw [← hres]
  subst hs
  refine spF (by omega) fun h1 => ?_
  exact ndE trivial
theorem spec_l5Order (xs ys : List Rn) (hl : xs.length ≤ 1048576) (hl2 : ys.length ≤ 1048576) (hr : ∀ r ∈ xs, 0 < r.ents.length) (hr2 : ∀ r ∈ ys, 0 < r.ents.length) :
  AFn Tryz.prog 188 [sl (xs.map Rn.enc), sl (ys.map Rn.enc)] [] (.one (.us 68 ((orderL xs ys).map Rn.enc))) [] := by
 have hn : (xs.map Rn.enc).length = xs.length := List.length_map ..
 have hn2 : (ys.map Rn.enc).length = ys.length := List.length_map ..
 refine AFn.introX (E := En 0 md0) (en_ok 0 _) Tryz.func188 rfl rfl rfl fun _ _ => ?_
 refine Need.mk (⟨(plainR _), (lenR _)⟩) ?_
 refine apq (A' := []) (B' := _) rfl rfl ?_
 let S : List (List C) → Nat → St := fun R i => ⟨none :: some (sl (List.map Rn.enc ys)) :: none :: none :: none :: some (.one (.ref 5 0 (.cell 0))) :: some (av (.int .i64 i)) :: List.replicate 48 none, absent :: absent :: absent :: absent :: absent :: ⟨0, 1, some [.us 68 R]⟩ :: List.replicate 49 absent⟩
 refine ALoop.mk (fun m s => ∃ (i : Nat) (out : List Rn), i ≤ ys.length ∧ m = ys.length - i ∧ out = orderL xs (ys.take i) ∧ s = S (out.map Rn.enc) i)
  ⟨_, _, Weak.nrm [false, true, false, false, false, true, true] [(11, 5)] rfl rfl rfl, 0, xs, Nat.zero_le _, rfl, rfl, rfl⟩ ?_
 rintro m s ⟨i, out, hi, rfl, ho, hs⟩
 have hon : (out.map Rn.enc).length = out.length := List.length_map ..
 have hom := order_mem xs (ys.take i)
 rw [← ho] at hom
 have hol : out.length = xs.length + i := by rw [ho, order_len, List.length_take]; omega
 have hor : ∀ r ∈ out, 0 < r.ents.length := fun r h => (hom r h).elim (hr r) fun h => hr2 r (List.mem_of_mem_take h)
 by_cases hin : i < ys.length
 ·have hsn : orderL xs (ys.take (i + 1)) = ins rLess out ys[i] := by rw [ho]; exact order_succ hin
  have hL2 := spec_l5Low ys[i] (hr2 _ (List.getElem_mem hin))
  have g2 := map_get Rn.enc ys i hin
  subst hs
  refine spT (by omega) fun h1 => ?_
  let S1 : Nat → St := fun k => ⟨none :: some (sl (List.map Rn.enc ys)) :: none :: none :: none :: some (.one (.ref 5 0 (.cell 0))) :: some (av (.int .i64 i)) :: some (av (.int .i64 k)) :: List.replicate 47 none, absent :: absent :: absent :: absent :: absent :: ⟨0, 1, some [.us 68 (out.map Rn.enc)]⟩ :: List.replicate 49 absent⟩
  refine ALoop.mk (fun m s => ∃ k : Nat, k ≤ out.length ∧ m = k ∧ ins rLess out ys[i] = ins rLess (out.take k) ys[i] ++ out.drop k ∧ s = S1 k)
   ⟨_, _, Weak.nrm [false, true, false, false, false, true, true, true] [(5, 5)] rfl rfl rfl, out.length, Nat.le_refl _, rfl, by simp, Eq.trans (b := S1 (out.map Rn.enc).length) rfl (by rw [hon])⟩ ?_
  rintro m s ⟨k, hk, hm, hins, hs⟩
  have stop : ins rLess (out.take k) ys[i] = out.take k ++ [ys[i]] → S ((out.take k).map Rn.enc ++ [ys[i].enc] ++ (out.drop k).map Rn.enc) (i + 1) = S ((orderL xs (ys.take (i + 1))).map Rn.enc) (i + 1) := fun h => by
   rw [hsn, hins, h, List.map_append, List.map_append]; rfl
  have d1 : ((out.map Rn.enc).drop (k : Int).toNat).take (((out.map Rn.enc).length : Int) - (k : Int)).toNat = (out.drop k).map Rn.enc := by
   rw [Int.toNat_natCast, ← List.map_drop]
   exact List.take_of_length_le (by rw [List.length_map, List.length_drop, hon]; omega)
  have d2 : ((out.map Rn.enc).take ((k : Int) - 0).toNat) = (out.take k).map Rn.enc := by
   rw [Int.sub_zero, Int.toNat_natCast, ← List.map_take]
  have l1 : (out.drop k).length = out.length - k := List.length_drop ..
  have l2 : (out.take k).length = k := by rw [List.length_take]; omega
  by_cases hk0 : k = 0
  ·have hst := stop (by rw [hk0]; rfl)
   subst hs
   refine spF (by omega) fun h1 => ?_
   refine Need.mk (rfl) ?_
   refine nd ?_
   refine Need.mk ((plainR _)) ?_
   refine apq (A' := []) (B' := _) rfl rfl ?_
   refine nd ?_
   refine nd ?_
   refine Row.mk _ g2 ?_
   refine apq (A' := _) (B' := [[.sl (List.map Ent.enc ys[i].ents), vi ys[i].mask]]) rfl rfl ?_
   refine Need.mk ((Plain.app plain_nil (Plain.take (Plain.drop (plainR _) _) _))) ?_
   refine apq (A' := (_ ++ [[.sl (List.map Ent.enc ys[i].ents), vi ys[i].mask]])) (B' := ([] ++ _)) rfl rfl ?_
   refine Need.mk (rfl) ?_
   refine Num.mk _ (wrapS (by omega)) ?_
   exact ⟨_, _, by omega, Weak.nrm [false, true, false, false, false, true, true] [(53, 5)] rfl rfl rfl, i + 1, orderL xs (ys.take (i + 1)), by omega, rfl, rfl, Eq.trans (b := S ((out.map Rn.enc).take ((k : Int) - 0).toNat ++ [ys[i].enc] ++ ([] ++ ((out.map Rn.enc).drop (k : Int).toNat).take (((out.map Rn.enc).length : Int) - (k : Int)).toNat)) (i + 1)) rfl (by rw [d1, d2, List.nil_append]; exact hst)⟩
  ·have hts := take_snoc (by omega) hk
   have hk1 : k - 1 < out.length := by omega
   have hsub : IntKind.i64.wrap ((k : Int) - 1) = ((k - 1 : Nat) : Int) := wrapI' (by omega) (by omega)
   have hL1 := spec_l5Low out[k - 1] (hor _ (List.getElem_mem hk1))
   have g1 := map_get Rn.enc out (k - 1) hk1
   by_cases hle : slt (lowK ys[i]) (lowK out[k - 1]) = true
   ·have hlt : rLess ys[i] out[k - 1] = true := hle
    have hst := ins_step rLess ys[i] out[k - 1] (out.take (k - 1)) hlt
    rw [← hts] at hst
    have hdk := List.drop_eq_getElem_cons hk1
    rw [show k - 1 + 1 = k by omega] at hdk
    have hnew : ins rLess out ys[i] = ins rLess (out.take (k - 1)) ys[i] ++ out.drop (k - 1) := by rw [hins, hst, hdk, List.append_assoc]; rfl
    subst hs
    refine spT (by omega) fun h1 => ?_
    refine Num.mk _ hsub ?_
    refine nd ?_
    refine Row.mk _ g1 ?_
    refine ACall.mk _ _ hL1 ?_
    refine nd ?_
    refine Row.mk _ g2 ?_
    refine ACall.mk _ _ hL2 ?_
    refine Split.mk fun t h2 => ?_
    cases t
    case false => (exfalso; rw [str_gt] at h2; exact Bool.noConfusion (h2.symm.trans (‹_› : _ = true)))
    rw [str_gt] at h2
    refine Need.mk (rfl) ?_
    refine Num.mk _ hsub ?_
    exact ⟨_, _, by omega, Weak.nrm [false, true, false, false, false, true, true, true] [(5, 5)] rfl rfl rfl, k - 1, by omega, rfl, hnew, rfl⟩
   ·have hle := Bool.eq_false_iff.2 hle
    have hlt : rLess ys[i] out[k - 1] = false := hle
    have hst := ins_stop rLess ys[i] out[k - 1] (out.take (k - 1)) hlt
    rw [← hts] at hst
    have hst := stop hst
    subst hs
    refine spT (by omega) fun h1 => ?_
    refine Num.mk _ hsub ?_
    refine nd ?_
    refine Row.mk _ g1 ?_
    refine ACall.mk _ _ hL1 ?_
    refine nd ?_
    refine Row.mk _ g2 ?_
    refine ACall.mk _ _ hL2 ?_
    refine Split.mk fun t h2 => ?_
    cases t
    case true => (exfalso; rw [str_gt] at h2; exact absurd h2 ‹_›)
    rw [str_gt] at h2
    refine Need.mk (rfl) ?_
    refine nd ?_
    refine Need.mk ((plainR _)) ?_
    refine apq (A' := []) (B' := _) rfl rfl ?_
    refine nd ?_
    refine nd ?_
    refine Row.mk _ g2 ?_
    refine apq (A' := _) (B' := [[.sl (List.map Ent.enc ys[i].ents), vi ys[i].mask]]) rfl rfl ?_
    refine Need.mk ((Plain.app plain_nil (Plain.take (Plain.drop (plainR _) _) _))) ?_
    refine apq (A' := (_ ++ [[.sl (List.map Ent.enc ys[i].ents), vi ys[i].mask]])) (B' := ([] ++ _)) rfl rfl ?_
    refine Need.mk (rfl) ?_
    refine Num.mk _ (wrapS (by omega)) ?_
    exact ⟨_, _, by omega, Weak.nrm [false, true, false, false, false, true, true] [(53, 5)] rfl rfl rfl, i + 1, orderL xs (ys.take (i + 1)), by omega, rfl, rfl, Eq.trans (b := S ((out.map Rn.enc).take ((k : Int) - 0).toNat ++ [ys[i].enc] ++ ([] ++ ((out.map Rn.enc).drop (k : Int).toNat).take (((out.map Rn.enc).length : Int) - (k : Int)).toNat)) (i + 1)) rfl (by rw [d1, d2, List.nil_append]; exact hst)⟩
 ·have hres : out = orderL xs ys := by rw [ho, List.take_of_length_le (by omega)]
  rw [← hres]
  subst hs
  refine spF (by omega) fun h1 => ?_
  exact ndE trivial
end Go.Proofs.YtcnongahanmclaaGreat
