/-
  Contracts of functions, part 5.
-/
import Derived.Test.YtcnongahanmclaaGreatTFnExactTreeCompactD
set_option linter.unusedVariables false
set_option linter.unusedSimpArgs false
namespace Go.Proofs.YtcnongahanmclaaGreat
open Go Go.Proofs Ev
set_option maxRecDepth 100000
set_option maxHeartbeats 40000000
set_option linter.unusedSimpArgs false
set_option linter.unusedVariables false
open Go.RowKit Go.Shelf
attribute [local go_sem] Oper.semAt_some
theorem infoES : (Tryz.prog.info? 29).map (fun i => (i.zero, i.size, i.bytes)) = some (some (.slice none 0 0), 1, 24) := by kernel_rfl
theorem cells1 : (Tryz.prog).cellsOf 29 = 1 := by kernel_rfl
theorem boxed_app {W w1 : World} {n₀ B : Nat} {t e : TypeId} {size : Nat} {v v' : Value} {k m : Nat} {xs ys : List Value} {tmp : Obj}
  (hv : Boxed W B t v) (hte : t ≠ e) (hrow : W.ownsRow n₀ e size v k xs) (hn₀ : n₀ ≤ W.heap.size)
  (hown' : w1.ownsRow n₀ e size v' m ys) (hgrow : (W.alloc tmp).grownBy w1 v.ownBlock) :
  Boxed w1 B t v ∧ Boxed (w1.setCell ⟨B, 0, none⟩ v') B t v' ∧ (w1.setCell ⟨B, 0, none⟩ v').ownsRow n₀ e size v' m ys ∧ KeepsOthers W (w1.setCell ⟨B, 0, none⟩ v') ∧ Keq (fun k => k < n₀ ∧ k ≠ B) W (w1.setCell ⟨B, 0, none⟩ v') ∧
   (B < n₀ → Below B W (w1.setCell ⟨B, 0, none⟩ v')) := by
 have hv1 : Boxed w1 B t v := (hv.alloc tmp).kept hgrow (hv.not_row hte hrow)
 have hblk : ∀ j, v.ownBlock = some j → n₀ ≤ j := fun j ej => by
  rcases hrow.2 with ⟨rfl, _⟩ | ⟨g, cap, cur, rfl, hb, _, _⟩
  ·simp [Value.ownBlock] at ej
  ·obtain rfl : g = j := by simpa [Value.ownBlock] using ej
   exact hb
 have hko : KeepsOthers W (w1.setCell ⟨B, 0, none⟩ v') := by
  refine ((KeepsOthers.alloc W tmp).trans (KeepsOthers.of_grownBy hgrow fun j o ej hj => ?_)).trans (KeepsOthers.setCell _ _ _)
  rcases (hrow.alloc tmp).2 with ⟨rfl, _⟩ | ⟨g, cap, cur, rfl, _, hgb, _⟩
  ·simp [Value.ownBlock] at ej
  ·obtain rfl : g = j := by simpa [Value.ownBlock] using ej
   rw [hgb] at hj; cases hj; rfl
 refine ⟨hv1, hv1.set v', hown'.kept (grownBy_setCell' w1 B v') (.inr (hv1.not_row hte hown').symm), hko, ⟨hko.size, fun k hk => ?_⟩, fun hB => ?_⟩
 ·rw [Below.heap_setCell _ _ _ _ hk.2, hgrow.block k (by simp; omega) (fun e => by have := hblk k e.symm; omega)]
  exact Below.heap_alloc _ _ _ (by omega)
 ·exact (((Below.refl B W).alloc (by omega) tmp).grown hgrow (by simp; omega) fun j ej => by have := hblk j ej; omega).setCell (p := ⟨B, 0, none⟩) (Nat.le_refl _) v'
theorem classes1_stops (n : Nat) (hn : 1 ≤ n) (b1 b2 : Nat) (S : Nat → Prop) (L : List Ent) (snaps : List Int) (a1 a2 : Option Addr) (c1 k2 c2 : Nat) (hl : L.length ≤ 16777216) (hs0 : snaps.length ≤ 1099511627776) (w : World)
  (hb1 : S b1) (hb2 : S b2) (hS : ∀ k, S k → k < w.heap.size) (hc1 : w.cell? ⟨b1, 0, none⟩ = some (.slice a1 L.length c1)) (hc2 : w.cell? ⟨b2, 0, none⟩ = some (.slice a2 k2 c2))
  (hf1 : FR w S (.sl (L.map Ent.enc)) (.slice a1 L.length c1)) (hf2 : FR w S (.sl (snaps.map encI)) (.slice a2 k2 c2)) :
  SeqStopsK Fence.wide n Tryz.prog 221 #[.pointer (some ⟨b1, 0, none⟩), .pointer (some ⟨b2, 0, none⟩)] (fun x : Nat × Nat => #[resliced (.slice a1 L.length c1) x.1 (x.2 - x.1) 5]) (Keq S)
   (fun xs => (xs.map fun p => (L.take p.2).drop p.1) = groups (brS snaps) L ∧ ∀ p ∈ xs, p.1 < p.2 ∧ p.2 ≤ L.length) (fun _ => True) L.length w := fun l J Jx W hW hJ _ hY h0 => by
 have hm : ∀ q, S q → W.heap[q]? = w.heap[q]? ∧ S q := fun q hq => ⟨hW.block q (hS q hq), hq⟩
 exact impl_classes1_in n hn l b1 b2 S L snaps a1 a2 c1 k2 c2 hl hs0 J Jx W hJ hb1 hb2 (fun k hk => Nat.lt_of_lt_of_le (hS k hk) hW.size)
  ((cell_of_heap (hW.block b1 (hS b1 hb1))).trans hc1) ((cell_of_heap (hW.block b2 (hS b2 hb2))).trans hc2) (hf1.move hm) (hf2.move hm) hY h0
def cls (v : Value) (p : Nat × Nat) : Value := resliced v p.1 (p.2 - p.1) 5
def leftL (last : Bool) : List (List Ent) → List (List Ent) × Bool
 | [] => ([], last)
 | c :: cs => (classE c (leftL last cs).2 :: (leftL last cs).1, (leftL last cs).2 && (classE c (leftL last cs).2).isEmpty)
theorem leftL_cons {last : Bool} {c : List Ent} {cs : List (List Ent)} : leftL last (c :: cs) = (classE c (leftL last cs).2 :: (leftL last cs).1, (leftL last cs).2 && (classE c (leftL last cs).2).isEmpty) := rfl
theorem leftL_eq {last : Bool} {cs : List (List Ent)} : leftE last cs = ((leftL last cs).1.flatten, (leftL last cs).2) := by
 induction cs with
 | nil => rfl
 | cons c cs ih => rw [leftE_cons, ih, leftL_cons]; rfl
theorem leftL_len {last : Bool} {cs : List (List Ent)} : (leftL last cs).1.length = cs.length := by
 induction cs with
 | nil => rfl
 | cons c cs ih => rw [leftL_cons]; simp [ih]
theorem leftL_le {last : Bool} {cs : List (List Ent)} {k : Nat} (hc : ∀ c ∈ cs, 0 < c.length ∧ c.length ≤ k) : ∀ y ∈ (leftL last cs).1, y.length ≤ k := by
 induction cs with
 | nil => intro y hy; cases hy
 | cons c cs ih =>
  intro y hy
  rw [leftL_cons] at hy
  rcases List.mem_cons.1 hy with rfl | hy
  ·exact Nat.le_trans (classE_len (hc c (List.mem_cons_self ..)).1) (hc c (List.mem_cons_self ..)).2
  ·exact ih (fun c h => hc c (List.mem_cons_of_mem _ h)) y hy
noncomputable def skSt (b : Bool) (cs : List (List Ent)) : St :=
 ⟨none :: none :: some (av (.bool b)) :: none :: none :: none :: none :: some (.bx 7 0) :: List.replicate 39 none, absent :: absent :: absent :: absent :: absent :: absent :: absent :: ⟨0, 0, some [.us 29 (cs.map encX)]⟩ :: List.replicate 39 absent⟩
theorem skSt_ob {b : Bool} {cs : List (List Ent)} {id : Nat} {ob : Ob} {cells : List C} (k1 : (skSt b cs).o[id]? = some ob) (k2 : ob.cells = some cells) : id = 7 ∧ cells = [.us 29 (cs.map encX)] := by
 have k1 : (absent :: absent :: absent :: absent :: absent :: absent :: absent :: (⟨0, 0, some [.us 29 (cs.map encX)]⟩ : Ob) :: List.replicate 39 absent)[id]? = some ob := k1
 rcases id with _ | _ | _ | _ | _ | _ | _ | _ | id
 iterate 7 (injection k1 with k1; subst k1; cases k2)
 ·injection k1 with k1; subst k1; injection k2 with k2; exact ⟨rfl, k2.symm⟩
 ·have k1 : (List.replicate 39 absent)[id]? = some ob := k1
  rw [List.getElem?_replicate] at k1
  split at k1
  ·injection k1 with k1; subst k1; cases k2
  ·cases k1
set_option maxHeartbeats 4000000 in
theorem impl_squashKey_in (n : Nat) (hn : 6 ≤ n) (g : List Ent) (snaps : List Int) (b : Bool) (a1 a2 : Option Addr) (c1 k2 c2 : Nat) (hl : g.length ≤ 1000000) (hok : ∀ e ∈ g, entOk e = true) (hs0 : snaps.length ≤ 1099511627776) (w : World) (F0 : Frs) (ow0 : Ev.Own) (hF : ∀ k, F0 k → k < w.heap.size)
  (hf1 : FR w F0 (.sl (g.map Ent.enc)) (.slice a1 g.length c1)) (hf2 : FR w F0 (.sl (snaps.map encI)) (.slice a2 k2 c2)) :
  CallsIn Fence.wide n Tryz.prog 182 #[.slice a1 g.length c1, .slice a2 k2 c2, .bool b] w fun e w' => ∃ v ow', e = .returned v ∧ Keeps w w' ow0 ∧ (∀ k p, ow' k = some p → k < w'.heap.size ∧ (ow0 k ≠ none ∨ w.heap.size ≤ k)) ∧
   RVR Tryz.prog w' (FF w F0 ow0 w' ow') ow' 0 0 (.one (.us 54 ((squashK snaps b g).map Ent.enc))) v := by
 have h1 : 1 ≤ n := by omega
 obtain ⟨i0, hi, hz0, hz1, hz2⟩ := info_parts infoES
 refine callsIn_of_wp_marks Tryz.func182 rfl trivial ?_ rfl
 simp only [Tryz.ntmps182, List.size_toArray, List.length_cons, List.length_nil, Nat.reduceAdd, Nat.reduceSub, Array.replicate_succ, Array.replicate_zero, List.push_toArray, List.append_toArray, List.nil_append, List.cons_append]
 gi_wp2_with (refine ⟨trivial, ?_⟩; gi_at_call 211; refine (impl_classesOf_in Fence.wide _ trivial rfl _ _ _ _ _ _ _).mono ?_; rintro e w' ⟨rfl, rfl⟩)
 rename_i K hK
 obtain ⟨W0, hW0⟩ : ∃ W0, ((w.alloc (.cells #[.slice none 0 0] 104)).alloc (.cells #[.slice a1 g.length c1] 29)).alloc (.cells #[.slice a2 k2 c2] 24) = W0 := ⟨_, rfl⟩
 rw [hW0]
 have hsz : W0.heap.size = w.heap.size + 3 := by rw [← hW0]; simp
 have hB0 : Below w.heap.size w W0 := by rw [← hW0]; exact (((Below.refl _ w).alloc (Nat.le_refl _) _).alloc (by simp) _).alloc (by simp; omega) _
 have bO : Boxed W0 w.heap.size 104 (.slice none 0 0) := by rw [← hW0]; exact ((Boxed.new w _ _).alloc _).alloc _
 have e1 : W0.cell? ⟨w.heap.size + 1, 0, none⟩ = some (.slice a1 g.length c1) := by
  have := ((Boxed.new (w.alloc (.cells #[.slice none 0 0] 104)) 29 (.slice a1 g.length c1)).alloc (.cells #[.slice a2 k2 c2] 24)).cell
  rw [World.size_alloc] at this
  rw [← hW0]; exact this
 have e2 : W0.cell? ⟨w.heap.size + 1 + 1, 0, none⟩ = some (.slice a2 k2 c2) := by
  have := (Boxed.new ((w.alloc (.cells #[.slice none 0 0] 104)).alloc (.cells #[.slice a1 g.length c1] 29)) 24 (.slice a2 k2 c2)).cell
  rw [World.size_alloc, World.size_alloc] at this
  rw [← hW0]; exact this
 have hm : ∀ q, F0 q → W0.heap[q]? = w.heap[q]? ∧ (q < w.heap.size + 3 ∧ q ≠ w.heap.size) := fun q hq => ⟨hB0.block q (hF q hq), by have := hF q hq; omega, by have := hF q hq; omega⟩
 refine wpIn_rangeFunc_ownG rfl h1 (gf := 221) (lb := #[.pointer (some ⟨w.heap.size + 1, 0, none⟩), .pointer (some ⟨w.heap.size + 1 + 1, 0, none⟩)]) rfl trivial (enters_of Tryz.func221 (by kernel_rfl) rfl)
  (classes1_stops (n - 1) (by omega) (w.heap.size + 1) (w.heap.size + 1 + 1) (fun k => k < w.heap.size + 3 ∧ k ≠ w.heap.size) g snaps a1 a2 c1 k2 c2 (by omega) hs0 W0 ⟨by omega, by omega⟩ ⟨by omega, by omega⟩ (fun k hk => by rw [hsz]; exact hk.1) e1 e2 (hf1.move hm) (hf2.move hm))
  Keq.trans (fun W l o o' hl _ _ _ => ⟨by simp, fun k hk => World.putObj_heap_other (by omega)⟩) (Below.refl _ _) (fun _ => rfl)
  (fun pre W => (∃ v, Boxed W w.heap.size 104 v ∧ W.ownsRow (w.heap.size + 3) 29 1 v pre.length (pre.map (cls (.slice a1 g.length c1))) ∧ True) ∧ Below w.heap.size W0 W)
  (fun _ _ _ => False)
  (OwnFrom.and (Own.from (holdsRow_own (w.heap.size + 3) w.heap.size _ _ 1 (fun pre : List (Nat × Nat) => pre.length) (fun pre => pre.map (cls (.slice a1 g.length c1))) (fun _ _ => True)) _) (ownFrom_below hB0.size (by omega)))
  (fun _ _ _ _ _ hs _ _ => hs)
  ⟨⟨_, bO, World.ownsRow_nil _ _ _ _, trivial⟩, Below.refl _ _⟩
  (fun x => { tmps := #[.slice a1 g.length c1, .slice a2 k2 c2, .bool b, undef, undef, undef, .slice none 0 0, .pointer (some ⟨w.heap.size, 0, none⟩), cls (.slice a1 g.length c1) x, undef, undef, .slice a1 g.length c1, .slice a2 k2 c2, .func (.func 221) #[] #[.pointer (some ⟨w.heap.size + 1, 0, none⟩), .pointer (some ⟨w.heap.size + 1 + 1, 0, none⟩)], cls (.slice a1 g.length c1) x, undef, undef, undef, undef, undef, undef, undef, undef, undef, undef, undef, undef, undef, undef, undef, undef, undef, undef, undef, undef, undef, undef, undef, undef, undef, undef, undef, undef, undef, undef, undef, undef], defers := [] }) ?assign ?body ?done ?stop
 case assign =>
  intro l x W K hK
  gi_wp2
  exact hK
 case body =>
  rintro l pre x W ⟨⟨v, hv, hrow, _⟩, hB⟩ hlt
  have hc := hv.cell
  obtain ⟨a', n', c', hcl⟩ : ∃ a' n' c', cls (.slice a1 g.length c1) x = .slice a' n' c' := ⟨_, _, _, rfl⟩
  have hmap : (pre ++ [x]).map (cls (.slice a1 g.length c1)) = pre.map (cls (.slice a1 g.length c1)) ++ [.slice a' n' c'] := by simp [hcl]
  have HM : Hid _ := hmap
  clear hmap
  rw [hcl]
  gi_wp2_with (gi_at_builtin; refine wpListIn_append_own _ rfl _ _ 104 rfl (w.heap.size + 3) 29 i0 (.slice none 0 0) 1 24 Tryz.underlying104 hi hz0 hz1 hz2 rfl (by decide) _ _ _ rfl (hrow.alloc _) ⟨W.heap.size, 0, none⟩ 1 1 [.slice a' n' c'] rfl rfl (cell_one_new _ _ _) (by simp [Value.oneCell']) (by simp [maxLen]; omega) (by omega) (by have := hB.size; simp; omega) ?_; intro v' w1 hown' hgrow _; obtain ⟨g', cap', rfl⟩ := ownsRow_succ hown'; obtain ⟨hv1, hv2, hr2, hk2, hq2, hb2⟩ := boxed_app hv (by decide) hrow (by have := hB.size; omega) hown' hgrow; have hc1 := hv1.cell; have hf1 := hv1.frozen)
  exact ⟨hk2.from _, hq2, ⟨_, hv2, by rw [HM.out]; simpa using hr2, trivial⟩, hB.trans (hb2 (by omega))⟩
 case done =>
  rintro D ys W hD hS ⟨⟨v, hv, hrow, _⟩, hB⟩ hKD
  refine hK _ _ ?_
  clear hK hm e1 e2 bO hW0
  refine wpIn_wide.2 ?_
  have hw3 : w.heap.size + 3 ≤ W.heap.size := by have := hB.size; omega
  let ow : Ev.Own := fun k => if k = w.heap.size then some [7] else if v.ownBlock = some k then some [7, 0] else none
  have hvb : ∀ k, v.ownBlock = some k → w.heap.size + 3 ≤ k ∧ k < W.heap.size ∧ ∃ cs e, W.heap[k]? = some (.cells cs e (0, 0)) := fun k hk => by
   rcases hrow.2 with ⟨rfl, _⟩ | ⟨g', cap, cur, rfl, hb, hgb, _⟩
   ·simp [Value.ownBlock] at hk
   ·obtain rfl : g' = k := by simpa [Value.ownBlock] using hk
    exact ⟨hb, (Array.getElem?_eq_some_iff.1 hgb).1, _, _, hgb⟩
  have how : ∀ k p, ow k = some p → w.heap.size ≤ k ∧ k < W.heap.size ∧ ∃ cs e, W.heap[k]? = some (.cells cs e (0, 0)) := fun k p hk => by
   simp only [ow] at hk
   split at hk
   ·rename_i h; subst h; exact ⟨Nat.le_refl _, hv.lt, _, _, hv⟩
   ·split at hk
    ·rename_i h; obtain ⟨h1, h2, h3⟩ := hvb k h; exact ⟨by omega, h2, h3⟩
    ·cases hk
  have howF : ∀ k, F0 k → ow k = none := fun k hk => by
   cases h : ow k with
   | none => rfl
   | some p => have := (how k p h).1; have := hF k hk; omega
  have hFW : ∀ q, F0 q → W.heap[q]? = w.heap[q]? ∧ F0 q := fun q hq => ⟨(hB.block q (hF q hq)).trans (hB0.block q (hF q hq)), hq⟩
  let x : Cx := ⟨W, F0, ow, 0, fun _ => .blk w.heap.size, [{ target := .collected D, args := #[] }]⟩
  refine wp_mono (ev_sound (E := En 0 (mdv [] [213])) (en_ok 0 _ _ _ _ _) (x := x) rfl _ (skSt b (groups (brS snaps) g)) (Ev.Ends (En 0 (mdv [] [213])) Tryz.f182 (.one (.us 54 ((squashK snaps b g).map Ent.enc))) []) _ W (fun _ => .blk w.heap.size) ow ?hev ?hrel) ?hpost
  case hev =>
   rw [← evX_eq, ← EndsX_eq]
   clear_value x ow
   have hex := exq (groups (brS snaps) g)
   obtain ⟨cs, hcs⟩ := hex
   have hc : ∀ c ∈ cs, 0 < c.length ∧ c.length ≤ 1000000 ∧ ∀ e ∈ c, entOk e = true := fun c h => by
    rw [← hcs] at h
    exact ⟨groups_pos c h, Nat.le_trans (groups_le h) hl, fun e he => hok e (groups_mem h he)⟩
   have hcl : cs.length ≤ 1000000 := by rw [← hcs]; exact Nat.le_trans groups_len hl
   have hfl : cs.flatten.length ≤ 1000000 := by rw [← hcs, groups_flat]; exact hl
   have hsq : squashK snaps b g = (leftL b cs).1.flatten := by rw [squashK, classesE, hcs, leftL_eq]
   have hfl2 : (leftL b cs).1.flatten.length ≤ 1000000 := by
    have h := leftE_len (last := b) (cs := cs) fun c h => (hc c h).1
    rw [leftL_eq] at h
    exact Nat.le_trans h hfl
   have hle : ∀ y ∈ (leftL b cs).1, y.length ≤ 1000000 := leftL_le fun c h => ⟨(hc c h).1, (hc c h).2.1⟩
   rw [hsq, hcs]
   clear hS hrow hv hvb how howF hFW hB hB0 hf1 hf2 hF hKD hD hw3 hsz hcs hsq hi hz0 hz1 hz2
   have hn : (cs.map encX).length = cs.length := List.length_map ..
   have hn2 : ((leftL b cs).1.map encX).length = cs.length := by rw [List.length_map, leftL_len]
   have hCat := slices_ConcatE (leftL b cs).1 (by rw [leftL_len]; exact hcl) hle hfl2
   refine Num.mk ((cs.length : Int) - 1) (by rw [hn]; exact wrapI (by omega) (by omega)) ?_
   let S : Int → Bool → List (List C) → St := fun z b2 R => ⟨none :: none :: some (av (.bool b)) :: none :: none :: none :: none :: some (.bx 7 0) :: none :: some (av (.bool b2)) :: some (av (.int .i64 z)) :: List.replicate 36 none, absent :: absent :: absent :: absent :: absent :: absent :: absent :: ⟨0, 0, some [.us 29 R]⟩ :: List.replicate 39 absent⟩
   refine ALoop.mk (fun m s => ∃ (i : Nat) (z : Int), i ≤ cs.length ∧ i = m ∧ z = (i : Int) - 1 ∧ s = S z (leftL b (cs.drop i)).2 ((cs.take i ++ (leftL b (cs.drop i)).1).map encX))
    ⟨_, _, Weak.nrm [false, false, true, false, false, false, false, true, false, true, true] [(7, 7)] rfl rfl rfl, cs.length, _, Nat.le_refl _, rfl, rfl, by rw [List.drop_length, List.take_length]; simp only [leftL, List.append_nil]; rfl⟩ ?_
   rintro m s ⟨i, z, hi, rfl, hz, hs⟩
   cases i with
   | zero =>
    have hz : z = -1 := by omega
    subst hz
    rw [List.drop_zero, List.take_zero, List.nil_append] at hs
    subst hs
    refine sp0 ?_
    refine Fz.mk _ (frzXX _) ?_
    refine ACall.mk _ _ hCat ?_
    exact Need.mk ⟨[], _, .same, rfl, rfl⟩ trivial
   | succ j =>
    have hz : z = (j : Int) := by omega
    have hj : j < cs.length := hi
    have hcj := hc cs[j] (List.getElem_mem hj)
    have hex := exq ((leftL b (cs.drop (j + 1))).2)
    obtain ⟨b2, hb2⟩ := hex
    have hex := exq (classE cs[j] b2)
    obtain ⟨y, hy⟩ := hex
    have hC := impl_squashClass cs[j] hcj.1 (by omega) hcj.2.2 b2 y hy
    have hL : leftL b (cs.drop j) = (y :: (leftL b (cs.drop (j + 1))).1, b2 && y.isEmpty) := by rw [List.drop_eq_getElem_cons hj, leftL_cons, hb2, hy]
    have hR1 : ((cs.take (j + 1) ++ (leftL b (cs.drop (j + 1))).1).map encX)[j]? = some (encX cs[j]) := by
     rw [List.getElem?_map, List.getElem?_append_left (by rw [List.length_take]; omega), List.getElem?_take, if_pos (by omega), List.getElem?_eq_getElem hj]; rfl
    have hR2 : ((cs.take (j + 1) ++ (leftL b (cs.drop (j + 1))).1).map encX).length = cs.length := by
     rw [List.length_map, List.length_append, List.length_take, leftL_len, List.length_drop]; omega
    have hR3 : ((cs.take (j + 1) ++ (leftL b (cs.drop (j + 1))).1).map encX).set j (encX y) = (cs.take j ++ (leftL b (cs.drop j)).1).map encX := by
     rw [hL, ← List.map_set, List.take_add_one, List.getElem?_eq_getElem hj, Option.toList_some, List.append_assoc, List.set_append_right _ _ (by rw [List.length_take]; omega), List.length_take, Nat.min_eq_left (by omega), Nat.sub_self]
     simp only [List.singleton_append, List.set_cons_zero, List.map_append, List.map_cons]
    have hyn : (y.map Ent.enc).length = y.length := List.length_map ..
    rw [hb2] at hs
    have hex := exq ((cs.take (j + 1) ++ (leftL b (cs.drop (j + 1))).1).map encX)
    obtain ⟨R, hR⟩ := hex
    rw [hR] at hR1 hR2 hR3 hs
    have hR4 : (R.set j (encX y))[j]? = some (encX y) := by rw [List.getElem?_set_self (by omega)]
    have hR5 : (R.set j (encX y)).length = cs.length := by rw [List.length_set, hR2]
    subst hz
    by_cases hy0 : y.length = 0
    ·have hyE : y.isEmpty = true := by rw [List.length_eq_zero_iff.1 hy0]; rfl
     rw [hyE, Bool.and_true] at hL
     cases b2
     ·subst hs
      refine sp1 ?_
      refine nd ?_
      refine Row.mk _ hR1 ?_
      refine ACall.mk _ _ hC ?_
      refine nd ?_
      refine Row.mk _ hR1 ?_
      refine Need.mk rfl ?_
      refine Num.mk ((j : Int) - 1) (wrapI (by omega) (by omega)) ?_
      exact ⟨j, _, Nat.lt_succ_self _, Weak.nrm [false, false, true, false, false, false, false, true, false, true, true] [(7, 7)] rfl rfl rfl, j, _, by omega, rfl, rfl, by rw [← hR3, hL]; rfl⟩
     ·subst hs
      refine sp1 ?_
      refine nd ?_
      refine Row.mk _ hR1 ?_
      refine ACall.mk _ _ hC ?_
      refine nd ?_
      refine Row.mk _ hR1 ?_
      refine Need.mk rfl ?_
      refine Need.mk ⟨by omega, by show (j : Int) < ((R.set j (encX y)).length : Nat); omega⟩ ?_
      refine Row.mk _ hR4 ?_
      refine Split.mk fun t h2 => ?_
      cases t
      case false => (exfalso; have := (beq_eq_false_iff_ne.1 h2); omega)
      refine Num.mk ((j : Int) - 1) (wrapI (by omega) (by omega)) ?_
      exact ⟨j, _, Nat.lt_succ_self _, Weak.nrm [false, false, true, false, false, false, false, true, false, true, true] [(7, 7)] rfl rfl rfl, j, _, by omega, rfl, rfl, by rw [← hR3, hL]; rfl⟩
    ·have hyE : y.isEmpty = false := by cases y with | nil => exact absurd rfl hy0 | cons _ _ => rfl
     rw [hyE, Bool.and_false] at hL
     cases b2
     ·subst hs
      refine sp1 ?_
      refine nd ?_
      refine Row.mk _ hR1 ?_
      refine ACall.mk _ _ hC ?_
      refine nd ?_
      refine Row.mk _ hR1 ?_
      refine Need.mk rfl ?_
      refine Num.mk ((j : Int) - 1) (wrapI (by omega) (by omega)) ?_
      exact ⟨j, _, Nat.lt_succ_self _, Weak.nrm [false, false, true, false, false, false, false, true, false, true, true] [(7, 7)] rfl rfl rfl, j, _, by omega, rfl, rfl, by rw [← hR3, hL]; rfl⟩
     ·subst hs
      refine sp1 ?_
      refine nd ?_
      refine Row.mk _ hR1 ?_
      refine ACall.mk _ _ hC ?_
      refine nd ?_
      refine Row.mk _ hR1 ?_
      refine Need.mk rfl ?_
      refine Need.mk ⟨by omega, by show (j : Int) < ((R.set j (encX y)).length : Nat); omega⟩ ?_
      refine Row.mk _ hR4 ?_
      refine Split.mk fun t h2 => ?_
      cases t
      case true => (exfalso; have := (beq_iff_eq.1 h2); omega)
      refine Num.mk ((j : Int) - 1) (wrapI (by omega) (by omega)) ?_
      exact ⟨j, _, Nat.lt_succ_self _, Weak.nrm [false, false, true, false, false, false, false, true, false, true, true] [(7, 7)] rfl rfl rfl, j, _, by omega, rfl, rfl, by rw [← hR3, hL]; rfl⟩
  case hrel =>
   refine ⟨fun k hk => ⟨by have := hF k hk; show k < W.heap.size; omega, howF k hk⟩, ⟨rfl, rfl, rfl, Nat.le_refl _, fun _ _ _ => rfl⟩, fun k p hk => ⟨(how k p hk).2.1, .inl (by show ow k ≠ none; rw [hk]; simp)⟩, fun q av1 hq => ?_, fun id ob cells k1 k2 => ?_, fun id ob cells k1 k2 k3 => ?_, rfl, rfl, fun id hid => absurd hid (Nat.not_lt_zero _)⟩
   ·have hq : (none :: none :: some (av (.bool b)) :: none :: none :: none :: none :: some (.bx 7 0) :: List.replicate 39 none)[q]? = some (some av1) := hq
    rcases q with _ | _ | _ | _ | _ | _ | _ | _ | q
    ·cases hq
    ·cases hq
    ·injection hq with hq; injection hq with hq; subst hq
     exact ⟨_, rfl, .one (.c (.v rfl))⟩
    ·cases hq
    ·cases hq
    ·cases hq
    ·cases hq
    ·injection hq with hq; injection hq with hq; subst hq
     exact ⟨_, rfl, .bx (id := 7) (ob := ⟨0, 0, some [.us 29 ((groups (brS snaps) g).map encX)]⟩) rfl rfl rfl⟩
    ·have hq : (List.replicate 39 (none : Option AV))[q]? = some (some av1) := hq
     rw [List.getElem?_replicate] at hq
     split at hq <;> cases hq
   ·obtain ⟨rfl, rfl⟩ := skSt_ob k1 k2
    have h7 : some ob = some ⟨0, 0, some [.us 29 ((groups (brS snaps) g).map encX)]⟩ := k1.symm
    refine ⟨fun q hq => ?_, fun j c hj => ?_⟩
    ·have hq : Pl.blk w.heap.size = .blk q := hq
     injection hq with hq; subst hq
     exact ⟨by show ow w.heap.size = _; simp [ow], _, _, hv, rfl⟩
    ·rcases j with _ | j
     ·injection hj with hj; subst hj
      refine ⟨v, hv.cell, ?_⟩
      have hS' : (ys.map fun p => (g.take p.2).drop p.1) = groups (brS snaps) g := hS.1
      have hsz1 : (En 0 (mdv [] [213])).P.cellsOf 29 = 1 := cells1
      have hrow0 : W.ownsRow 0 29 1 v ys.length (ys.map (cls (.slice a1 g.length c1))) := ⟨hrow.1, hrow.2.imp_right fun ⟨g', cap, cur, h1, _, h3⟩ => ⟨g', cap, cur, h1, Nat.zero_le _, h3⟩⟩
      rw [← hS', List.map_map]
      refine .us (inner := ys.map (cls (.slice a1 g.length c1))) ?_ ?_ ?_ ?_ ?_
      ·rw [hsz1, List.length_map]; exact hrow0
      ·rw [hsz1]; decide
      ·intro r hr
       obtain ⟨p, _, rfl⟩ := List.mem_map.1 hr
       rw [hsz1]; rfl
      ·intro q hq
       have := (hvb q hq).1
       show ow q = some [7, 0]
       simp only [ow]
       rw [if_neg (by omega), if_pos hq]
      ·intro i r j c hi hj
       rw [List.getElem?_map] at hi
       cases hy : ys[i]? with
       | none => rw [hy] at hi; cases hi
       | some p =>
        rw [hy] at hi; injection hi with hi; subst hi
        rcases j with _ | j
        ·injection hj with hj; subst hj
         rw [hsz1, Nat.mul_one, Nat.add_zero, List.getD_eq_getElem?_getD, List.getElem?_map, hy]
         refine .sl ?_
         obtain ⟨hp1, hp2⟩ := hS.2 p (List.mem_iff_getElem?.2 ⟨i, hy⟩)
         have hf := (hf1.move hFW).sub (l := p.1) (n := p.2 - p.1) (sz := 5) (fun r hr => by obtain ⟨e, _, rfl⟩ := List.mem_map.1 hr; rfl) (by rw [List.length_map]; omega)
         rw [← List.map_drop, ← List.map_take, List.take_drop, show p.1 + (p.2 - p.1) = p.2 by omega] at hf
         exact hf.move fun q hq => ⟨rfl, .inl hq⟩
        ·cases hj
     ·cases hj
   ·obtain ⟨rfl, rfl⟩ := skSt_ob k1 k2
    have h7 : some ob = some ⟨0, 0, some [.us 29 ((groups (brS snaps) g).map encX)]⟩ := k1.symm
    injection h7 with h7; subst h7; exact absurd rfl k3
  case hpost =>
   rintro e a' w' ⟨st', L', ow', hk, hR'⟩
   have hDlt : D < W.heap.size := (Array.getElem?_eq_some_iff.1 hKD).1
   have howD : ow D = none := by
    cases h : ow D with
    | none => rfl
    | some p => obtain ⟨_, _, cs, e, h3⟩ := how D p h; rw [hKD] at h3; cases h3
   have hD' : w'.heap[D]? = some (.deferred (some [])) := (hR'.keeps.block D hDlt howD).trans hKD
   have fin : (retM (En 0 (mdv [] [213])) Tryz.f182.results.toList (.one (.us 54 ((squashK snaps b g).map Ent.enc))) []).run Tryz.prog st' [] (fun _ _ => True) →
     LeavesInM Fence.wide n Tryz.prog Tryz.f182 a'.tmps (fun e w' => ∃ v ow', e = .returned v ∧ Keeps w w' ow0 ∧ (∀ k p, ow' k = some p → k < w'.heap.size ∧ (ow0 k ≠ none ∨ w.heap.size ≤ k)) ∧
      RVR Tryz.prog w' (FF w F0 ow0 w' ow') ow' 0 0 (.one (.us 54 ((squashK snaps b g).map Ent.enc))) v) a'.defers .returning w' := by
    intro hrun
    obtain ⟨d, rs, k1, _⟩ := run_runs hrun
    obtain ⟨v', ow2, g1, g2, g3, g4, g5⟩ := retM_sound (en_ok 0 _ _ _ _ _) hR' rfl k1
    have hdf : a'.defers = [{ target := .collected D, args := #[] }] := hR'.defers
    rw [hdf]
    refine ⟨by simp, .inl ⟨_, _, rfl, run_takeDeferred hD', ?_⟩⟩
    have hv' := (results_tmp (fn := Tryz.f182) rfl a'.tmps Tryz.prog w').symm.trans g1
    injection hv' with hv'
    refine ⟨v', (results_tmp (fn := Tryz.f182) rfl a'.tmps Tryz.prog _).trans (by rw [hv']), v', ow2, rfl, ?_, ?_, ?_⟩
    ·refine ⟨?_, ?_, ?_, ?_, fun k hk _ => ?_⟩
     ·exact hR'.keeps.os.trans (hB.os.trans hB0.os)
     ·exact hR'.keeps.tape.trans (hB.tape.trans hB0.tape)
     ·exact hR'.keeps.output.trans (hB.output.trans hB0.output)
     ·have h1 := hR'.keeps.size
      have h2 := hB.size
      have h3 := hB0.size
      have h1 : W.heap.size ≤ w'.heap.size := h1
      simp; omega
     ·rw [World.putObj_heap_other (by omega)]
      have hok : ow k = none := by
       cases h : ow k with
       | none => rfl
       | some p => have := (how k p h).1; omega
      exact (hR'.keeps.block k (by show k < W.heap.size; omega) hok).trans ((hB.block k hk).trans (hB0.block k hk))
    ·intro k p hk
     obtain ⟨p', hp'⟩ := g2 k p hk
     obtain ⟨h1, h2⟩ := hR'.owOk k p' hp'
     refine ⟨by simpa using h1, .inr ?_⟩
     rcases h2 with h2 | h2
     ·cases h : ow k with
      | none => exact absurd h h2
      | some q => exact (how k q h).1
     ·have h2 : W.heap.size ≤ k := h2
      omega
    ·have hne : ∀ k, (ow k ≠ none ∨ W.heap.size ≤ k) → k ≠ D := fun k h e => by
      subst e
      rcases h with h | h
      ·exact h howD
      ·omega
     cases g3 with
     | one h3 =>
      refine .one (h3.move (fun k hk => ?_) fun k r hk => ?_)
      ·rcases hk with hk | ⟨hk1, hk2, hk3⟩
       ·have : F0 k := hk
        have := hF k this
        exact ⟨World.putObj_heap_other (by omega), .inl hk⟩
       ·have hk3 : ow k ≠ none ∨ W.heap.size ≤ k := hk3
        refine ⟨World.putObj_heap_other (hne k hk3), .inr ⟨by simpa using hk1, hk2, .inr ?_⟩⟩
        rcases hk3 with h2 | h2
        ·cases h : ow k with
         | none => exact absurd h h2
         | some q => exact (how k q h).1
        ·omega
      ·obtain ⟨p', hp'⟩ := g2 k _ hk
       obtain ⟨h1, h2⟩ := hR'.owOk k p' hp'
       exact ⟨World.putObj_heap_other (hne k h2), hk⟩
   cases e with
   | normal => exact fin hk
   | ret => exact fin hk
   | _ => exact hk.elim
 case stop =>
  rintro D c pre W _ _ h _
  exact h.elim
theorem impl_squashKey (g : List Ent) (snaps : List Int) (b : Bool) (hl : g.length ≤ 1000000) (hok : ∀ e ∈ g, entOk e = true) (hs0 : snaps.length ≤ 1099511627776) :
  AFn Tryz.prog 182 [sl (g.map Ent.enc), sl (snaps.map encI), av (.bool b)] [] (.one (.us 54 ((squashK snaps b g).map Ent.enc))) [] := by
 refine ⟨enters_of Tryz.func182 (by kernel_rfl) rfl, fun w F0 ow0 L vs h1 h2 _ _ h4 h5 => ?_⟩
 obtain ⟨v0, l0, rfl, k4⟩ := consLen (l := vs) h4.symm
 obtain ⟨v1, l1, rfl, k5⟩ := consLen k4
 obtain ⟨v2, l2, rfl, k6⟩ := consLen k5
 obtain rfl := List.eq_nil_of_length_eq_zero k6
 have g0 := h5 0 _ _ rfl rfl
 have g1 := h5 1 _ _ rfl rfl
 have g2 := avr_v (h5 2 _ _ rfl rfl)
 subst g2
 cases g0 with
 | one g0 => cases g0 with
  | c g0 => cases g1 with
   | one g1 => cases g1 with
    | c g1 =>
     have hn : (g.map Ent.enc).length = g.length := List.length_map ..
     obtain ⟨a1, c1, rfl⟩ : ∃ a1 c1, v0 = .slice a1 g.length c1 := by
      cases g0 with
      | @sl _ a n cap _ _ hn' _ _ _ _ _ => rw [hn] at hn'; subst hn'; exact ⟨_, _, rfl⟩
     obtain ⟨a2, k2, c2, rfl⟩ : ∃ a2 k2 c2, v1 = .slice a2 k2 c2 := by
      cases g1 with
      | sl => exact ⟨_, _, _, rfl⟩
     refine (callsIn_wide (n := 6)).1 ((impl_squashKey_in 6 (Nat.le_refl _) g snaps b a1 a2 c1 k2 c2 hl hok hs0 w F0 ow0 (fun k hk => (h1 k hk).1) g0 g1).mono ?_)
     rintro e w' ⟨v, ow', rfl, q1, q2, q3⟩
     exact ⟨v, ow', rfl, q1, q2, q3, rfl, fun id cells h => nomatch h⟩
theorem impl_Squash_ok (l : List Ent) (snaps : List Int) (hs0 : snaps.length ≤ 1099511627776) (hl : l.length ≤ 1000000) (hx : OkE l) (hok : ordOk l = true) (last : Bool) (o : List Ent) (ho : squash l snaps last = o) :
  AFn Tryz.prog 134 [sl (l.map Ent.enc), sl (snaps.map encI), av (.bool last)] [] (.one (.us 54 (o.map Ent.enc))) [] := by
 have hn : (l.map Ent.enc).length = l.length := List.length_map ..
 have hR := impl_inOrder l hx (Nat.le_trans hl (by decide))
 rw [hok] at hR
 refine AFn.introX (E := En 0 md0) (en_ok 0 _ _ _ _ _) Tryz.func134 rfl rfl rfl fun _ _ => ?_
 refine ACall.mk _ _ hR ?_
 refine sp1 ?_
 let S : Nat → List (List C) → St := fun i R => ⟨some (sl (List.map Ent.enc l)) :: some (sl (List.map encI snaps)) :: some (av (.bool last)) :: none :: none :: none :: none :: some (.one (.ref 7 0 (.cell 0))) :: some (av (.int .i64 i)) :: List.replicate 40 none, absent :: absent :: absent :: absent :: absent :: absent :: absent :: ⟨0, 1, some [.us 54 R]⟩ :: List.replicate 41 absent⟩
 refine ALoop.mk (fun m s => ∃ (i : Nat) (D : List (List Ent)) (x : List Ent) (R : List (List C)), i ≤ l.length ∧ m = l.length - i ∧ groups brK l = D ++ groups brK (l.drop i) ∧ x = D.flatMap (squashK snaps last) ∧ x.length ≤ i ∧ R = x.map Ent.enc ∧ s = S i R)
  ⟨_, _, Weak.trans (Weak.nrm [true, true, true, false, false, false, false, true, true] [] rfl rfl rfl) (Weak.nilOwn 7 7 54 rfl rfl (pos_of tab_ok (t := 54) rfl)), 0, [], [], [], Nat.zero_le _, rfl, rfl, rfl, Nat.zero_le _, rfl, rfl⟩ ?_
 rintro m s ⟨i, D, x, R, hi, rfl, hG, hx1, hxl, hR1, hs⟩
 by_cases hin : i = l.length
 ·have hxo : x = o := by rw [hx1, ← ho, squash, hG, hin, List.drop_length]; simp [groups]
  subst hxo
  subst hR1
  subst hs
  refine spF (by omega) fun h1 => ?_
  exact Need.mk ⟨[], _, .same, rfl, rfl⟩ trivial
 ·have hia : i < l.length := by omega
  subst hs
  refine spT (by omega) fun h1 => ?_
  refine Num.mk _ (wrapS (by omega)) ?_
  have h00 : ∀ j, i ≤ j → j < i + 1 → ∀ h : j < l.length, l[j].key = (l[i]'hia).key := fun j h1 h2 h3 => by
   have h4 : j = i := by omega
   subst h4
   rfl
  let S2 : Nat → St := fun k => ⟨some (sl (List.map Ent.enc l)) :: some (sl (List.map encI snaps)) :: some (av (.bool last)) :: none :: none :: none :: none :: some (.one (.ref 7 0 (.cell 0))) :: some (av (.int .i64 ↑i)) :: some (av (.int .i64 (k : Nat))) :: List.replicate 39 none, absent :: absent :: absent :: absent :: absent :: absent :: absent :: ⟨0, 1, some [.us 54 R]⟩ :: List.replicate 41 absent⟩
  refine ALoop.mk (fun m s => ∃ k : Nat, i < k ∧ k ≤ l.length ∧ m = l.length - k ∧ (∀ j, i ≤ j → j < k → ∀ h : j < l.length, l[j].key = (l[i]'hia).key) ∧ s = S2 k)
   ⟨_, _, Weak.nrm [true, true, true, false, false, false, false, true, true, true] [(7, 7)] rfl rfl rfl, i + 1, by omega, by omega, rfl, h00, rfl⟩ ?_
  rintro m s ⟨k, hik, hk, rfl, hno, hs⟩
  have hex := exq ((l.take k).drop i)
  obtain ⟨g, hg⟩ := hex
  have hgl : g.length = k - i := by rw [← hg, List.length_drop, List.length_take]; omega
  have hfin : ∀ _ : Unit, (k = l.length ∨ ∀ h : k < l.length, ¬ l[k].key = (l[i]'hia).key) → groups brK l = (D ++ [g]) ++ groups brK (l.drop k) := fun _ he => by
   have h := groups_split (br := brK) (l := l.drop i) (k := k - i) (by omega) (by rw [List.length_drop]; omega) (fun j h1 h2 h3 => by
    rw [List.length_drop] at h3
    have h5 := hno (i + j) (by omega) (by omega) (by omega)
    have h6 := hno (i + j - 1) (by omega) (by omega) (by omega)
    simp only [List.getElem_drop, brK]
    have e : i + (j - 1) = i + j - 1 := by omega
    simp only [e]
    rw [h5, h6]; simp) (fun h3 => by
    rw [List.length_drop] at h3
    have hkl : k < l.length := by omega
    have hne : ¬ k = l.length := by omega
    have h4 : ¬ l[k].key = (l[i]'hia).key := he.resolve_left hne hkl
    have h6 := hno (k - 1) (by omega) (by omega) (by omega)
    simp only [List.getElem_drop, brK]
    have e : i + (k - i - 1) = k - 1 := by omega
    have e2 : i + (k - i) = k := by omega
    simp only [e, e2]
    rw [h6]; simp [h4])
   have e1 : (l.drop i).take (k - i) = g := by rw [← hg, List.drop_take]
   have e2 : (l.drop i).drop (k - i) = l.drop k := by rw [List.drop_drop]; congr 1; omega
   rw [e1, e2] at h
   rw [hG, h]; simp
  have hgm : ∀ e ∈ g, entOk e = true := fun e he => ordOk_all hok e (by rw [← hg] at he; exact List.mem_of_mem_take (List.mem_of_mem_drop he))
  have hC := impl_squashKey g snaps last (by omega) hgm hs0
  have hform : List.take ((k : Int) - (i : Int)).toNat (List.drop ((i : Int)).toNat (l.map Ent.enc)) = g.map Ent.enc := by
   rw [Int.toNat_natCast, show ((k : Int) - (i : Int)).toNat = k - i by omega, ← hg, List.map_drop, List.map_take, List.drop_take]
  rw [← hform] at hC
  have hex := exq (squashK snaps last g)
  obtain ⟨y, hy⟩ := hex
  rw [hy] at hC
  have hyl : y.length ≤ k - i := by rw [← hy, ← hgl]; exact squashK_len
  have hx2 : x ++ y = (D ++ [g]).flatMap (squashK snaps last) := by rw [List.flatMap_append, ← hx1]; simp [hy]
  have hxy : (x ++ y).length ≤ k := by rw [List.length_append]; omega
  have hRR : x.map Ent.enc ++ y.map Ent.enc = (x ++ y).map Ent.enc := List.map_append.symm
  by_cases hkn : k = l.length
  ·have hf := hfin () (.inl hkn)
   subst hR1
   subst hs
   refine spF (by omega) fun h1 => ?_
   refine Need.mk (rfl) ?_
   refine Need.mk (⟨by omega, by omega, by omega, lenE _⟩) ?_
   refine ACall.mk _ _ hC ?_
   refine Need.mk ((plainE _)) ?_
   refine apq (A' := _) (B' := _) rfl rfl ?_
   exact ⟨_, _, by omega, Weak.nrm [true, true, true, false, false, false, false, true, true] [(46, 7)] rfl rfl rfl, k, D ++ [g], x ++ y, _, hk, rfl, hf, hx2, hxy, hRR, rfl⟩
  ·have hka : k < l.length := by omega
   by_cases hbr : l[k].key = l[i].key
   ·have hno2 : ∀ j, i ≤ j → j < k + 1 → ∀ h : j < l.length, l[j].key = (l[i]'hia).key := fun j h1 h2 h3 => by
     by_cases hjk : j = k
     ·subst hjk; exact hbr
     ·exact hno j h1 (by omega) h3
    subst hs
    refine spT (by omega) fun h1 => ?_
    refine nd ?_
    refine Row.mk _ (map_get _ l k (by omega)) ?_
    refine nd ?_
    refine Row.mk _ (map_get _ l i (by omega)) ?_
    refine Split.mk fun t h2 => ?_
    cases t
    case false => (exfalso; rw [bytes_beq, decide_eq_false_iff_not] at h2; exact absurd ‹_› h2)
    rw [bytes_beq, decide_eq_true_iff] at h2
    refine Need.mk (rfl) ?_
    refine Num.mk _ (wrapS (by omega)) ?_
    exact ⟨_, _, by omega, Weak.nrm [true, true, true, false, false, false, false, true, true, true] [(7, 7)] rfl rfl rfl, k + 1, by omega, by omega, rfl, hno2, rfl⟩
   ·have hf := hfin () (.inr fun _ => hbr)
    subst hR1
    subst hs
    refine spT (by omega) fun h1 => ?_
    refine nd ?_
    refine Row.mk _ (map_get _ l k (by omega)) ?_
    refine nd ?_
    refine Row.mk _ (map_get _ l i (by omega)) ?_
    refine Split.mk fun t h2 => ?_
    cases t
    case true => (exfalso; rw [bytes_beq, decide_eq_true_iff] at h2; exact absurd h2 ‹_›)
    rw [bytes_beq, decide_eq_false_iff_not] at h2
    refine Need.mk (rfl) ?_
    refine Need.mk (⟨by omega, by omega, by omega, lenE _⟩) ?_
    refine ACall.mk _ _ hC ?_
    refine Need.mk ((plainE _)) ?_
    refine apq (A' := _) (B' := _) rfl rfl ?_
    exact ⟨_, _, by omega, Weak.nrm [true, true, true, false, false, false, false, true, true] [(46, 7)] rfl rfl rfl, k, D ++ [g], x ++ y, _, hk, rfl, hf, hx2, hxy, hRR, rfl⟩
theorem impl_Squash (l : List Ent) (snaps : List Int) (hs0 : snaps.length ≤ 1099511627776) (hl : l.length ≤ 1000000) (hx : OkE l) (last : Bool) : AFn Tryz.prog 134 [sl (l.map Ent.enc), sl (snaps.map encI), av (.bool last)] [] (.one (.us 54 ((squashed l snaps last).map Ent.enc))) [] := by
 by_cases hok : ordOk l = true
 ·rw [show squashed l snaps last = squash l snaps last from if_pos hok]
  exact impl_Squash_ok l snaps hs0 hl hx hok last _ rfl
 ·rw [show squashed l snaps last = [] from if_neg hok]
  have hok : ordOk l = false := by simpa using hok
  have hR := impl_inOrder l hx (Nat.le_trans hl (by decide))
  rw [hok] at hR
  refine AFn.introX (E := En 0 md0) (en_ok 0 _ _ _ _ _) Tryz.func134 rfl rfl rfl fun _ _ => ?_
  refine ACall.mk _ _ hR ?_
  refine sp0 ?_
  exact Need.mk ⟨[false], _, .nil (pos_of tab_ok (t := 54) rfl) .same, rfl, rfl⟩ trivial
def encSh (l0 l1 l2 : List Rn) : List C := [.sl (l0.map Rn.enc), .sl (l1.map Rn.enc), .sl (l2.map Rn.enc)]
theorem impl_shelvesOf (l0 l1 l2 : List Rn) : AFn Tryz.prog 132 [sl ([l0, l1, l2].map encL)] [] (.agg (encSh l0 l1 l2)) [] := by
 refine AFn.introX (E := En 0 md0) (en_ok 0 _ _ _ _ _) Tryz.func132 rfl rfl rfl fun _ _ => ?_
 refine Need.mk (⟨(plainL _), (lenL _)⟩) ?_
 exact Need.mk ⟨[], _, .same, rfl, rfl⟩ trivial
theorem impl_levels (l0 l1 l2 : List Rn) : AFn Tryz.prog 136 [.agg ((encSh l0 l1 l2).map .c)] [] (.one (.us 66 ([l0, l1, l2].map encL))) [] := by
 refine AFn.introX (E := En 0 md0) (en_ok 0 _ _ _ _ _) Tryz.func136 rfl rfl rfl fun _ _ => ?_
 refine Need.mk (plainL [l0, l1, l2]) ?_
 refine apq (A' := []) (B' := [[.sl (List.map Rn.enc l0)], [.sl (List.map Rn.enc l1)], [.sl (List.map Rn.enc l2)]]) rfl rfl ?_
 exact Need.mk ⟨[], _, .same, rfl, rfl⟩ trivial
def growR_ren : Go.Shelf.Ren := ⟨fun | 4 => 183 | n => n, fun | 22 => 66 | 25 => 68 | n => n, fun | n => n⟩
theorem growR_lays : Go.Proofs.Lays8.n4 Tryz.prog growR_ren := {
 mixed := by kernel_rfl
 f4 := ⟨Tryz.f183.name, by decide, Tryz.func183.trans (congrArg some (by kernel_rfl))⟩
 t0 := Tryz.underlying0
 a0 := Tryz.isAgg0
 z0 := Tryz.sizeOf0
 v0 := Tryz.zeroValue0
 t3 := Tryz.underlying3
 a3 := Tryz.isAgg3
 z3 := Tryz.sizeOf3
 v3 := Tryz.zeroValue3
 t4 := Tryz.underlying4
 a4 := Tryz.isAgg4
 z4 := Tryz.sizeOf4
 v4 := Tryz.zeroValue4
 t9 := Tryz.underlying9
 a9 := Tryz.isAgg9
 z9 := Tryz.sizeOf9
 v9 := Tryz.zeroValue9
 t20 := Tryz.underlying20
 a20 := Tryz.isAgg20
 z20 := Tryz.sizeOf20
 v20 := Tryz.zeroValue20
 t22 := Tryz.underlying66
 a22 := Tryz.isAgg66
 z22 := Tryz.sizeOf66
 v22 := Tryz.zeroValue66 }
theorem growR_info : (Tryz.prog.info? 68).map (fun i => (i.zero, i.size, i.bytes)) = some (some (.agg #[.slice none 0 0, .int .i64 0]), 2, 32) := by kernel_rfl
theorem slices_GrowR (n : Nat) (hn : n ≤ 1099511627776) : AFn Tryz.prog 183 [.one (.c (.v nilV)), av (.int .i64 n)] [] (.one (.us 68 [])) [] := by
 cases hi : Tryz.prog.info? 68 with
 | none => have h := growR_info; rw [hi] at h; cases h
 | some i0 =>
  have h := growR_info
  rw [hi] at h
  simp only [Option.map_some, Option.some.injEq, Prod.mk.injEq] at h
  obtain ⟨h1, h2, h3⟩ := h
  exact grow_ok growR_lays rfl rfl hi h1 (by omega) (by kernel_rfl) (pos_of tab_ok (t := 68) rfl) n (by rw [h3]; omega) (by omega)
theorem slices_ConcatR (L : List (List Rn)) (hL : L.length ≤ 1000000) (hl : ∀ l ∈ L, l.length ≤ 1000000) (hf : L.flatten.length ≤ 1000000) : AFn Tryz.prog 135 [sl (L.map encL)] [] (.one (.us 68 (L.flatten.map Rn.enc))) [] := by
 have hn : (L.map encL).length = L.length := List.length_map ..
 have hsum : ∀ i, (L.take i).flatten.length ≤ 1000000 := fun i => Nat.le_trans (flat_take_le L i) hf
 refine AFn.introX (E := En 0 (fun f => if f = 183 then 3 else 0)) (en_ok 0 _) Tryz.func135 rfl rfl rfl fun _ _ => ?_
 let S : Nat → Nat → St := fun n i => ⟨some (sl (L.map encL)) :: none :: none :: some (av (.int .i64 n)) :: none :: none :: none :: none :: none :: some (sl (L.map encL)) :: some (av (.int .i64 (L.map encL).length)) :: some (av (.int .i64 i)) :: List.replicate 24 none, List.replicate 36 absent⟩
 refine ALoop.mk (fun m s => ∃ i : Nat, i ≤ L.length ∧ m = L.length - i ∧ s = S (L.take i).flatten.length i)
  ⟨_, _, Weak.nrm [true, false, false, true, false, false, false, false, false, true, true, true] [] rfl rfl rfl, 0, Nat.zero_le _, rfl, rfl⟩ ?_
 rintro m s ⟨i, hi, rfl, hs⟩
 by_cases hin : i = L.length
 ·rw [hin, List.take_length] at hs
  have hG := slices_GrowR L.flatten.length (by omega)
  have hex := exq (L.flatten.length)
  obtain ⟨n, hN⟩ := hex
  rw [hN] at hs hG
  subst hs
  refine spF (by omega) fun h1 => ?_
  refine ACall.mk _ _ hG ?_
  let S2 : List (List C) → Nat → St := fun R i => ⟨none :: none :: none :: none :: none :: none :: some (.one (.ref 6 0 (.cell 0))) :: none :: none :: none :: none :: none :: none :: none :: none :: none :: none :: none :: none :: none :: none :: none :: none :: none :: none :: some (sl (L.map encL)) :: some (av (.int .i64 (L.map encL).length)) :: some (av (.int .i64 i)) :: List.replicate 8 none, absent :: absent :: absent :: absent :: absent :: absent :: ⟨0, 1, some [.us 68 R]⟩ :: List.replicate 29 absent⟩
  refine ALoop.mk (fun m s => ∃ i : Nat, i ≤ L.length ∧ m = L.length - i ∧ s = S2 ((L.take i).flatten.map Rn.enc) i)
   ⟨_, _, Weak.nrm [false, false, false, false, false, false, true, false, false, false, false, false, false, false, false, false, false, false, false, false, false, false, false, false, false, true, true, true] [(24, 6)] rfl rfl rfl, 0, Nat.zero_le _, rfl, rfl⟩ ?_
  rintro m s ⟨i, hi, hm2, hs⟩
  by_cases hin : i = L.length
  ·rw [hin, List.take_length] at hs
   subst hs
   refine spF (by omega) fun h1 => ?_
   exact Need.mk ⟨[], _, .same, rfl, rfl⟩ trivial
  ·have hia : i < L.length := by omega
   have hft := flat_take L hia
   have hs1 := hsum i
   have hx := hl _ (List.getElem_mem hia)
   have hex := exq (L[i])
   obtain ⟨xs, hxs⟩ := hex
   have hrow : (L.map encL)[i]? = some (encL xs) := by rw [map_get _ L i hia, hxs]
   rw [hxs] at hft hx
   have hex := exq ((L.take i).flatten)
   obtain ⟨G, hG2⟩ := hex
   rw [hG2] at hs hs1 hft
   subst hs
   refine spT (by omega) fun h1 => ?_
   refine nd ?_
   refine Row.mk _ hrow ?_
   refine Need.mk (⟨(plainR _), (lenR _)⟩) ?_
   refine apq (A' := _) (B' := _) rfl rfl ?_
   refine Num.mk _ (wrapS (by omega)) ?_
   exact ⟨_, _, by omega, Weak.nrm [false, false, false, false, false, false, true, false, false, false, false, false, false, false, false, false, false, false, false, false, false, false, false, false, false, true, true, true] [(33, 6)] rfl rfl rfl, i + 1, by omega, rfl, Eq.trans (b := S2 (G.map Rn.enc ++ xs.map Rn.enc) (i + 1)) rfl (by rw [hft, List.map_append])⟩
 ·have hia : i < L.length := by omega
  have hft := flat_take L hia
  have hs1 := hsum i
  have hx := hl _ (List.getElem_mem hia)
  have hex := exq (L[i])
  obtain ⟨xs, hxs⟩ := hex
  have hrow : (L.map encL)[i]? = some (encL xs) := by rw [map_get _ L i hia, hxs]
  rw [hxs] at hft hx
  have hfl : (L.take (i + 1)).flatten.length = (L.take i).flatten.length + xs.length := by rw [hft, List.length_append]
  have hxn : (xs.map Rn.enc).length = xs.length := List.length_map ..
  have hex := exq ((L.take i).flatten.length)
  obtain ⟨n, hN⟩ := hex
  rw [hN] at hs hs1 hfl
  have hwr : IntKind.i64.wrap ((n : Int) + ((xs.map Rn.enc).length : Nat)) = ((n + xs.length : Nat) : Int) := wrapI' (by omega) (by omega)
  subst hs
  refine spT (by omega) fun h1 => ?_
  refine nd ?_
  refine Row.mk _ hrow ?_
  refine Num.mk _ hwr ?_
  refine sp0 ?_
  refine Num.mk _ (wrapS (by omega)) ?_
  exact ⟨_, _, by omega, Weak.nrm [true, false, false, true, false, false, false, false, false, true, true, true] [] rfl rfl rfl, i + 1, by omega, rfl, Eq.trans (b := S (n + xs.length) (i + 1)) rfl (by rw [hfl])⟩
theorem ordOk_OkE {l : List Ent} (h : ordOk l = true) : OkE l := fun e he => by
 have h1 := ordOk_all h e he
 unfold entOk at h1
 rw [Bool.and_eq_true, Bool.and_eq_true, Bool.and_eq_true, Bool.and_eq_true, decide_eq_true_iff, decide_eq_true_iff, decide_eq_true_iff] at h1
 have hk := h1.1
 unfold keyOk at hk
 rw [Bool.and_eq_true, Bool.and_eq_true, decide_eq_true_iff, decide_eq_true_iff] at hk
 exact ⟨Nat.le_trans hk.1.2 (by decide), Nat.le_trans h1.2.2.2.1 (by decide)⟩
theorem min_t {a b : ByteArray} : minB a b = if (Op.bytesLess a.toList b.toList || a.toList == b.toList) = true then a else b := by
 unfold minB
 cases h : slt b a with
 | true =>
  rw [if_pos rfl, if_neg]
  rw [Bool.or_eq_true]
  rintro (h4 | h4)
  ·have h2 := slt_asym h
   rw [show slt a b = true from h4] at h2; cases h2
  ·rw [show slt b a = Op.bytesLess b.toList a.toList from rfl, beq_iff_eq.1 h4, bl_irr] at h
   cases h
 | false =>
  rw [if_neg (by simp)]
  split
  ·rfl
  ·rename_i h2
   rw [Bool.or_eq_true] at h2
   exact slt_tot (Bool.eq_false_iff.2 fun h3 => h2 (.inl h3)) h
theorem max_t {a b : ByteArray} : maxB a b = if (!Op.bytesLess a.toList b.toList) = true then a else b := by
 unfold maxB
 show (if Op.bytesLess a.toList b.toList = true then b else a) = _
 cases Op.bytesLess a.toList b.toList <;> rfl
def loR (x : Rn) (xs : List Rn) (i : Nat) : ByteArray := (xs.take i).foldl (fun m r => minB m (lowK r)) (lowK x)
def hiR (x : Rn) (xs : List Rn) (i : Nat) : ByteArray := (xs.take i).foldl (fun m r => maxB m (highK r)) (highK x)
theorem loR_succ {x : Rn} {xs : List Rn} {i : Nat} (h : i < xs.length) : loR x xs (i + 1) = minB (loR x xs i) (lowK xs[i]) := by
 unfold loR; rw [List.take_succ_eq_append_getElem h, List.foldl_append]; rfl
theorem hiR_succ {x : Rn} {xs : List Rn} {i : Nat} (h : i < xs.length) : hiR x xs (i + 1) = maxB (hiR x xs i) (highK xs[i]) := by
 unfold hiR; rw [List.take_succ_eq_append_getElem h, List.foldl_append]; rfl
theorem impl_rangeOf (x : Rn) (xs : List Rn) (hl : xs.length ≤ 1048576) (hr : ∀ r ∈ x :: xs, 0 < r.ents.length ∧ r.ents.length ≤ 1048576) :
  AFn Tryz.prog 139 [sl ((x :: xs).map Rn.enc)] [] (.tup [.one (vs (lowR (x :: xs))), .one (vs (highR (x :: xs)))]) [] := by
 have hn : ((x :: xs).map Rn.enc).length = xs.length + 1 := List.length_map ..
 have hL := impl_lowKey x (hr x (List.mem_cons_self ..)).1
 have hH := impl_highKey x (hr x (List.mem_cons_self ..)).1 (Nat.le_trans (hr x (List.mem_cons_self ..)).2 (by decide))
 have h0 : ((x :: xs).map Rn.enc)[0]? = some x.enc := rfl
 have hE : List.take (((((x :: xs).map Rn.enc).length : Nat) : Int) - 1).toNat (List.drop (Int.toNat 1) ((x :: xs).map Rn.enc)) = xs.map Rn.enc := by
  rw [hn, show (((xs.length + 1 : Nat) : Int) - 1).toNat = xs.length by omega]
  exact List.take_of_length_le (by rw [show List.drop (Int.toNat 1) ((x :: xs).map Rn.enc) = xs.map Rn.enc from rfl, List.length_map]; omega)
 have hEl := congrArg List.length hE
 rw [List.length_map] at hEl
 have hlo : (x.ents.getD 0 ent0).key = loR x xs 0 := rfl
 have hhi : (x.ents.getD (x.ents.length - 1) ent0).key = hiR x xs 0 := rfl
 refine AFn.introX (E := En 0 md0) (en_ok 0 _) Tryz.func139 rfl rfl rfl fun _ _ => ?_
 refine nd ?_
 refine Row.mk _ h0 ?_
 refine ACall.mk _ _ hL ?_
 refine nd ?_
 refine Row.mk _ h0 ?_
 refine ACall.mk _ _ hH ?_
 refine Need.mk (rfl) ?_
 refine Need.mk (⟨by omega, by omega, by omega, lenR _⟩) ?_
 let S : Nat → ByteArray → ByteArray → St := fun i lo hi => ⟨none :: none :: none :: none :: some (av (.string lo)) :: some (av (.string hi)) :: none :: none :: none :: none :: none :: none :: none :: none :: none :: none :: none :: some (sl (List.take (((((x :: xs).map Rn.enc).length : Nat) : Int) - 1).toNat (List.drop (Int.toNat 1) ((x :: xs).map Rn.enc)))) :: some (av (.int .i64 ((List.take (((((x :: xs).map Rn.enc).length : Nat) : Int) - 1).toNat (List.drop (Int.toNat 1) ((x :: xs).map Rn.enc))).length : Nat))) :: some (av (.int .i64 i)) :: List.replicate 14 none, List.replicate 34 absent⟩
 refine ALoop.mk (fun m s => ∃ (i : Nat) (lo hi : ByteArray), i ≤ xs.length ∧ m = xs.length - i ∧ lo = loR x xs i ∧ hi = hiR x xs i ∧ s = S i lo hi)
  ⟨_, _, Weak.nrm [false, false, false, false, true, true, false, false, false, false, false, false, false, false, false, false, false, true, true, true] [] rfl rfl rfl, 0, _, _, Nat.zero_le _, rfl, hlo, hhi, rfl⟩ ?_
 rintro m s ⟨i, _, _, hi, rfl, rfl, rfl, hs⟩
 by_cases hin : i = xs.length
 ·have e1 : loR x xs i = lowR (x :: xs) := by subst hin; unfold loR; rw [List.take_length]; rfl
  have e2 : hiR x xs i = highR (x :: xs) := by subst hin; unfold hiR; rw [List.take_length]; rfl
  rw [← e1, ← e2]
  subst hs
  refine Split.mk fun t h1 => ?_
  cases t
  case true => (exfalso; simp at h1 <;> omega)
  rw [decide_eq_false_iff_not] at h1
  exact Need.mk ⟨[], _, .same, rfl, rfl⟩ trivial
 ·have hia : i < xs.length := by omega
  have hget : (List.take (((((x :: xs).map Rn.enc).length : Nat) : Int) - 1).toNat (List.drop (Int.toNat 1) ((x :: xs).map Rn.enc)))[i]? = some (xs[i]).enc := by rw [hE]; exact map_get _ xs i hia
  have hmem := hr _ (List.mem_cons_of_mem x (List.getElem_mem hia))
  have hL2 := impl_lowKey xs[i] hmem.1
  have hH2 := impl_highKey xs[i] hmem.1 (Nat.le_trans hmem.2 (by decide))
  have s1 : loR x xs (i + 1) = minB (loR x xs i) (xs[i].ents.getD 0 ent0).key := loR_succ hia
  have s2 : hiR x xs (i + 1) = maxB (hiR x xs i) (xs[i].ents.getD (xs[i].ents.length - 1) ent0).key := hiR_succ hia
  rw [min_t] at s1
  rw [max_t] at s2
  subst hs
  refine Split.mk fun t h1 => ?_
  cases t
  case false => (exfalso; simp at h1 <;> omega)
  rw [decide_eq_true_iff] at h1
  refine nd ?_
  refine Row.mk _ hget ?_
  refine ACall.mk _ _ hL2 ?_
  refine Split.mk fun t h2 => ?_
  cases t
  ·skip
   refine ACall.mk _ _ hH2 ?_
   refine Split.mk fun t h3 => ?_
   cases t
   ·skip
    refine Num.mk _ (wrapS (by omega)) ?_
    exact ⟨_, _, by omega, Weak.nrm [false, false, false, false, true, true, false, false, false, false, false, false, false, false, false, false, false, true, true, true] [] rfl rfl rfl, i + 1, _, _, by omega, rfl, (s1.trans (if_neg fun h => Bool.noConfusion (h.symm.trans h2))).symm, (s2.trans (if_neg fun h => Bool.noConfusion (h.symm.trans h3))).symm, rfl⟩
   ·skip
    refine Num.mk _ (wrapS (by omega)) ?_
    exact ⟨_, _, by omega, Weak.nrm [false, false, false, false, true, true, false, false, false, false, false, false, false, false, false, false, false, true, true, true] [] rfl rfl rfl, i + 1, _, _, by omega, rfl, (s1.trans (if_neg fun h => Bool.noConfusion (h.symm.trans h2))).symm, (s2.trans (if_pos h3)).symm, rfl⟩
  ·skip
   refine ACall.mk _ _ hH2 ?_
   refine Split.mk fun t h4 => ?_
   cases t
   ·skip
    refine Num.mk _ (wrapS (by omega)) ?_
    exact ⟨_, _, by omega, Weak.nrm [false, false, false, false, true, true, false, false, false, false, false, false, false, false, false, false, false, true, true, true] [] rfl rfl rfl, i + 1, _, _, by omega, rfl, (s1.trans (if_pos h2)).symm, (s2.trans (if_neg fun h => Bool.noConfusion (h.symm.trans h4))).symm, rfl⟩
   ·skip
    refine Num.mk _ (wrapS (by omega)) ?_
    exact ⟨_, _, by omega, Weak.nrm [false, false, false, false, true, true, false, false, false, false, false, false, false, false, false, false, false, true, true, true] [] rfl rfl rfl, i + 1, _, _, by omega, rfl, (s1.trans (if_pos h2)).symm, (s2.trans (if_pos h4)).symm, rfl⟩
theorem sort_SearchG (f : FuncId) (rows : List (List C)) (lim : ByteArray) (p : Nat → Bool) (n k : Nat) (hn : n ≤ 1099511627776) (hk : k ≤ n) (h1 : ∀ i, i < k → p i = false) (h2 : ∀ i, k ≤ i → i < n → p i = true)
  (hf : ∀ i : Nat, i < n → AFnK Tryz.prog f [av (.int .i64 i), .bx 0 0, .bx 1 0] [[.sl rows], [vs lim]] [0, 0] (rb (p i)) [[.sl rows], [vs lim]]) :
  AFnK Tryz.prog 191 [av (.int .i64 n), .clo f [.bx 0 0, .bx 1 0]] [[.sl rows], [vs lim]] [0, 0] (.one (vi k)) [[.sl rows], [vs lim]] := by
 refine AFnK.introX (E := En 2 md0) (en_ok 2 md0) Tryz.func191 rfl rfl rfl fun _ _ => ?_
 let S : Nat → Nat → St := fun i j => ⟨some (av (.int .i64 n)) :: some (.clo f [.bx 0 0, .bx 1 0]) :: none :: none :: none :: some (av (.int .i64 i)) :: some (av (.int .i64 j)) :: List.replicate 19 none, ⟨0, 0, some [.sl rows]⟩ :: ⟨0, 0, some [vs lim]⟩ :: List.replicate 26 absent⟩
 refine ALoop.mk (fun m s => ∃ i j : Nat, i ≤ k ∧ k ≤ j ∧ j ≤ n ∧ m = j - i ∧ s = S i j)
  ⟨n, _, Weak.nrm [true, true, false, false, false, true, true] [(0, 0), (1, 1)] rfl rfl rfl, 0, n, Nat.zero_le _, hk, Nat.le_refl _, rfl, rfl⟩ ?_
 rintro m s ⟨i, j, hi, hj, hjn, rfl, hs⟩
 by_cases hij : i < j
 ·have hm1 : i ≤ (i + j) / 2 := by omega
  have hm2 : (i + j) / 2 < j := by omega
  have hc := hf ((i + j) / 2) (by omega)
  have up : p ((i + j) / 2) = false → (i + j) / 2 + 1 ≤ k := fun h => by
   refine Nat.lt_of_not_le fun hle => ?_
   rw [h2 _ hle (by omega)] at h; cases h
  have dn : p ((i + j) / 2) = true → k ≤ (i + j) / 2 := fun h => by
   refine Nat.le_of_not_lt fun hle => ?_
   rw [h1 _ hle] at h; cases h
  subst hs
  refine Split.mk fun t ht => ?_
  cases t
  ·simp at ht; omega
  refine Num.mk ((i + j : Nat) : Int) (wrapI' (by omega) (by omega)) ?_
  refine Num.mk _ (wrapU (by omega)) ?_
  refine Need.mk (by decide) ?_
  refine Num.mk _ (half (by omega)) ?_
  refine ACall.mk _ _ hc ?_
  refine Split.mk fun t h3 => ?_
  cases t
  ·refine Num.mk _ (wrapS (by omega)) ?_
   exact ⟨j - ((i + j) / 2 + 1), _, by omega, Weak.nrm [true, true, false, false, false, true, true] [(0, 0), (1, 1)] rfl rfl rfl, (i + j) / 2 + 1, j, up h3, hj, hjn, rfl, rfl⟩
  ·exact ⟨(i + j) / 2 - i, _, by omega, Weak.nrm [true, true, false, false, false, true, true] [(0, 0), (1, 1)] rfl rfl rfl, i, (i + j) / 2, hi, dn h3, by omega, rfl, rfl⟩
 ·have he : i = k := by omega
  subst hs
  refine Split.mk fun t ht => ?_
  cases t
  ·exact Need.mk ⟨[], _, .same, by rw [he]; rfl, rfl⟩ trivial
  ·simp at ht; omega
theorem impl_meeting1 (xs : List Rn) (low : ByteArray) (i : Nat) (h : i < xs.length) (hr : 0 < xs[i].ents.length ∧ xs[i].ents.length ≤ 1048576) :
  AFnK Tryz.prog 192 [av (.int .i64 i), .bx 0 0, .bx 1 0] [[.sl (xs.map Rn.enc)], [vs low]] [0, 0] (rb (!slt (highK xs[i]) low)) [[.sl (xs.map Rn.enc)], [vs low]] := by
 have hn : (xs.map Rn.enc).length = xs.length := List.length_map ..
 have hget := map_get Rn.enc xs i h
 have hH := impl_highKey xs[i] hr.1 (Nat.le_trans hr.2 (by decide))
 refine AFnK.introX (E := En 2 md0) (en_ok 2 md0) Tryz.func192 rfl rfl rfl fun _ _ => ?_
 refine nd ?_
 refine Row.mk _ hget ?_
 refine ACall.mk _ _ hH ?_
 refine Split.mk fun t h1 => ?_
 cases t
 ·refine Need.mk (rfl) ?_
  exact Need.mk ⟨[], _, .same, congrArg rb h1.symm, rfl⟩ trivial
 ·refine Need.mk (rfl) ?_
  exact Need.mk ⟨[], _, .same, congrArg rb h1.symm, rfl⟩ trivial
theorem impl_meeting2 (xs : List Rn) (high : ByteArray) (i : Nat) (h : i < xs.length) (hr : 0 < xs[i].ents.length) :
  AFnK Tryz.prog 193 [av (.int .i64 i), .bx 0 0, .bx 1 0] [[.sl (xs.map Rn.enc)], [vs high]] [0, 0] (rb (slt high (lowK xs[i]))) [[.sl (xs.map Rn.enc)], [vs high]] := by
 have hn : (xs.map Rn.enc).length = xs.length := List.length_map ..
 have hget := map_get Rn.enc xs i h
 have hH := impl_lowKey xs[i] hr
 refine AFnK.introX (E := En 2 md0) (en_ok 2 md0) Tryz.func193 rfl rfl rfl fun _ _ => ?_
 refine nd ?_
 refine Row.mk _ hget ?_
 refine ACall.mk _ _ hH ?_
 refine Split.mk fun t h1 => ?_
 cases t
 ·rw [str_gt] at h1
  refine Need.mk (rfl) ?_
  exact Need.mk ⟨[], _, .same, congrArg rb h1.symm, rfl⟩ trivial
 ·rw [str_gt] at h1
  refine Need.mk (rfl) ?_
  exact Need.mk ⟨[], _, .same, congrArg rb h1.symm, rfl⟩ trivial
def rn0 : Rn := ⟨[], 0⟩
theorem impl_meeting (xs : List Rn) (low high : ByteArray) (hl : xs.length ≤ 1048576) (hr : ∀ r ∈ xs, runOk r = true) (ha : ApartP xs) (k1 k2 k3 : Nat) (e1 : fromI xs low = k1) (e2 : toI xs high = k2) (e3 : max k1 k2 = k3) :
  AFn Tryz.prog 140 [sl (xs.map Rn.enc), av (.string low), av (.string high)] [] (.tup [.one (vi k1), .one (vi k3)]) [] := by
 have hn : (xs.map Rn.enc).length = xs.length := List.length_map ..
 have hsz : ∀ r ∈ xs, 0 < r.ents.length ∧ r.ents.length ≤ 1048576 := fun r h => by
  obtain ⟨a, b, _⟩ := runOk_len (hr r h)
  omega
 obtain ⟨f1, f2, f3⟩ := fromI_spec (low := low) hr ha
 obtain ⟨t1, t2, t3⟩ := toI_spec (high := high) hr ha
 rw [e1] at f1 f2 f3
 rw [e2] at t1 t2 t3
 have hD : ∀ i (h : i < xs.length), xs.getD i rn0 = xs[i] := fun i h => by simp [List.getD_eq_getElem?_getD, h]
 have hS1 := sort_SearchG 192 (xs.map Rn.enc) low (fun i => !slt (highK (xs.getD i rn0)) low) xs.length k1 (by omega) f1
  (fun i h => by show (!slt (highK (xs.getD i rn0)) low) = false; rw [hD i (by omega), f2 i (by omega) h]; rfl)
  (fun i h h' => by show (!slt (highK (xs.getD i rn0)) low) = true; rw [hD i h', f3 i h' h]; rfl)
  (fun i h => by show AFnK _ _ _ _ _ (rb (!slt (highK (xs.getD i rn0)) low)) _; rw [hD i h]; exact impl_meeting1 xs low i h (hsz _ (List.getElem_mem h)))
 have hS2 := sort_SearchG 193 (xs.map Rn.enc) high (fun i => slt high (lowK (xs.getD i rn0))) xs.length k2 (by omega) t1
  (fun i h => by show slt high (lowK (xs.getD i rn0)) = false; rw [hD i (by omega), t2 i (by omega) h])
  (fun i h h' => by show slt high (lowK (xs.getD i rn0)) = true; rw [hD i h', t3 i h' h])
  (fun i h => by show AFnK _ _ _ _ _ (rb (slt high (lowK (xs.getD i rn0)))) _; rw [hD i h]; exact impl_meeting2 xs high i h (hsz _ (List.getElem_mem h)).1)
 rw [← hn] at hS1 hS2
 rw [show (k3 : Int) = if (k1 : Int) < k2 then (k2 : Int) else k1 by subst e3; split <;> omega]
 refine AFn.introX (E := En 0 md0) (en_ok 0 _) Tryz.func140 rfl rfl rfl fun _ _ => ?_
 refine ACall.mk _ _ hS1 ?_
 refine ACall.mk _ _ hS2 ?_
 exact Need.mk ⟨[], _, .same, rfl, rfl⟩ trivial
theorem cut_step {zs : List Ent} {e : Nat} (he0 : 0 < e) (hel : e ≤ zs.length) (hbr : ∀ j (h1 : 0 < j) (_ : j < e) (h3 : j < zs.length), ¬ brkP (0 + j - 1) (zs[j - 1]'(by omega)) zs[j]) (hend : ∀ (h : e < zs.length), brkP (0 + e - 1) (zs[e - 1]'(by omega)) zs[e]) : cutL zs = mkRun (zs.take e) :: cutL (zs.drop e) := by
 unfold cutL; rw [pieces_split he0 hel hbr hend]; rfl
theorem ordOk_subl {a b : List Ent} (h : a.Sublist b) (ho : ordOk b = true) : ordOk a = true := ord_of_pw ((pw_of_ord ho).sublist h) fun e he => ordOk_all ho e (h.subset he)
theorem good_long {l : List Ent} (h : 150 < l.length) : good l = false := by
 unfold good
 rw [decide_eq_false (p := l.length ≤ 150) (by omega), Bool.false_and, Bool.and_false]
theorem cutOk_long {zs : List Ent} {e : Nat} (he0 : 0 < e) (hel : e ≤ zs.length) (hbr : ∀ j (h1 : 0 < j) (_ : j < e) (h3 : j < zs.length), ¬ brkP (0 + j - 1) (zs[j - 1]'(by omega)) zs[j]) (hend : ∀ (h : e < zs.length), brkP (0 + e - 1) (zs[e - 1]'(by omega)) zs[e]) : cutOk zs = (decide (e ≤ 150) && cutOk (zs.drop e)) := by
 unfold cutOk; rw [pieces_split he0 hel hbr hend, List.all_cons, List.length_take, Nat.min_eq_left hel]
theorem impl_cutRuns (l : List Ent) (hl : l.length ≤ 1048576) (ho : ordOk l = true) (o : C) (c : Bool) (hcc : cutOk l = c) (h1 : c = true → o = .us 68 ((cutL l).map Rn.enc)) (h2 : c = false → o = .v nilV) :
  AFn Tryz.prog 142 [sl (l.map Ent.enc)] [] (.tup [.one o, .one (vb c)]) [] := by
 refine AFn.introX (E := En 0 md0 (fb := [6])) (en_ok 0 _ _ _ _ _) Tryz.func142 rfl rfl rfl fun _ _ => ?_
 let S : List Ent → List (List C) → St := fun zs R => ⟨some (sl (zs.map Ent.enc)) :: none :: none :: none :: some (.one (.ref 4 0 (.cell 0))) :: List.replicate 47 none, absent :: absent :: absent :: absent :: ⟨0, 1, some [.us 68 R]⟩ :: List.replicate 47 absent⟩
 refine ALoop.mk (fun m s => ∃ (zs : List Ent) (R : List (List C)), m = zs.length ∧ zs.length ≤ 1048576 ∧ ordOk zs = true ∧ cutOk zs = c ∧ R.length + zs.length ≤ 1048576 ∧ R ++ (cutL zs).map Rn.enc = (cutL l).map Rn.enc ∧ s = S zs R)
  ⟨_, _, Weak.trans (Weak.nrm [true, false, false, false, true] [] rfl rfl rfl) (Weak.nilOwn 4 4 68 rfl rfl (pos_of tab_ok (t := 68) rfl)), l, [], rfl, hl, ho, hcc, by simpa using hl, rfl, rfl⟩ ?_
 rintro m s ⟨zs, R, rfl, hzl, hzo, hzc, hRl, hR, hs⟩
 have hn : (zs.map Ent.enc).length = zs.length := List.length_map ..
 by_cases hz : zs.length = 0
 ·have hz0 : zs = [] := List.length_eq_zero_iff.1 hz
  have hct : c = true := by rw [← hzc, hz0]; rfl
  have hres : o = .us 68 R := by rw [h1 hct, ← hR, hz0]; exact congrArg _ (List.append_nil R)
  rw [hct, hres]
  subst hs
  refine spF (by omega) fun h1 => ?_
  exact Need.mk ⟨[], _, .same, rfl, rfl⟩ trivial
 ·have h9 : decide (((zs.map Ent.enc).length : Int) > 0) = true := by rw [hn]; exact decide_eq_true (by omega)
  subst hs
  refine Split.mk fun t h1 => ?_
  cases t
  case false => (exfalso; rw [decide_eq_false_iff_not] at h1; omega)
  let S2 : Nat → St := fun e => ⟨some (sl (zs.map Ent.enc)) :: none :: none :: none :: some (.one (.ref 4 0 (.cell 0))) :: some (av (.int .i64 e)) :: List.replicate 46 none, absent :: absent :: absent :: absent :: ⟨0, 1, some [.us 68 R]⟩ :: List.replicate 47 absent⟩
  refine ALoop.mk (fun m s => ∃ e : Nat, 0 < e ∧ e ≤ zs.length ∧ m = zs.length - e ∧ (∀ j (h1 : 0 < j) (_ : j < e) (h3 : j < zs.length), ¬ brkP (0 + j - 1) (zs[j - 1]'(by omega)) zs[j]) ∧ s = S2 e)
   ⟨_, _, Weak.nrm [true, false, false, false, true, true] [(4, 4)] rfl rfl rfl, 1, by omega, by omega, rfl, fun j h1 h2 => by omega, rfl⟩ ?_
  rintro m s ⟨e, he0, hel, rfl, hbr, hs⟩
  by_cases hgo : ∃ h : e < zs.length, e < 20 ∨ zs[e].key = (zs[e - 1]'(by omega)).key
  ·obtain ⟨hin, hor⟩ := hgo
   have hsub : IntKind.i64.wrap ((e : Int) - 1) = ((e - 1 : Nat) : Int) := wrapI' (by omega) (by omega)
   have g1 := map_get Ent.enc zs e hin
   have g2 := map_get Ent.enc zs (e - 1) (by omega)
   have hnb : ∀ j (h1 : 0 < j) (_ : j < e + 1) (h3 : j < zs.length), ¬ brkP (0 + j - 1) (zs[j - 1]'(by omega)) zs[j] := fun j h1 h2 h3 => by
    by_cases hj : j < e
    ·exact hbr j h1 hj h3
    ·obtain rfl : j = e := by omega
     intro hb
     rcases hor with h | h
     ·have := hb.1; omega
     ·exact hb.2 h
   by_cases h20 : e < 20
   ·subst hs
    refine spT (by omega) fun h1 => ?_
    refine spT (by omega) fun h2 => ?_
    refine Need.mk (rfl) ?_
    refine Num.mk _ (wrapS (by omega)) ?_
    exact ⟨_, _, by omega, Weak.nrm [true, false, false, false, true, true] [(4, 4)] rfl rfl rfl, e + 1, by omega, by omega, rfl, hnb, rfl⟩
   ·have hk : zs[e].key = (zs[e - 1]'(by omega)).key := hor.resolve_left h20
    subst hs
    refine spT (by omega) fun h1 => ?_
    refine spF (by omega) fun h2 => ?_
    refine nd ?_
    refine Row.mk _ g1 ?_
    refine Num.mk _ hsub ?_
    refine nd ?_
    refine Row.mk _ g2 ?_
    refine Split.mk fun t h3 => ?_
    cases t
    case false => (exfalso; rw [bytes_beq, decide_eq_false_iff_not] at h3; exact absurd ‹_› h3)
    rw [bytes_beq, decide_eq_true_iff] at h3
    refine Need.mk (rfl) ?_
    refine Num.mk _ (wrapS (by omega)) ?_
    exact ⟨_, _, by omega, Weak.nrm [true, false, false, false, true, true] [(4, 4)] rfl rfl rfl, e + 1, by omega, by omega, rfl, hnb, rfl⟩
  ·have hend : ∀ (h : e < zs.length), brkP (0 + e - 1) (zs[e - 1]'(by omega)) zs[e] := fun h => ⟨by have : ¬ e < 20 := fun h2 => hgo ⟨h, .inl h2⟩; omega, fun h2 => hgo ⟨h, .inr h2⟩⟩
   have hcs := cut_step he0 hel hbr hend
   have hco := cutOk_long he0 hel hbr hend
   have hto := ordOk_subl (List.take_sublist e zs) hzo
   have hdo := ordOk_subl (List.drop_sublist e zs) hzo
   have hE1 : List.take ((e : Int) - 0).toNat (List.drop (Int.toNat 0) (zs.map Ent.enc)) = (zs.take e).map Ent.enc := by rw [show ((e : Int) - 0).toNat = e by omega, List.map_take]; rfl
   have hE2 : List.take (((((zs.map Ent.enc).length : Nat) : Int) - (e : Int)).toNat) (List.drop (Int.toNat (e : Int)) (zs.map Ent.enc)) = (zs.drop e).map Ent.enc := by rw [hn, List.take_of_length_le (by rw [List.length_drop, hn]; omega), List.map_drop]; rfl
   by_cases hlen : e ≤ 150
   ·have hCall := impl_RunOf_ok (zs.take e) (ordOk_OkE hto) (good_ord hto (by rw [List.length_take]; omega) (by rw [List.length_take]; omega))
    rw [isort_ord hto] at hCall
    have hCall2 : AFn Tryz.prog 133 [sl (List.take ((e : Int) - 0).toNat (List.drop (Int.toNat 0) (zs.map Ent.enc)))] [] (.tup [.agg [.us 54 ((zs.take e).map Ent.enc), vi (rmask (zs.take e) : Nat)], .one (vb true)]) [] := by rw [hE1]; exact hCall
    rw [decide_eq_true hlen, Bool.true_and, hzc] at hco
    have hRR : (R ++ [(mkRun (zs.take e)).enc]) ++ (cutL (zs.drop e)).map Rn.enc = (cutL l).map Rn.enc := by rw [← hR, hcs, List.append_assoc]; rfl
    have hdl : (zs.drop e).length = zs.length - e := List.length_drop ..
    by_cases hin : e < zs.length
    ·have hsub : IntKind.i64.wrap ((e : Int) - 1) = ((e - 1 : Nat) : Int) := wrapI' (by omega) (by omega)
     have g1 := map_get Ent.enc zs e hin
     have g2 := map_get Ent.enc zs (e - 1) (by omega)
     have hk : ¬ zs[e].key = (zs[e - 1]'(by omega)).key := (hend hin).2
     have h20 : ¬ e < 20 := by have := (hend hin).1; omega
     subst hs
     refine spT (by omega) fun h1 => ?_
     refine spF (by omega) fun h2 => ?_
     refine nd ?_
     refine Row.mk _ g1 ?_
     refine Num.mk _ hsub ?_
     refine nd ?_
     refine Row.mk _ g2 ?_
     refine Split.mk fun t h3 => ?_
     cases t
     case true => (exfalso; rw [bytes_beq, decide_eq_true_iff] at h3; exact absurd h3 ‹_›)
     rw [bytes_beq, decide_eq_false_iff_not] at h3
     refine Need.mk (rfl) ?_
     refine Need.mk (⟨by omega, by omega, by omega, lenE _⟩) ?_
     refine ACall.mk _ _ hCall2 ?_
     refine sp1 ?_
     refine Fz.mk _ (frzE _) ?_
     refine apq (A' := _) (B' := [[.sl (List.map Ent.enc (List.take e zs)), vi (↑(rmask (List.take e zs)))]]) rfl rfl ?_
     refine Need.mk (⟨by omega, by omega, by omega, lenE _⟩) ?_
     exact ⟨_, _, by omega, Weak.nrm [true, false, false, false, true] [(47, 4)] rfl rfl rfl, zs.drop e, R ++ [(mkRun (zs.take e)).enc], rfl, by omega, hdo, hco.symm, by simp only [List.length_append, List.length_cons, List.length_nil]; omega, hRR, congrArg (fun q => (⟨some (sl q) :: none :: none :: none :: some (.one (.ref 4 0 (.cell 0))) :: List.replicate 47 none, absent :: absent :: absent :: absent :: ⟨0, 1, some [.us 68 (R ++ [(mkRun (zs.take e)).enc])]⟩ :: List.replicate 47 absent⟩ : St)) hE2⟩
    ·subst hs
     refine spF (by omega) fun h1 => ?_
     refine Need.mk (rfl) ?_
     refine Need.mk (⟨by omega, by omega, by omega, lenE _⟩) ?_
     refine ACall.mk _ _ hCall2 ?_
     refine sp1 ?_
     refine Fz.mk _ (frzE _) ?_
     refine apq (A' := _) (B' := [[.sl (List.map Ent.enc (List.take e zs)), vi (↑(rmask (List.take e zs)))]]) rfl rfl ?_
     refine Need.mk (⟨by omega, by omega, by omega, lenE _⟩) ?_
     exact ⟨_, _, by omega, Weak.nrm [true, false, false, false, true] [(47, 4)] rfl rfl rfl, zs.drop e, R ++ [(mkRun (zs.take e)).enc], rfl, by omega, hdo, hco.symm, by simp only [List.length_append, List.length_cons, List.length_nil]; omega, hRR, congrArg (fun q => (⟨some (sl q) :: none :: none :: none :: some (.one (.ref 4 0 (.cell 0))) :: List.replicate 47 none, absent :: absent :: absent :: absent :: ⟨0, 1, some [.us 68 (R ++ [(mkRun (zs.take e)).enc])]⟩ :: List.replicate 47 absent⟩ : St)) hE2⟩
   ·have hCall := impl_RunOf_bad (zs.take e) (ordOk_OkE hto) (good_long (by rw [List.length_take]; omega))
    rw [← hE1] at hCall
    rw [decide_eq_false hlen, Bool.false_and, hzc] at hco
    have hres := h2 hco
    rw [hres, hco]
    by_cases hin : e < zs.length
    ·have hsub : IntKind.i64.wrap ((e : Int) - 1) = ((e - 1 : Nat) : Int) := wrapI' (by omega) (by omega)
     have g1 := map_get Ent.enc zs e hin
     have g2 := map_get Ent.enc zs (e - 1) (by omega)
     have hk : ¬ zs[e].key = (zs[e - 1]'(by omega)).key := (hend hin).2
     have h20 : ¬ e < 20 := by have := (hend hin).1; omega
     subst hs
     refine spT (by omega) fun h1 => ?_
     refine spF (by omega) fun h2 => ?_
     refine nd ?_
     refine Row.mk _ g1 ?_
     refine Num.mk _ hsub ?_
     refine nd ?_
     refine Row.mk _ g2 ?_
     refine Split.mk fun t h3 => ?_
     cases t
     case true => (exfalso; rw [bytes_beq, decide_eq_true_iff] at h3; exact absurd h3 ‹_›)
     rw [bytes_beq, decide_eq_false_iff_not] at h3
     refine Need.mk (rfl) ?_
     refine Need.mk (⟨by omega, by omega, by omega, lenE _⟩) ?_
     refine ACall.mk _ _ hCall ?_
     refine sp0 ?_
     refine Fz.mk _ (FrzLL.frz .nil) ?_
     exact Need.mk ⟨[], _, .same, rfl, rfl⟩ trivial
    ·subst hs
     refine spF (by omega) fun h1 => ?_
     refine Need.mk (rfl) ?_
     refine Need.mk (⟨by omega, by omega, by omega, lenE _⟩) ?_
     refine ACall.mk _ _ hCall ?_
     refine sp0 ?_
     refine Fz.mk _ (FrzLL.frz .nil) ?_
     exact Need.mk ⟨[], _, .same, rfl, rfl⟩ trivial
def encLs (r : Rn) : List C := [.sl (r.ents.map Ent.enc)]
theorem impl_entsOf (xs : List Rn) (hl : xs.length ≤ 1048576) :
  AFn Tryz.prog 141 [sl (xs.map Rn.enc)] [] (.one (.us 29 (xs.map encLs))) [] := by
 have hn : (xs.map Rn.enc).length = xs.length := List.length_map ..
 refine AFn.introX (E := En 0 md0) (en_ok 0 _) Tryz.func141 rfl rfl rfl fun _ _ => ?_
 let S : Nat → List (List C) → St := fun i R => ⟨none :: none :: none :: some (.one (.ref 3 0 (.cell 0))) :: none :: none :: some (sl (List.map Rn.enc xs)) :: some (av (.int .i64 (↑(List.map Rn.enc xs).length))) :: some (av (.int .i64 i)) :: List.replicate 10 none, absent :: absent :: absent :: ⟨0, 1, some [.us 29 R]⟩ :: List.replicate 15 absent⟩
 refine ALoop.mk (fun m s => ∃ (i : Nat) (R : List (List C)), i ≤ xs.length ∧ m = xs.length - i ∧ R = (xs.take i).map encLs ∧ s = S i R)
  ⟨_, _, Weak.trans (Weak.nrm [false, false, false, true, false, false, true, true, true] [] rfl rfl rfl) (Weak.nilOwn 3 3 29 rfl rfl (pos_of tab_ok (t := 29) rfl)), 0, [], Nat.zero_le _, rfl, rfl, rfl⟩ ?_
 rintro m s ⟨i, R, hi, rfl, hR, hs⟩
 by_cases hin : i < xs.length
 ·have hRl : R.length = i := by rw [hR, List.length_map, List.length_take]; omega
  have hget := map_get Rn.enc xs i hin
  have hRR : R ++ [[.sl (xs[i].ents.map Ent.enc)]] = (xs.take (i + 1)).map encLs := by rw [hR, List.take_succ_eq_append_getElem hin, List.map_append]; rfl
  subst hs
  refine spT (by omega) fun h1 => ?_
  refine nd ?_
  refine Row.mk _ hget ?_
  refine apq (A' := _) (B' := [[.sl (List.map Ent.enc xs[i].ents)]]) rfl rfl ?_
  refine Num.mk _ (wrapS (by omega)) ?_
  exact ⟨_, _, by omega, Weak.nrm [false, false, false, true, false, false, true, true, true] [(16, 3)] rfl rfl rfl, i + 1, _, by omega, rfl, hRR, rfl⟩
 ·have hres : R = xs.map encLs := by rw [hR, List.take_of_length_le (by omega)]
  rw [← hres]
  subst hs
  refine spF (by omega) fun h1 => ?_
  exact Need.mk ⟨[], _, .same, rfl, rfl⟩ trivial
theorem impl_takeRuns0 (xs : List Rn) (pick : Int) (hl : xs.length ≤ 1048576) :
  AFn Tryz.prog 138 [sl (xs.map Rn.enc), av (.int .i64 0), av (.int .i64 pick)] [] (.tup [.one (.sl (xs.map Rn.enc)), .one (.v nilV), .one (vb (decide (0 < xs.length)))]) [] := by
 have hn : (xs.map Rn.enc).length = xs.length := List.length_map ..
 by_cases h0 : 0 < xs.length
 ·rw [decide_eq_true h0]
  refine AFn.introX (E := En 0 md0) (en_ok 0 _) Tryz.func138 rfl rfl rfl fun _ _ => ?_
  refine sp1 ?_
  refine spT (by omega) fun h2 => ?_
  exact Need.mk ⟨[], _, .same, rfl, rfl⟩ trivial
 ·rw [decide_eq_false h0]
  refine AFn.introX (E := En 0 md0) (en_ok 0 _) Tryz.func138 rfl rfl rfl fun _ _ => ?_
  refine sp1 ?_
  refine spF (by omega) fun h2 => ?_
  exact Need.mk ⟨[], _, .same, rfl, rfl⟩ trivial
theorem impl_takeRunsN (xs : List Rn) (lv pick : Int) (h0 : lv ≠ 0) (hp : ¬ (0 ≤ pick ∧ pick < xs.length)) :
  AFn Tryz.prog 138 [sl (xs.map Rn.enc), av (.int .i64 lv), av (.int .i64 pick)] [] (.tup [.one (.v nilV), .one (.v nilV), .one (vb false)]) [] := by
 have hn : (xs.map Rn.enc).length = xs.length := List.length_map ..
 by_cases hp1 : pick < 0
 ·refine AFn.introX (E := En 0 md0) (en_ok 0 _) Tryz.func138 rfl rfl rfl fun _ _ => ?_
  refine sqF (by omega) fun h1 => ?_
  refine spT (by omega) fun h2 => ?_
  exact Need.mk ⟨[], _, .same, rfl, rfl⟩ trivial
 ·refine AFn.introX (E := En 0 md0) (en_ok 0 _) Tryz.func138 rfl rfl rfl fun _ _ => ?_
  refine sqF (by omega) fun h1 => ?_
  refine spF (by omega) fun h2 => ?_
  refine spT (by omega) fun h3 => ?_
  exact Need.mk ⟨[], _, .same, rfl, rfl⟩ trivial
theorem impl_takeRunsY (xs : List Rn) (lv : Int) (p : Nat) (h0 : lv ≠ 0) (hp : p < xs.length) (hl : xs.length ≤ 1000000) :
  AFn Tryz.prog 138 [sl (xs.map Rn.enc), av (.int .i64 lv), av (.int .i64 p)] [] (.tup [.one (.sl (((xs.drop p).take 1).map Rn.enc)), .one (.us 68 ((xs.take p ++ xs.drop (p + 1)).map Rn.enc)), .one (vb true)]) [] := by
 have hn : (xs.map Rn.enc).length = xs.length := List.length_map ..
 have hC := slices_ConcatR [xs.take p, xs.drop (p + 1)] (by show (2 : Nat) ≤ 1000000; decide) (by intro l h; rcases List.mem_cons.1 h with rfl | h; (rw [List.length_take]; omega); cases List.mem_singleton.1 h; rw [List.length_drop]; omega) (by show ([xs.take p, xs.drop (p + 1)].flatten).length ≤ _; rw [show [xs.take p, xs.drop (p + 1)].flatten = xs.take p ++ (xs.drop (p + 1) ++ []) from rfl, List.length_append, List.length_append, List.length_take, List.length_drop]; simp; omega)
 rw [show [xs.take p, xs.drop (p + 1)].flatten = xs.take p ++ xs.drop (p + 1) by simp] at hC
 have e1 : List.take ((p : Int) - 0).toNat (List.drop (Int.toNat 0) (List.map Rn.enc xs)) = (xs.take p).map Rn.enc := by
  rw [show ((p : Int) - 0).toNat = p by omega, List.map_take]; rfl
 have e2 : List.take (↑(List.map Rn.enc xs).length - ((p + 1 : Nat) : Int)).toNat (List.drop (p + 1) (List.map Rn.enc xs)) = (xs.drop (p + 1)).map Rn.enc := by
  rw [hn, List.map_drop, List.take_of_length_le (by rw [List.length_drop, List.length_map]; omega)]
 have e3 : List.take ((((p + 1 : Nat) : Int) - (p : Int)).toNat) (List.drop (Int.toNat (p : Int)) (List.map Rn.enc xs)) = ((xs.drop p).take 1).map Rn.enc := by
  rw [show (((p + 1 : Nat) : Int) - (p : Int)).toNat = 1 by omega, List.map_take, List.map_drop]; rfl
 rw [← e3]
 rw [show [xs.take p, xs.drop (p + 1)].map encL = [[.sl ((xs.take p).map Rn.enc)], [.sl ((xs.drop (p + 1)).map Rn.enc)]] from rfl, ← e1, ← e2] at hC
 refine AFn.introX (E := En 0 (mdv [] [135])) (en_ok 0 _) Tryz.func138 rfl rfl rfl fun _ _ => ?_
 refine sqF (by omega) fun h1 => ?_
 refine sp0 ?_
 refine spF (by omega) fun h3 => ?_
 refine Num.mk _ (wrapS (by omega)) ?_
 refine Need.mk (⟨by omega, by omega, by omega, lenR _⟩) ?_
 refine Need.mk (⟨by omega, by omega, by omega, lenR _⟩) ?_
 refine Num.mk _ (wrapS (by omega)) ?_
 refine Need.mk (⟨by omega, by omega, by omega, lenR _⟩) ?_
 refine Fz.mk _ (FrzLL.frz (.cons (.cons .sl .nil) (.cons (.cons .sl .nil) .nil))) ?_
 refine ACall.mk _ _ hC ?_
 refine Need.mk (rfl) ?_
 exact Need.mk ⟨[], _, .same, rfl, rfl⟩ trivial
theorem laws_markText (k : Nat) (hk : k ≤ 4611686018427387904) : AFn Tryz.prog 72 [av (.int .i64 k)] [] (.one (vs (markT k))) [] := by
 refine AFn.introX (E := En 0 md0) (en_ok 0 md0) Tryz.func72 rfl rfl rfl fun _ _ => ?_
 refine Split.mk fun t ht => ?_
 cases t
 ·have h0 : 0 < k := by simp at ht; omega
  refine ALoop.mk (fun n s => ∃ (j : Nat) (out : ByteArray), n = j ∧ j + out.size ≤ 4611686018427387904 ∧ digs j out = digs k ⟨#[]⟩ ∧
   s = ⟨some (av (.int .i64 j)) :: none :: some (av (.string ⟨#[]⟩)) :: some (av (.string out)) :: List.replicate 16 none, List.replicate 20 absent⟩)
   ⟨k, _, Weak.nrm [true, false, true, true] [] rfl rfl rfl, k, ⟨#[]⟩, rfl, hk, rfl, rfl⟩ ?_
  rintro j s ⟨_, out, rfl, hb, hd, rfl⟩
  refine Split.mk fun t ht => ?_
  cases t
  ·have hj : j = 0 := by simp at ht; omega
   subst hj
   refine Need.mk (strFits1 (by omega)) ?_
   refine Need.mk ⟨[], _, .same, ?_, rfl⟩ trivial
   have : markT k = ⟨#[109]⟩ ++ digs k ⟨#[]⟩ := by simp [markT]; omega
   rw [this, ← hd, digs_zero]; rfl
  ·have hj : 0 < j := by simpa using ht
   refine Need.mk (by decide) ?_
   refine Num.mk ((48 + j % 10 : Nat) : Int) (by rw [show ((j : Int).tmod 10) = ((j % 10 : Nat) : Int) from rfl, wrapI] <;> omega) ?_
   refine Num.mk ((48 + j % 10 : Nat) : Int) (by rw [wrapU8] <;> omega) ?_
   refine Need.mk (strFits1 (by omega)) ?_
   refine Need.mk (by decide) ?_
   refine Num.mk ((j / 10 : Nat) : Int) (by rw [show ((j : Int).tdiv 10) = ((j / 10 : Nat) : Int) from rfl, wrapI] <;> omega) ?_
   refine ⟨j / 10, _, by omega, Weak.nrm [true, false, true, true] [] rfl rfl rfl, j / 10, dig j ++ out, rfl, ?_, ?_, rfl⟩
   ·rw [ByteArray.size_append, show (dig j).size = 1 from rfl]; omega
   ·rw [← digs_succ hj]; exact hd
 ·have h0 : k = 0 := by simp at ht; omega
  subst h0
  exact Need.mk ⟨[], _, .same, rfl, rfl⟩ trivial
theorem laws_markEntryS (xs : List Ent) (k : Nat) (hk : k + 5 * xs.length ≤ 4611686018427387904) : AFn Tryz.prog 24 [.one (.ref 0 0 (.cell 0)), av (.int .i64 k)] [[.us 54 (xs.map Ent.enc)]] (.one (vi ((k + 5 * xs.length : Nat) : Int))) [[.us 54 ((markL k xs.length).map Ent.enc)]] := by
 refine AFn.introX (E := En 1 md0) (en_ok 1 md0) Tryz.func24 rfl rfl rfl fun _ _ => ?_
 let S : List (List C) → Nat → Nat → St := fun rows i m => ⟨some (.one (.ref 0 0 (.cell 0))) :: some (av (.int .i64 m)) :: none :: none :: none :: some (av (.int .i64 i)) :: List.replicate 44 none, ⟨0, 1, some [.us 54 rows]⟩ :: List.replicate 50 absent⟩
 refine ALoop.mk (fun n s => ∃ (i : Nat) (ys : List Ent), i ≤ xs.length ∧ n = xs.length - i ∧ ys.length = xs.length ∧ (∀ j : Nat, j < i → ys[j]? = some (markE (k + 5 * j))) ∧ s = S (ys.map Ent.enc) i (k + 5 * i))
  ⟨xs.length, _, Weak.nrm [true, true, false, false, false, true] [(0, 0)] rfl rfl rfl, 0, xs, Nat.zero_le _, rfl, rfl, by intro j hj; omega, rfl⟩ ?_
 rintro n s ⟨i, ys, hi, rfl, hl, hm, rfl⟩
 refine Split.mk fun t ht => ?_
 rw [List.length_map] at ht
 cases t
 ·have hia : i = xs.length := by simp at ht; omega
  subst hia
  refine Need.mk ⟨[], _, .same, rfl, ?_⟩ trivial
  rw [← markL_of hl hm]; rfl
 ·have hia : i < ys.length := by simpa using ht
  have hlen : i < (ys.map Ent.enc).length := by rw [List.length_map]; exact hia
  refine ACall.mk _ _ (laws_markText (k + 5 * i) (by omega)) ?_
  refine Need.mk ⟨by omega, by simpa using hia⟩ ?_
  refine Row.mk _ (map_get _ ys i hia) ?_
  refine Num.mk _ (wrapS (by omega)) ?_
  refine Need.mk ⟨by omega, by simpa using hia⟩ ?_
  refine Row.mk _ (set_get _ _ _ hlen) ?_
  refine Num.mk _ (wrapS (by omega)) ?_
  refine Need.mk ⟨by omega, by simpa using hia⟩ ?_
  refine Row.mk _ (set_get _ _ _ (by simpa using hia)) ?_
  refine Num.mk _ (wrapS (by omega)) ?_
  refine ACall.mk _ _ (laws_markText (k + 5 * i + 1 + 1 + 1) (by omega)) ?_
  refine Need.mk ⟨by omega, by simpa using hia⟩ ?_
  refine Row.mk _ (set_get _ _ _ (by simpa using hia)) ?_
  refine Num.mk _ (wrapS (by omega)) ?_
  refine Need.mk ⟨by omega, by simpa using hia⟩ ?_
  refine Row.mk _ (set_get _ _ _ (by simpa using hia)) ?_
  refine Num.mk _ (wrapS (by omega)) ?_
  refine Num.mk _ (wrapS (by omega)) ?_
  refine ⟨xs.length - (i + 1), _, by omega, Weak.nrm [true, true, false, false, false, true] [(0, 0)] rfl rfl rfl, i + 1, ys.set i (markE (k + 5 * i)), by omega, rfl, by simpa using hl, fun j hj => ?_, ?_⟩
  ·by_cases hji : j = i
   ·subst hji; exact List.getElem?_set_self hia
   ·rw [List.getElem?_set_ne (Ne.symm hji)]; exact hm j (by omega)
  ·refine Eq.trans (b := S ((((((ys.map Ent.enc).set i _).set i _).set i _).set i _).set i (markE (k + 5 * i)).enc) (i + 1) (k + 5 * i + 1 + 1 + 1 + 1 + 1)) rfl ?_
   simp only [List.set_set, List.map_set]
   rfl
theorem laws_markRunS (xs : List Rn) (k : Nat) (hk : posR k xs ≤ 4611686018427387904) : AFn Tryz.prog 128 [.one (.ref 0 0 (.cell 0)), av (.int .i64 k)] [[.us 68 (xs.map encO)]] (.one (vi (posR k xs : Nat))) [[.us 68 ((mkRs k xs).map encO)]] := by
 refine AFn.introX (E := En 1 (md1 [24])) (en_ok 1 _) Tryz.func128 rfl rfl rfl fun _ _ => ?_
 let S : List (List C) → Nat → Nat → St := fun rows i m => ⟨some (.one (.ref 0 0 (.cell 0))) :: some (av (.int .i64 m)) :: none :: none :: none :: some (av (.int .i64 i)) :: List.replicate 21 none, ⟨0, 1, some [.us 68 rows]⟩ :: List.replicate 27 absent⟩
 refine ALoop.mk (fun n s => ∃ i : Nat, i ≤ xs.length ∧ n = xs.length - i ∧ s = S ((mkRs k (xs.take i) ++ xs.drop i).map encO) i (posR k (xs.take i)))
  ⟨xs.length, _, Weak.nrm [true, true, false, false, false, true] [(0, 0)] rfl rfl rfl, 0, Nat.zero_le _, rfl, rfl⟩ ?_
 rintro n s ⟨i, hi, rfl, rfl⟩
 have hlen : (mkRs k (xs.take i) ++ xs.drop i).length = xs.length := by rw [List.length_append, mkRs_len, List.length_take, List.length_drop]; omega
 refine Split.mk fun t ht => ?_
 rw [List.length_map, hlen] at ht
 cases t
 ·have hia : i = xs.length := by simp at ht; omega
  subst hia
  refine Need.mk ⟨[], _, .same, ?_, ?_⟩ trivial
  ·rw [List.take_length]; rfl
  ·rw [List.take_length, List.drop_length, List.append_nil]; rfl
 ·have hia : i < xs.length := by simpa using ht
  have hget : (mkRs k (xs.take i) ++ xs.drop i)[i]? = some xs[i] := by
   rw [List.getElem?_append_right (by rw [mkRs_len, List.length_take]; omega), mkRs_len, List.length_take, Nat.min_eq_left (by omega), Nat.sub_self, List.getElem?_drop, Nat.add_zero, List.getElem?_eq_getElem hia]
  have hpos : posR k (xs.take (i + 1)) = posR k (xs.take i) + 5 * xs[i].ents.length + 1 := by rw [List.take_succ_eq_append_getElem hia, posR_app]; rfl
  have hle : posR k (xs.take (i + 1)) ≤ 4611686018427387904 := by
   have : posR k xs = posR (posR k (xs.take (i + 1))) (xs.drop (i + 1)) := by rw [← posR_app, List.take_append_drop]
   have h2 := posR_le (xs.drop (i + 1)) (posR k (xs.take (i + 1)))
   omega
  have hrow : ((mkRs k (xs.take i) ++ xs.drop i).map encO)[i]? = some (encO xs[i]) := by rw [List.getElem?_map, hget]; rfl
  have hlt : i < ((mkRs k (xs.take i) ++ xs.drop i).map encO).length := by rw [List.length_map, hlen]; exact hia
  have hxl := posR_len xs k
  refine Need.mk ⟨by omega, by omega⟩ ?_
  refine Row.mk _ hrow ?_
  refine Row.mk _ hrow ?_
  refine ACall.mk _ _ (laws_markEntryS xs[i].ents (posR k (xs.take i)) (by omega)) ?_
  refine Row.mk _ hrow ?_
  refine Need.mk ⟨by omega, by rw [List.length_set]; omega⟩ ?_
  refine Row.mk _ (set_get _ _ _ hlt) ?_
  refine Num.mk _ (wrapS (by omega)) ?_
  refine Num.mk _ (wrapS (by omega)) ?_
  refine ⟨xs.length - (i + 1), _, by omega, Weak.nrm [true, true, false, false, false, true] [(0, 0)] rfl rfl rfl, i + 1, by omega, rfl, ?_⟩
  refine Eq.trans (b := S ((((mkRs k (xs.take i) ++ xs.drop i).map encO).set i _).set i (encO (mkR (posR k (xs.take i)) xs[i]))) (i + 1) (posR k (xs.take i) + 5 * xs[i].ents.length + 1)) rfl ?_
  rw [hpos, List.set_set, ← List.map_set, mkRs_step hia]
theorem laws_markRunSS (xs : List (List Rn)) (k : Nat) (hk : posL k xs ≤ 4611686018427387904) : AFn Tryz.prog 70 [.one (.ref 0 0 (.cell 0)), av (.int .i64 k)] [[.us 66 (xs.map encLO)]] (.one (vi (posL k xs : Nat))) [[.us 66 ((mkLs k xs).map encLO)]] := by
 refine AFn.introX (E := En 1 (md1 [128])) (en_ok 1 _) Tryz.func70 rfl rfl rfl fun _ hs => ?_
 have hxl := Small.lenU (hs _ (List.mem_cons_self ..) _ (List.mem_cons_self ..))
 rw [List.length_map] at hxl
 let S : List (List C) → Nat → Nat → St := fun rows i m => ⟨some (.one (.ref 0 0 (.cell 0))) :: some (av (.int .i64 m)) :: none :: none :: none :: some (av (.int .i64 i)) :: List.replicate 13 none, ⟨0, 1, some [.us 66 rows]⟩ :: List.replicate 19 absent⟩
 refine ALoop.mk (fun n s => ∃ i : Nat, i ≤ xs.length ∧ n = xs.length - i ∧ s = S ((mkLs k (xs.take i) ++ xs.drop i).map encLO) i (posL k (xs.take i)))
  ⟨xs.length, _, Weak.nrm [true, true, false, false, false, true] [(0, 0)] rfl rfl rfl, 0, Nat.zero_le _, rfl, rfl⟩ ?_
 rintro n s ⟨i, hi, rfl, rfl⟩
 have hlen : (mkLs k (xs.take i) ++ xs.drop i).length = xs.length := by rw [List.length_append, mkLs_len, List.length_take, List.length_drop]; omega
 refine Split.mk fun t ht => ?_
 rw [List.length_map, hlen] at ht
 cases t
 ·have hia : i = xs.length := by simp at ht; omega
  subst hia
  refine Need.mk ⟨[], _, .same, ?_, ?_⟩ trivial
  ·rw [List.take_length]; rfl
  ·rw [List.take_length, List.drop_length, List.append_nil]; rfl
 ·have hia : i < xs.length := by simpa using ht
  have hget : (mkLs k (xs.take i) ++ xs.drop i)[i]? = some xs[i] := by
   rw [List.getElem?_append_right (by rw [mkLs_len, List.length_take]; omega), mkLs_len, List.length_take, Nat.min_eq_left (by omega), Nat.sub_self, List.getElem?_drop, Nat.add_zero, List.getElem?_eq_getElem hia]
  have hpos : posL k (xs.take (i + 1)) = posR (posL k (xs.take i)) xs[i] := by rw [List.take_succ_eq_append_getElem hia, posL_app]; rfl
  have hle : posL k (xs.take (i + 1)) ≤ 4611686018427387904 := by
   have : posL k xs = posL (posL k (xs.take (i + 1))) (xs.drop (i + 1)) := by rw [← posL_app, List.take_append_drop]
   have h2 := posL_le (xs.drop (i + 1)) (posL k (xs.take (i + 1)))
   omega
  have hrow : ((mkLs k (xs.take i) ++ xs.drop i).map encLO)[i]? = some (encLO xs[i]) := by rw [List.getElem?_map, hget]; rfl
  have hlt : i < ((mkLs k (xs.take i) ++ xs.drop i).map encLO).length := by rw [List.length_map, hlen]; exact hia
  refine Need.mk ⟨by omega, by omega⟩ ?_
  refine Row.mk _ hrow ?_
  refine Row.mk _ hrow ?_
  refine ACall.mk _ _ (laws_markRunS xs[i] (posL k (xs.take i)) (by omega)) ?_
  refine Row.mk _ hrow ?_
  refine Num.mk _ (wrapS (by omega)) ?_
  refine ⟨xs.length - (i + 1), _, by omega, Weak.nrm [true, true, false, false, false, true] [(0, 0)] rfl rfl rfl, i + 1, by omega, rfl, ?_⟩
  refine Eq.trans (b := S (((mkLs k (xs.take i) ++ xs.drop i).map encLO).set i (encLO (mkRs (posL k (xs.take i)) xs[i]))) (i + 1) (posR (posL k (xs.take i)) xs[i])) rfl ?_
  rw [hpos, ← List.map_set, mkLs_step hia]
theorem laws_markIntS (xs : List Int) (k : Nat) (hk : k + xs.length ≤ 4611686018427387904) : AFn Tryz.prog 71 [.one (.ref 0 0 (.cell 0)), av (.int .i64 k)] [[.us 3 (xs.map encI)]] (.one (vi ((k + xs.length : Nat) : Int))) [[.us 3 ((markI k xs.length).map encI)]] := by
 refine AFn.introX (E := En 1 md0) (en_ok 1 md0) Tryz.func71 rfl rfl rfl fun _ _ => ?_
 let S : List (List C) → Nat → Nat → St := fun rows i m => ⟨some (.one (.ref 0 0 (.cell 0))) :: some (av (.int .i64 m)) :: none :: none :: none :: some (av (.int .i64 i)) :: List.replicate 13 none, ⟨0, 1, some [.us 3 rows]⟩ :: List.replicate 19 absent⟩
 refine ALoop.mk (fun n s => ∃ (i : Nat) (ys : List Int), i ≤ xs.length ∧ n = xs.length - i ∧ ys.length = xs.length ∧ (∀ j : Nat, j < i → ys[j]? = some ((k + j : Nat) : Int)) ∧ s = S (ys.map encI) i (k + i))
  ⟨xs.length, _, Weak.nrm [true, true, false, false, false, true] [(0, 0)] rfl rfl rfl, 0, xs, Nat.zero_le _, rfl, rfl, by intro j hj; omega, rfl⟩ ?_
 rintro n s ⟨i, ys, hi, rfl, hl, hm, rfl⟩
 refine Split.mk fun t ht => ?_
 rw [List.length_map] at ht
 cases t
 ·have hia : i = xs.length := by simp at ht; omega
  subst hia
  refine Need.mk ⟨[], _, .same, rfl, ?_⟩ trivial
  rw [← markI_of hl hm]; rfl
 ·have hia : i < ys.length := by simpa using ht
  refine Need.mk ⟨by omega, by simpa using hia⟩ ?_
  refine Row.mk _ (map_get _ ys i hia) ?_
  refine Num.mk _ (wrapS (by omega)) ?_
  refine Num.mk _ (wrapS (by omega)) ?_
  refine ⟨xs.length - (i + 1), _, by omega, Weak.nrm [true, true, false, false, false, true] [(0, 0)] rfl rfl rfl, i + 1, ys.set i ((k + i : Nat) : Int), by omega, rfl, by simpa using hl, fun j hj => ?_, ?_⟩
  ·by_cases hji : j = i
   ·subst hji; exact List.getElem?_set_self hia
   ·rw [List.getElem?_set_ne (Ne.symm hji)]; exact hm j (by omega)
  ·refine Eq.trans (b := S ((ys.map encI).set i (encI ((k + i : Nat) : Int))) (i + 1) (k + i + 1)) rfl ?_
   simp only [List.map_set]
   rfl
def posT (k : Nat) (t : Tre) : Nat := posL (k + 5 * t.mem.length) t.levels + t.snaps.length
def mkT (k : Nat) (t : Tre) : Tre := ⟨t.seq, markL k t.mem.length, mkLs (k + 5 * t.mem.length) t.levels, markI (posL (k + 5 * t.mem.length) t.levels) t.snaps.length⟩
def argT (t : Tre) : AV := .agg [.c (vi t.seq), .ref 0 0 (.cell 0), .ref 1 0 (.cell 0), .ref 2 0 (.cell 0)]
def obsT (t : Tre) : List (List C) := [[.us 54 (t.mem.map Ent.enc)], [.us 66 (t.levels.map encLO)], [.us 3 (t.snaps.map encI)]]
theorem laws_markTree (t : Tre) (k : Nat) (hk : posT k t ≤ 4611686018427387904) : AFn Tryz.prog 23 [argT t, av (.int .i64 k)] (obsT t) (.one (vi (posT k t : Nat))) (obsT (mkT k t)) := by
 refine AFn.introX (E := En 3 (md1 [24, 70, 71]) [2]) (en_ok 3 _ _) Tryz.func23 rfl rfl rfl fun _ hs => ?_
 have h1 := posL_le t.levels (k + 5 * t.mem.length)
 unfold posT at hk
 refine ACall.mk _ _ (laws_markEntryS t.mem k (by omega)) ?_
 refine ACall.mk _ _ (laws_markRunSS t.levels (k + 5 * t.mem.length) (by omega)) ?_
 refine ACall.mk _ _ (laws_markIntS t.snaps (posL (k + 5 * t.mem.length) t.levels) (by omega)) ?_
 exact Need.mk ⟨[], _, .same, rfl, rfl⟩ trivial
theorem spec_l4RunO' (xs : List Ent) (hx : OkE xs) (hl : xs.length ≤ 1099511627776) :
  AFn Tryz.prog 130 [.one (.ref 0 0 (.cell 0))] [[.us 54 (xs.map Ent.enc)]] (.agg [.us 54 (xs.map Ent.enc), vi (rmask xs : Nat)]) [[.x]] := by
 refine AFn.introX (E := En 1 md0) (en_ok 1 _) Tryz.func130 rfl rfl rfl fun _ _ => ?_
 refine Fz.mk _ (frzE xs) ?_
 refine ACall.mk _ _ (spec_l4Mask xs hx hl) ?_
 refine Need.mk ⟨closed_v, no_objs⟩ ?_
 exact Need.mk ⟨[], _, .same, rfl, rfl⟩ trivial
theorem Tre.small_ok {t : Tre} (h : treeOk t = true) : t.Small := by
 obtain ⟨l0, l1, l2, he, h3⟩ := treeOk_levels h
 obtain ⟨⟨_, _, a3, _, a5⟩, ⟨a6, a7, a8⟩, _, _⟩ := treeP.1 h3
 refine ⟨by omega, by rw [he]; simp, fun l hl => ?_, by have := (snaps_iff.1 a5).1; omega⟩
 rw [he] at hl
 have key : ∀ {l : List Rn} {n : Nat} {b : Bool}, levB l n b = true → n ≤ 8 → l.length ≤ 1048576 ∧ ∀ r ∈ l, r.ents.length ≤ 1048576 := fun h hn => ⟨by have := (levB_ok h).1; omega, fun r hr => by have := (runOk_len ((levB_ok h).2 r hr)).2.1; omega⟩
 rcases List.mem_cons.1 hl with rfl | hl
 ·exact key a6 (by omega)
 ·rcases List.mem_cons.1 hl with rfl | hl
  ·exact key a7 (by omega)
  ·rw [List.mem_singleton.1 hl]; exact key a8 (by omega)
theorem posR_lin {b : Nat} : ∀ (l : List Rn) (k : Nat), (∀ r ∈ l, r.ents.length ≤ b) → posR k l ≤ k + (5 * b + 1) * l.length := by
 intro l
 induction l with
 | nil => intro k _; exact Nat.le_refl _
 | cons r l ih =>
  intro k h
  have h1 := ih (stepR k r) fun r hr => h r (List.mem_cons_of_mem _ hr)
  have h2 := h r (List.mem_cons_self ..)
  have h3 : stepR k r ≤ k + (5 * b + 1) := by unfold stepR; omega
  show posR (stepR k r) l ≤ _
  rw [List.length_cons, Nat.mul_add]
  omega
theorem posT_ok {t : Tre} (h : treeOk t = true) : posT 1 t ≤ 6000000 := by
 obtain ⟨l0, l1, l2, he, h3⟩ := treeOk_levels h
 obtain ⟨⟨_, _, a3, _, a5⟩, ⟨a6, a7, a8⟩, _, _⟩ := treeP.1 h3
 have key : ∀ {l : List Rn} {n : Nat} {b : Bool} (k : Nat), levB l n b = true → n ≤ 8 → posR k l ≤ k + 6008 := fun {l n b} k h hn => by
  have h1 := posR_lin (b := 150) l k fun r hr => (runOk_len ((levB_ok h).2 r hr)).2.1
  have h2 := (levB_ok h).1
  have h3 : (5 * 150 + 1) * l.length ≤ (5 * 150 + 1) * 8 := Nat.mul_le_mul_left _ (by omega)
  omega
 have h5 := (snaps_iff.1 a5).1
 unfold posT
 rw [he]
 show posR (posR (posR (1 + 5 * t.mem.length) l0) l1) l2 + t.snaps.length ≤ _
 have k0 := key (1 + 5 * t.mem.length) a6 (by omega)
 have k1 := key (posR (1 + 5 * t.mem.length) l0) a7 (by omega)
 have k2 := key (posR (posR (1 + 5 * t.mem.length) l0) l1) a8 (by omega)
 omega
end Go.Proofs.YtcnongahanmclaaGreat
