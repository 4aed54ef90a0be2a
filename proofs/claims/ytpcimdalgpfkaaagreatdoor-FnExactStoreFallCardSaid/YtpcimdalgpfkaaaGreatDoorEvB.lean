/-
  An abstract machine, sound for the model: part 2.
-/
import Derived.Test.YtpcimdalgpfkaaaGreatDoorEvA
import Derived.Laws.MakeOwn
import Derived.Laws.OwnMore
import Derived.Laws.BytesArg
import Derived.MapKept
import Derived.Orders
import Derived.LoopN
set_option linter.unusedVariables false
set_option linter.unusedSimpArgs false
namespace Ev
open Go
section
variable {E : Env} {x : Cx} {st : St} {a : Act} {w w' : World} {L L' : Nat → Pl} {ow ow' : Own} {rs : List Loc} {d : Delta} {o : Oper} {next : Act → World → Prop} {Q : Exit → Act → World → Prop}
def reHid (hid : Nat) (f : List Nat → Option (List Nat)) (ow : Own) : Own := fun k => match ow k with
 | some (h :: r) => if h = hid then (f r).map (hid :: ·) else some (h :: r)
 | p => p
theorem reHid_other {hid id : Nat} {f : List Nat → Option (List Nat)} {r : List Nat} {k : Nat} (h : ow k = some (id :: r)) (hne : id ≠ hid) : reHid hid f ow k = some (id :: r) := by simp [reHid, h, hne]
theorem reHid_in {hid : Nat} {f : List Nat → Option (List Nat)} {r s : List Nat} {k : Nat} (h : ow k = some (hid :: r)) (hf : f r = some s) : reHid hid f ow k = some (hid :: s) := by simp [reHid, h, hf]
theorem reHid_sub {hid : Nat} {f : List Nat → Option (List Nat)} {k : Nat} {r : List Nat} (h : reHid hid f ow k = some r) : ∃ r', ow k = some r' := by
 cases ho : ow k with
 | none => simp [reHid, ho] at h
 | some r' => exact ⟨r', rfl⟩
theorem reHid_none {hid : Nat} {f : List Nat → Option (List Nat)} {k : Nat} (h : ow k = none) : reHid hid f ow k = none := by simp [reHid, h]
theorem Rel.reHid {hid : Nat} {f : List Nat → Option (List Nat)} (h : Rel E.P x st a w L ow) (hh : st.o[hid]? = none) : Rel E.P x st a w L (reHid hid f ow) ∧ FStep w w (x.F w ow) (x.F w (Ev.reHid hid f ow)) := by
 have hF : FStep w w (x.F w ow) (x.F w (Ev.reHid hid f ow)) := fun k hk => ⟨rfl, FF_grow (Nat.le_refl _) hk (reHid_none (h.F_own hk))⟩
 have hne : ∀ id : Nat, st.o[id]? ≠ none → id ≠ hid := fun id h1 e => h1 (e ▸ hh)
 refine ⟨h.step rfl h.keeps (fun k p hk => by obtain ⟨r', hr'⟩ := reHid_sub hk; exact h.owOk k r' hr') hF (OStep.refl h) (fun id ob cells h1 h2 => (h.objs id ob cells h1 h2).move hF fun k r hk => ⟨rfl, reHid_other hk (hne id (by rw [h1]; simp))⟩) h.kinds, hF⟩
theorem scr_new {st' : St} {dd : Nat} {ob : Ob} {v : Value} {F : Frs} {c : C} (hv : v.oneCell' = true) (ho : st'.o[dd]? = some ob) (hc : ob.cells = some [c]) (hg : ob.g = 0) (hL : L dd = .vals [v]) : SCR E.P w F L st'.o (.ref dd 0 (.cell 0)) v :=
 .ref hv ho hc (by omega) (fun _ e rows _ => by show (L dd).val w 0 = some v; rw [hL]; rfl) (fun l off hl hp => by rw [hL] at hl; injection hl with hl; subst hl; injection hp with hp; subst hp; rfl)
theorem fin_own {pend : List (Nat × Ob)} {e : TypeId} {rows : List (List C)} {kd : Nat} {v : Value} {L2 : Nat → Pl} (hr : Runs E.P st (newOwn E.m o.dst kd e rows pend) rs d) (hl : ∀ p ∈ d.s, p.1 < st.s.length) (hlen : st.s.length = a.tmps.size) (hv : v.oneCell' = true)
  (hrel : ∀ dd ob, o.dst ≠ none → (st.pend pend).o[dd]? = some ob → ob.cells = none → ∃ ow2, Rel E.P x { (st.pend pend) with o := (st.pend pend).o.set dd ⟨0, kd, some [.us e rows]⟩ } a w' (fun k => if k = dd then .vals [v] else L2 k) ow2)
  (keep : ∀ (id : Nat) (ob : Ob), st.o[id]? = some ob → ob.cells = none → (st.pend pend).o[id]? = some ob)
  (hrun : (execOp a.eval o).run E.P w = .ok (.value v) w') (hn : Good E x (st.app d) next) : o.wp E.P a w next Q := by
 refine wp_value hrun ?_
 unfold newOwn at hr
 cases hd : o.dst with
 | none => rw [hd] at hr; cases hr
 | some dd =>
  rw [hd] at hr
  cases hr with
  | obj ho1 h1 =>
   obtain ⟨h2, h3⟩ := isAbsent_runs h1
   cases h3
   have hk := keep (dd + E.m) _ ho1 h2
   obtain ⟨ow2, hR⟩ := hrel (dd + E.m) _ (by rw [hd]; exact fun h => nomatch h) hk h2
   have hdl : dd + E.m < (st.pend pend).o.length := (List.getElem?_eq_some_iff.1 hk).1
   exact hn _ _ _ _ (hR.put (d := dd) (by rw [← hlen]; exact hl (dd, some (.one (.ref (dd + E.m) 0 (.cell 0)))) (by simp)) (.one (scr_new hv (List.getElem?_set_self hdl) rfl rfl (by simp))))
theorem chunks_get : ∀ (n sz : Nat) (cs : List C) (i : Nat) (r : List C), (chunks sz n cs)[i]? = some r → cs.length = n * sz → r.length = sz ∧ i < n ∧ ∀ j c, r[j]? = some c → cs[i * sz + j]? = some c := by
 intro n
 induction n with
 | zero => intro sz cs i r h; simp [chunks] at h
 | succ n ih =>
  intro sz cs i r h hl
  have hl' : cs.length = n * sz + sz := by rw [hl, Nat.add_mul]; omega
  cases i with
  | zero =>
   simp [chunks] at h; subst h
   refine ⟨by simp; omega, by omega, fun j c hj => ?_⟩
   rw [List.getElem?_take] at hj
   split at hj
   ·simpa using hj
   ·cases hj
  | succ i =>
   simp [chunks] at h
   obtain ⟨h1, h2, h3⟩ := ih sz (cs.drop sz) i r h (by simp; omega)
   refine ⟨h1, by omega, fun j c hj => ?_⟩
   have := h3 j c hj
   rw [List.getElem?_drop] at this
   rw [← this]; congr 1; rw [Nat.add_mul]; omega
theorem chunks_length (n sz : Nat) (cs : List C) : (chunks sz n cs).length = n := by
 induction n generalizing cs with
 | zero => rfl
 | succ n ih => simp [chunks, ih]
theorem repl_get {α : Type} : ∀ (n : Nat) (l : List α) (i : Nat), 0 < l.length → i < n * l.length → (repl n l)[i]? = l[i % l.length]? := by
 intro n
 induction n with
 | zero => intro l i _ h; simp at h
 | succ n ih =>
  intro l i hp hi
  simp only [repl]
  by_cases h : i < l.length
  ·rw [List.getElem?_append_left h, Nat.mod_eq_of_lt h]
  ·rw [List.getElem?_append_right (by omega), ih l _ hp (by rw [Nat.add_mul] at hi; omega)]
   have : i = i - l.length + l.length := by omega
   rw [this, Nat.add_sub_cancel, Nat.add_mod_right]
theorem repl_length {α : Type} (n : Nat) (l : List α) : (repl n l).length = n * l.length := by
 induction n with
 | zero => simp [repl]
 | succ n ih => simp [repl, ih, Nat.add_mul]; omega
theorem normCs_get : ∀ (ks : List (Option TypeId)) (cs : List C) (j : Nat) (c : C), (normCs ks cs)[j]? = some c → ∃ c0, cs[j]? = some c0 ∧ (c = c0 ∨ ∃ e, some e ∈ ks ∧ c = normC (some e) c0) := by
 intro ks
 induction ks with
 | nil => intro cs j c h; cases cs <;> exact ⟨c, h, .inl rfl⟩
 | cons k ks ih =>
  intro cs j c h
  cases cs with
  | nil => exact ⟨c, h, .inl rfl⟩
  | cons c1 cs =>
   cases j with
   | zero =>
    simp [normCs] at h
    cases k with
    | none => exact ⟨c1, rfl, .inl (by rw [← h]; rfl)⟩
    | some e => exact ⟨c1, rfl, .inr ⟨e, by simp, h.symm⟩⟩
   | succ j =>
    obtain ⟨c0, h1, h2⟩ := ih cs j c (by simpa [normCs] using h)
    exact ⟨c0, by simpa using h1, h2.imp id fun ⟨e, he, h3⟩ => ⟨e, by simp [he], h3⟩⟩
theorem OC.normCs {P : Program} {F : Frs} {p : List Nat} {ks : List (Option TypeId)} {cs : List C} {j : Nat} {c : C} {v : Value} (h : (normCs ks cs)[j]? = some c) (hk : ∀ e, some e ∈ ks → 0 < P.cellsOf e) (ho : ∀ c0, cs[j]? = some c0 → OC P w F ow p c0 v) : OC P w F ow p c v := by
 obtain ⟨c0, h1, h2⟩ := normCs_get ks cs j c h
 rcases h2 with rfl | ⟨e, he, rfl⟩
 ·exact ho _ h1
 ·exact (ho c0 h1).norm fun e' he' => by injection he' with he'; subst he'; exact hk _ he
theorem ownsRow_new {e : TypeId} {sz n cap : Nat} {cs : Array Value} (hs : cs.size = cap * sz) (hn : n ≤ cap) (hm : cap ≤ maxLen) : (w.alloc (.cells cs e)).ownsRow 0 e sz (.slice (some ⟨w.heap.size, 0, none⟩) n cap) n (cs.toList.take (n * sz)) := by
 refine ⟨?_, .inr ⟨w.heap.size, cap, cs, rfl, Nat.zero_le _, heap_alloc_new w _, hn, hm, hs, rfl⟩⟩
 have : n * sz ≤ cap * sz := Nat.mul_le_mul_right _ hn
 simp; omega
theorem Rel.newBlock {hid dd kd n cap : Nat} {ob : Ob} {e : TypeId} {rows2 : List (List C)} {cs : Array Value} (h : Rel E.P x st a w L ow) (hh : st.o[hid]? = none) (hd : st.o[dd]? = some ob) (hc : ob.cells = none) (hp : 0 < E.P.cellsOf e)
  (hs : cs.size = cap * E.P.cellsOf e) (hn : n ≤ cap) (hm : cap ≤ maxLen) (hl : rows2.length = n) (hsz : ∀ r ∈ rows2, r.length = E.P.cellsOf e)
  (hel : ∀ (i : Nat) (r : List C) (j : Nat) (c : C), rows2[i]? = some r → r[j]? = some c → OC E.P w (x.F w ow) ow [hid, i * E.P.cellsOf e + j + 1] c (cs.getD (i * E.P.cellsOf e + j) undef)) :
  ∃ ow2, Rel E.P x { st with o := st.o.set dd ⟨0, kd, some [.us e rows2]⟩ } a (w.alloc (.cells cs e)) (fun k => if k = dd then .vals [.slice (some ⟨w.heap.size, 0, none⟩) n cap] else L k) ow2 := by
 have hrow := ownsRow_new (w := w) (e := e) hs hn hm
 have := h.rowNew (hid := hid) (d := dd) (g := 0) (kd := kd) (e := e) (rows := []) (rows2 := rows2) (v := .slice none 0 0) (v' := .slice (some ⟨w.heap.size, 0, none⟩) n cap) (inner := []) (news := cs.toList.take (n * E.P.cellsOf e)) hh hd hc hp
  (World.ownsRow_nil w 0 e _) (by simp) (fun b hb => by cases hb) (by simp) hsz (fun i r j c hi hj => ?_) (by simpa [hl] using hrow) (World.grownBy_alloc w _ _) (.inr (.inr rfl))
 ·exact ⟨_, by simpa using this⟩
 ·have hil := (List.getElem?_eq_some_iff.1 hi).1
  have hjl := (List.getElem?_eq_some_iff.1 hj).1
  rw [hsz r (List.mem_of_getElem? hi)] at hjl
  have hlt : i * E.P.cellsOf e + j < n * E.P.cellsOf e := idx_lt (by omega) hjl
  have hv : (cs.toList.take (n * E.P.cellsOf e)).getD (i * E.P.cellsOf e + j) undef = cs.getD (i * E.P.cellsOf e + j) undef := by
   simp [List.getD_eq_getElem?_getD, hlt]
  rw [hv]; exact hel i r j c hi hj
theorem shift_hand {hid : Nat} {cs : List C} {vs : List Value} (h : Rel E.P x st a w L ow) (hh : st.o[hid]? = none) (hH : Hand E.P w (x.F w ow) ow hid cs vs) :
  ∃ ow2, Rel E.P x st a w L ow2 ∧ FStep w w (x.F w ow) (x.F w ow2) ∧ ∀ (k : Nat) (c : C) (v : Value), cs[k]? = some c → vs[k]? = some v → OC E.P w (x.F w ow2) ow2 [hid, k + 1] c v := by
 obtain ⟨h1, h2⟩ := h.reHid (f := fun | m :: r => some ((m + 1) :: r) | [] => none) hh
 exact ⟨_, h1, h2, fun k c v hk hv => (hH.2.1 k c v hk hv).move h2 fun b r hb => ⟨rfl, reHid_in hb rfl⟩⟩
theorem notUs_of {P : Program} {F : Frs} {ob : List Ob} {l : List SC} {vs : List Value} (hvl : vs.length = l.length) (hs : ∀ (i : Nat) (s : SC) (u : Value), l[i]? = some s → vs[i]? = some u → SCR P w F L ob s u) : ∀ c, SC.c c ∈ l → c.isUs = false := fun c hc => by
 obtain ⟨j, hj⟩ := List.mem_iff_getElem?.1 hc
 have hlt := (List.getElem?_eq_some_iff.1 hj).1
 exact (hs j _ _ hj (List.getElem?_eq_getElem (by rw [hvl]; exact hlt))).notUs
theorem madeCells_get {z : Array Value} {n k : Nat} (hz : 0 < z.size) (hk : k < n) : (madeCells z n).getD k undef = z.getD (k % z.size) undef := by
 have hm : k % z.size < z.size := Nat.mod_lt _ hz
 simp [madeCells, hk, hm]
theorem madeCells_repl {z : Array Value} {zs : List Value} {n : Nat} (hz : z.toList = zs) (hp : 0 < zs.length) : madeCells z (n * zs.length) = (repl n zs).toArray := by
 have hzz : z.size = zs.length := by rw [← hz]; simp
 apply Array.ext_getElem?
 intro k
 by_cases hk : k < n * zs.length
 ·have h1 := madeCells_get (z := z) (n := n * zs.length) (by omega) hk
  have h2 := repl_get n zs k hp hk
  have hm : k % zs.length < zs.length := Nat.mod_lt _ hp
  have h3 : (madeCells z (n * zs.length))[k]? = some ((madeCells z (n * zs.length)).getD k undef) := by
   have : k < (madeCells z (n * zs.length)).size := by rw [size_madeCells]; exact hk
   simp [this]
  have h4 : z[k % zs.length]? = zs[k % zs.length]? := by rw [← hz]; simp
  rw [h3, h1, hzz]
  simp only [List.getElem?_toArray]
  rw [h2, ← h4]
  have : k % zs.length < z.size := by omega
  simp [this]
 ·have h1 : (madeCells z (n * zs.length))[k]? = none := Array.getElem?_eq_none (by rw [size_madeCells]; omega)
  have h2 : (repl n zs)[k]? = none := List.getElem?_eq_none (by rw [repl_length]; omega)
  rw [h1]; simp [h2]
theorem sound_buildSlice {t : TypeId} {n : Nat} {ps : Array (Nat × Operand)} (hT : TOk E) (h : Rel E.P x st a w L ow) (ho : o.op = .buildSlice t n ps)
    (hr : Runs E.P st (typ E t fun i => match i.kind with
    | .slice e => elt E e fun ie => bif Nat.ble (n * ie.size) 16777216 then parts E (fieldsOf E i.kind) ps.toList ((repl n ie.zero).map fun z => .c (.v z)) fun l => (bif memD E.fz o.dst then absF l [] [] else absM l [] []) fun cs pend =>
        newOwn E.m o.dst 2 e ((chunks ie.size n cs).map (normCs ie.ck)) pend else .fail
    | _ => .fail) rs d) (hl : ∀ p ∈ d.s, p.1 < st.s.length) (hn : Good E x (st.app d) next) : o.wp E.P a w next Q := by
  obtain ⟨i, hi, _, h0⟩ := typ_runs hT hr
  obtain ⟨dsc, u1, _, _, u4⟩ := hi.under
  split at h0
  · rename_i e hk
    rw [hk] at u4; simp only at u4; subst u4
    obtain ⟨ie, hie, hpp, h1⟩ := elt_runs hT h0
    obtain ⟨hb, h2⟩ := runs_cond h1
    have hb := Nat.le_of_ble_eq_true hb
    obtain ⟨z, hz, hzc⟩ := hie.zero_run (w := w)
    have hpl : ∀ k off m, fieldsOf E i.kind k = some (off, m) → (fun k => some (k * ie.size, ie.size)) k = some (off, m) := by
      intro k off m hh
      rw [hk] at hh
      simp only [fieldsOf] at hh
      split at hh
      · rename_i j hj
        have : ie.size = j.size := by rw [← hie.cells, (hT _ _ hj).1.cells]
        rw [this]; exact hh
      · cases hh
    have hzs : ie.zero.length = ie.size := hie.zlen
    have hzpos : 0 < ie.zero.length := by rw [hzs]; exact hpp
    obtain ⟨l, cells', rs', q1, q2, q3, q4, q5⟩ := parts_sound hpl h ps.toList _ (repl n ie.zero).toArray _ rs h2 (by simp) (zero_scr fun v hv => by
      obtain ⟨k, hk⟩ := List.mem_iff_getElem?.1 hv
      have hkl := (List.getElem?_eq_some_iff.1 hk).1
      rw [repl_length] at hkl
      rw [repl_get _ _ _ hzpos hkl] at hk
      exact hie.zone v (List.mem_of_getElem? hk))
    have hll : l.length = n * ie.size := by rw [q4, List.length_map, repl_length, hzs]
    have q5' : ∀ (i : Nat) (s : SC) (v : Value), l[i]? = some s → cells'.toList[i]? = some v → SCR E.P w (x.F w ow) L st.o s v := fun i s v h1 h2 => q5 i s v h1 (by simpa using h2)
    have habs : ∀ (k : List C → List (Nat × Ob) → M), Runs E.P st ((bif memD E.fz o.dst then absF l [] [] else absM l [] []) k) rs' d → ∃ cs pend' rs2 ow', Runs E.P st (k cs pend') rs2 d ∧ Rel E.P x (st.pend pend') a w L ow' ∧ (∀ p ∈ pend', p.1 < st.o.length) ∧ Hand E.P w (x.F w ow') ow' st.o.length cs ([] ++ cells'.toList) ∧ FStep w w (x.F w ow) (x.F w ow') ∧ OStep E.P w w L L (st.pend []).o (st.pend pend').o ∧
        ∀ (id : Nat) (ob : Ob), (st.pend []).o[id]? = some ob → ob.cells = none → (st.pend pend').o[id]? = some ob := by
      intro k hk
      cases hf : memD E.fz o.dst with
      | true =>
        rw [hf] at hk
        exact absF_sound (hid := st.o.length) l cells'.toList [] [] [] _ rs' ow h hk (by simp) st_len_none (by simpa using q3.symm) q5' (notUs_of (by simpa using q3.symm) q5') Hand.nil
      | false =>
        rw [hf] at hk
        exact absM_sound (hid := st.o.length) l cells'.toList [] [] [] _ rs' ow h hk (by simp) st_len_none (by simpa using q3.symm) q5' (notUs_of (by simpa using q3.symm) q5') Hand.nil
    obtain ⟨cs, pend, rs3, ow1, p1, p2, p3, p4, p5, p6, p7⟩ := habs _ q1
    have hcsl : cs.length = n * ie.size := by have := p4.1; simp at this; omega
    obtain ⟨ow2, r1, r2, r3⟩ := shift_hand p2 (pend_none st_len_none) p4
    have hcl : ie.size = E.P.cellsOf e := hie.cells.symm
    refine fin_own (L2 := L) (v := .slice (some ⟨w.heap.size, 0, none⟩) n n) (w' := w.alloc (.cells cells' e)) p1 hl h.len rfl (fun dd ob hd hob hoc => ?_) (fun id ob h1 h2 => p7 id ob h1 h2) ?_ hn
    · have hsize : cells'.size = n * E.P.cellsOf e := by rw [← q3, hll, hcl]
      refine r1.newBlock (hid := st.o.length) (kd := 2) (pend_none st_len_none) hob hoc (by rw [← hcl]; exact hpp) hsize (Nat.le_refl _) (by simp [maxLen]; have := hpp; have : n ≤ n * ie.size := Nat.le_mul_of_pos_right n this; omega) (by simp [chunks_length]) (fun r hr => ?_) (fun i r j c hi hj => ?_)
      · obtain ⟨r0, hr0, rfl⟩ := List.mem_map.1 hr
        obtain ⟨k, hk⟩ := List.mem_iff_getElem?.1 hr0
        rw [normCs_length, (chunks_get n ie.size cs k r0 hk hcsl).1, hcl]
      · rw [List.getElem?_map] at hi
        cases hk : (chunks ie.size n cs)[i]? with
        | none => rw [hk] at hi; cases hi
        | some r0 =>
          rw [hk] at hi; simp at hi; subst hi
          obtain ⟨g1, g2, g3⟩ := chunks_get n ie.size cs i r0 hk hcsl
          refine OC.normCs hj hie.ckOk fun c0 hc0 => ?_
          have hc1 := g3 j c0 hc0
          have hlt : i * ie.size + j < cs.length := (List.getElem?_eq_some_iff.1 hc1).1
          have hv : cells'.toList[i * ie.size + j]? = some (cells'.getD (i * ie.size + j) undef) := by
            have : i * ie.size + j < cells'.size := by rw [← q3]; omega
            simp [this]
          rw [← hcl]
          exact r3 _ c0 _ hc1 (by simpa using hv)
    · have hq : Instr.fill (fun k => some (k * ie.size, ie.size)) (repl n ie.zero).toArray (ps.map fun (i, y) => (i, a.eval y)).toList = some cells' := by rw [Array.toList_map]; exact q2
      have hzero : ((Array.range (n * ie.size)).map (z.cells[· % z.cells.size]!)) = (repl n ie.zero).toArray := by
        have := madeCells_repl (n := n) hzc hzpos
        rw [hzs] at this; exact this
      have hb2 : ¬ (2 ^ 24 < n * ie.size) := by omega
      have hrun : (Instr.buildSlice t n (ps.map fun (i, y) => (i, a.eval y))).run E.P w = .ok (.slice (some ⟨w.heap.size, 0, none⟩) n n) (w.alloc (.cells cells' e)) := by
        by_cases hn0 : n * ie.size = 0
        · have hz0 : (repl n ie.zero).toArray = #[] := by rw [← Array.toList_inj]; exact List.eq_nil_of_length_eq_zero (by simp [repl_length, hzs, hn0])
          rw [hz0] at hq
          simp only [Instr.buildSlice, Sem.run_bind, run_underlying u1, Result.andThen_ok, sizeOf_run hie, hn0]
          have hq' : Instr.fill (fun i => some (i * ie.size, ie.size)) #[] (List.map (fun p => (p.1, a.eval p.2)) ps.toList) = some cells' := by rw [hz0] at q2; exact q2
          simp [hq', newRow, Array.range_zero']
        · simp only [Instr.buildSlice, Sem.run_bind, run_underlying u1, Result.andThen_ok, sizeOf_run hie]
          simp only [gt_iff_lt, hb2, if_false, hn0, Sem.run_bind, hz, Result.andThen_ok, Sem.run_pure, hzero, hq]
          simp [newRow]
      simp only [execOp, ho, Sem.run_bind, hrun, Result.andThen_ok, Sem.run_pure]
  · cases h0
end
end Ev

namespace Ev
open Go
section
variable {E : Env} {x : Cx} {st : St} {a : Act} {w w' : World} {L L' : Nat → Pl} {ow ow' : Own} {rs : List Loc} {d : Delta} {o : Oper} {next : Act → World → Prop} {Q : Exit → Act → World → Prop}
theorem sound_makeSlice {t : TypeId} {y z : Operand} (hT : TOk E) (h : Rel E.P x st a w L ow) (ho : o.op = .makeSlice t y z)
  (hr : Runs E.P st (typ E t fun i => match i.kind with
  | .slice e => elt E e fun ie => opnd y fun a => opnd z fun b => asInt a fun _ n => asInt b fun _ m => .need (0 ≤ n ∧ n ≤ m ∧ (ie.bytes : Int) * m ≤ 281474976710656 ∧ m ≤ 9223372036854775807) (newOwn E.m o.dst 1 e (List.replicate n.toNat (zeroC ie)) [])
  | _ => .fail) rs d) (hl : ∀ p ∈ d.s, p.1 < st.s.length) (hn : Good E x (st.app d) next) : o.wp E.P a w next Q := by
 obtain ⟨i, hi, _, h0⟩ := typ_runs hT hr
 obtain ⟨dsc, u1, _, _, u4⟩ := hi.under
 split at h0
 ·rename_i e hk
  rw [hk] at u4; simp only at u4; subst u4
  obtain ⟨ie, hie, hpp, h1⟩ := elt_runs hT h0
  obtain ⟨b, rs1, h2, h3⟩ := opnd_runs h h1
  obtain ⟨c, rs2, h4, h5⟩ := opnd_runs h h2
  obtain ⟨k1, n, hn1, rfl, h6⟩ := asInt_runs h4 h3
  obtain ⟨k2, m, hm1, rfl, h7⟩ := asInt_runs h6 h5
  cases h7 with
  | need hb h8 =>
   obtain ⟨b0, b1, b2, b3⟩ := hb
   obtain ⟨inf, zv, g1, g2, g3, g4, g5, g6⟩ := hie.info
   have hrun := run_make (P := E.P) w t e inf zv u1 g1 g4 k1 k2 n m b0 b1 (by rw [g3]; exact b2) b3
   rw [g2] at hrun
   have hcl : ie.size = E.P.cellsOf e := hie.cells.symm
   have hzz : zv.cells.size = ie.size := by rw [← hie.zlen, ← g5]; simp
   have hzpos : 0 < zv.cells.size := by rw [hzz]; exact hpp
   have hmm : m.toNat ≤ maxLen := by simp only [maxLen]; omega
   refine fin_own (L2 := L) (pend := []) h8 hl h.len rfl (w' := w.alloc (.cells (madeCells zv.cells (m.toNat * ie.size)) e)) (v := .slice (some ⟨w.heap.size, 0, none⟩) n.toNat m.toNat) (fun dd ob hd hob hoc => ?_) (fun id ob h1 _ => h1) (by simp only [execOp, ho, Sem.run_bind, hn1, hm1, hrun, Result.andThen_ok, Sem.run_pure]) hn
   refine h.newBlock (hid := st.o.length) (kd := 1) st_len_none hob hoc (by rw [← hcl]; exact hpp) (by rw [size_madeCells, hcl]) (by omega) hmm (by simp) (fun r hr => ?_) (fun i r j c hi hj => ?_)
   ·obtain ⟨_, rfl⟩ := List.mem_replicate.1 hr
    rw [zeroC, normCs_length, List.length_map, hie.zlen, hcl]
   ·have hil := (List.getElem?_eq_some_iff.1 hi).1
    obtain ⟨_, rfl⟩ := List.mem_replicate.1 (List.mem_of_getElem? hi)
    have hjl := (List.getElem?_eq_some_iff.1 hj).1
    rw [zeroC, normCs_length, List.length_map, hie.zlen] at hjl
    simp at hil
    have hlt : i * ie.size + j < m.toNat * ie.size := idx_lt (by omega) hjl
    rw [← hcl, madeCells_get hzpos hlt]
    have hmod : (i * ie.size + j) % zv.cells.size = j := by rw [hzz, Nat.mul_comm, Nat.mul_add_mod, Nat.mod_eq_of_lt hjl]
    rw [hmod]
    refine OC.normCs hj hie.ckOk fun c0 hc0 => ?_
    rw [List.getElem?_map] at hc0
    cases hz0 : ie.zero[j]? with
    | none => rw [hz0] at hc0; cases hc0
    | some v =>
     rw [hz0] at hc0; simp at hc0; subst hc0
     have : zv.cells.getD j undef = v := by
      have : zv.cells[j]? = some v := by rw [← hz0, ← g5]; simp
      simp [this]
     rw [this]
     exact .v (hie.zone v (List.mem_of_getElem? hz0))
 ·cases h0
structure AppSrc (P : Program) (w : World) (F : Frs) (ow : Own) (hid : Nat) (e : TypeId) (rows2 : List (List C)) (v : Value) (news : List Value) : Prop where
 val : ((∃ cap, v = .slice none 0 cap) ∧ news = []) ∨ ∃ ad cap, v = .slice (some ad) rows2.length cap ∧ ∀ j u, news[j]? = some u → w.cell? (ad.add j) = some u
 len : news.length = rows2.length * P.cellsOf e
 rows : ∀ r ∈ rows2, r.length = P.cellsOf e
 el : ∀ (i : Nat) (r : List C) (j : Nat) (c : C), rows2[i]? = some r → r[j]? = some c → OC P w F ow [hid, i * P.cellsOf e + j + 1] c (news.getD (i * P.cellsOf e + j) undef)
theorem plain_oc {P : Program} {F : Frs} {c : C} {v : Value} (h : FR w F c v) (q : List Nat) : OC P w F ow q c v := by
 cases h with
 | v h => exact .v h
 | x h => exact .x h
 | sl val h1 h2 h3 h4 h5 h6 => exact .sl (.sl val h1 h2 h3 h4 h5 h6)
 | ex h => exact .ex h
theorem AppSrc.move {P : Program} {F F' : Frs} {hid : Nat} {e : TypeId} {rows2 : List (List C)} {v : Value} {news : List Value} (h : AppSrc P w F ow hid e rows2 v news) (hF : ∀ k, F k → F' k) (hO : ∀ k m s, ow k = some (hid :: (m + 1) :: s) → ow' k = some (hid :: (m + 1) :: s)) : AppSrc P w F' ow' hid e rows2 v news :=
 ⟨h.val, h.len, h.rows, fun i r j c hi hj => (h.el i r j c hi hj).move (fun k hk => ⟨rfl, hF k hk⟩) fun k s hk => ⟨rfl, hO k _ s hk⟩⟩
theorem src_plain {P : Program} {F : Frs} {q : List Nat} {hid : Nat} {e : TypeId} {rows : List (List C)} {v : Value} {lo n : Nat} (h : OC P w F ow q (.us e rows) v) (hp : Plain rows) (hn : lo + n ≤ rows.length) :
  ∃ news, AppSrc P w F ow hid e ((rows.drop lo).take n) (resliced v lo n (P.cellsOf e)) news := by
 cases h with
 | @us _ _ _ _ inner hown hpos hsz how ih =>
  have hlen2 : ((rows.drop lo).take n).length = n := by simp; omega
  have get : ∀ i r, ((rows.drop lo).take n)[i]? = some r → rows[lo + i]? = some r ∧ i < n := fun i r hi => by
   rw [List.getElem?_take] at hi
   split at hi
   ·rw [List.getElem?_drop] at hi; exact ⟨hi, by assumption⟩
   ·cases hi
  refine ⟨(inner.drop (lo * P.cellsOf e)).take (n * P.cellsOf e), ?_, ?_, fun r hr => hsz r (List.mem_of_mem_drop (List.mem_of_mem_take hr)), fun i r j c hi hj => ?_⟩
  ·rcases hown.2 with ⟨rfl, h0⟩ | ⟨g, cap, cur, rfl, _, hg, hc, hm, hs, ht⟩
   ·left
    have hn0 : n = 0 ∧ lo = 0 := by omega
    exact ⟨⟨0, by simp [resliced, hn0.1, hn0.2]⟩, by simp [hn0.1]⟩
   ·by_cases hlo : cap = lo
    ·right
     refine ⟨⟨g, 0, none⟩, cap - lo, by simp [resliced, hlo, hlen2], fun j u hj => ?_⟩
     have hn0 : n = 0 := by omega
     simp [hn0] at hj
    ·right
     refine ⟨⟨g, lo * P.cellsOf e, none⟩, cap - lo, by simp [resliced, hlo, hlen2, addr_add], fun j u hj => ?_⟩
     rw [List.getElem?_take] at hj
     split at hj
     ·rename_i hjl
      rw [List.getElem?_drop] at hj
      rw [addr_add, cell_of_row w g _ cur e (0, 0) hg]
      rw [← ht, List.getElem?_take] at hj
      split at hj
      ·simpa using hj
      ·cases hj
     ·cases hj
  ·have : inner.length = rows.length * P.cellsOf e := hown.1
   rw [List.length_take, List.length_drop, this, hlen2, ← Nat.sub_mul]
   exact Nat.min_eq_left (Nat.mul_le_mul_right _ (by omega))
  ·obtain ⟨hi', hin⟩ := get i r hi
   have hjl := (List.getElem?_eq_some_iff.1 hj).1
   rw [hsz r (List.mem_of_getElem? hi')] at hjl
   have hoc := ih (lo + i) r j c hi' hj
   have hpl : c.isUs = false := by
    have := hp r (List.mem_of_getElem? hi') c (List.mem_of_getElem? hj)
    cases c <;> first | rfl | exact this.elim
   have hlt : i * P.cellsOf e + j < n * P.cellsOf e := idx_lt hin hjl
   have hv : ((inner.drop (lo * P.cellsOf e)).take (n * P.cellsOf e)).getD (i * P.cellsOf e + j) undef = inner.getD ((lo + i) * P.cellsOf e + j) undef := by
    simp only [List.getD_eq_getElem?_getD, List.getElem?_take, hlt, if_true, List.getElem?_drop]
    congr 2; rw [Nat.add_mul]; omega
   rw [hv]
   exact plain_oc (hoc.toFR hpl) _
theorem resliced_all {v : Value} {aa : Option Addr} {n cap sz : Nat} (hv : v = .slice aa n cap) (hs : ∀ ad, aa = some ad → ad.spot = none) : resliced v 0 n sz = v := by
 subst hv
 cases aa with
 | none => simp [resliced]
 | some ad =>
  obtain ⟨b, o, s⟩ := ad
  have := hs _ rfl
  simp only at this; subst this
  simp [resliced, addr_add]
theorem own_spot {P : Program} {F : Frs} {q : List Nat} {e : TypeId} {rows : List (List C)} {v : Value} (h : OC P w F ow q (.us e rows) v) : ∃ aa cap, v = .slice aa rows.length cap ∧ ∀ ad, aa = some ad → ad.spot = none := by
  cases h with
  | us hown => rcases hown.2 with ⟨rfl, hn⟩ | ⟨g, cap, cur, rfl, _⟩
               · exact ⟨none, 0, by rw [hn], by simp⟩
               · exact ⟨_, cap, rfl, by simp⟩
theorem appSrc_sound {hid : Nat} {e : TypeId} {ie : TI} {b : AV} {v : Value} {k : List (List C) → List (Nat × Ob) → M} (hie : OkTI E.P e ie) (hpp : 0 < ie.size) (h : Rel E.P x st a w L ow) (hh : st.o[hid]? = none) (hv : AVR E.P w (x.F w ow) L st.o b v) (hr : Runs E.P st (appSrc e ie b k) rs d) :
  ∃ rows2 pend rs' ow2 news, Runs E.P st (k rows2 pend) rs' d ∧ Rel E.P x (st.pend pend) a w L ow2 ∧ (∀ p ∈ pend, p.1 < st.o.length) ∧ AppSrc E.P w (x.F w ow2) ow2 hid e rows2 v news ∧ FStep w w (x.F w ow) (x.F w ow2) ∧ OStep E.P w w L L st.o (st.pend pend).o ∧
   ∀ (id : Nat) (ob : Ob), st.o[id]? = some ob → ob.cells = none → (st.pend pend).o[id]? = some ob := by
 unfold appSrc at hr
 split at hr
 ·rename_i rows
  cases hr with
  | need hp hr =>
   cases hv with
   | one hs => cases hs with
    | c hf => cases hf with
     | @sl _ aa m cap sz val q1 q2 q3 q4 q5 q6 =>
      have hcl := hie.cells
      by_cases hm : rows = []
      ·subst hm
       have hm0 : m = 0 := by simpa using q1.symm
       subst hm0
       cases aa with
       | none =>
        exact ⟨[], [], rs, ow, [], hr, h, by simp, ⟨.inl ⟨⟨cap, rfl⟩, rfl⟩, by simp, by simp, by simp⟩, FStep.refl, OStep.refl h, fun _ _ hh _ => hh⟩
       | some ad =>
        exact ⟨[], [], rs, ow, [], hr, h, by simp, ⟨.inr ⟨ad, cap, by simp, by simp⟩, by simp, by simp, by simp⟩, FStep.refl, OStep.refl h, fun _ _ hh _ => hh⟩
      ·obtain ⟨r0, hr0⟩ : ∃ r, rows[0]? = some r := by cases rows with | nil => exact absurd rfl hm | cons r l => exact ⟨r, rfl⟩
       have hsz : sz = E.P.cellsOf e := by rw [hcl, ← hp.2 r0 (List.mem_of_getElem? hr0), q4 r0 (List.mem_of_getElem? hr0)]
       have hpos := hpp
       obtain ⟨b0, o0, ha, _⟩ := q5 0 r0 0 _ hr0 (List.getElem?_eq_getElem (by rw [hp.2 r0 (List.mem_of_getElem? hr0)]; exact hpos))
       subst ha; subst hsz
       refine ⟨rows, [], rs, ow, (List.range (rows.length * E.P.cellsOf e)).map fun k => val (k / E.P.cellsOf e) (k % E.P.cellsOf e), hr, h, by simp, ⟨.inr ⟨⟨b0, o0, none⟩, cap, by rw [q1], fun j u hj => ?_⟩, by simp, fun r hr => by rw [hcl]; exact hp.2 r hr, fun i r j c hi hj => ?_⟩, FStep.refl, OStep.refl h, fun _ _ hh _ => hh⟩
       ·have hjl := (List.getElem?_eq_some_iff.1 hj).1
        simp at hjl
        simp [hjl] at hj
        have hjd : j / E.P.cellsOf e < rows.length := Nat.div_lt_of_lt_mul (by rw [Nat.mul_comm]; exact hjl)
        have hjm : j % E.P.cellsOf e < E.P.cellsOf e := Nat.mod_lt _ (by omega)
        obtain ⟨b1, o1, ha, _, hcell⟩ := q5 _ _ _ _ (List.getElem?_eq_getElem hjd) (List.getElem?_eq_getElem (by rw [q4 _ (List.getElem_mem hjd)]; exact hjm))
        injection ha with ha; injection ha with ha1 ha2; subst ha1; subst ha2
        rw [addr_add]
        have hdm : j / E.P.cellsOf e * E.P.cellsOf e + j % E.P.cellsOf e = j := by rw [Nat.mul_comm]; exact Nat.div_add_mod _ _
        rw [hdm] at hcell
        rw [hcell, hj]
       ·have hil := (List.getElem?_eq_some_iff.1 hi).1
        have hjl := (List.getElem?_eq_some_iff.1 hj).1
        rw [q4 r (List.mem_of_getElem? hi)] at hjl
        have hlt := idx_lt hil hjl
        have hd1 : (i * E.P.cellsOf e + j) / E.P.cellsOf e = i := by rw [Nat.mul_comm, Nat.mul_add_div (by omega), Nat.div_eq_of_lt hjl, Nat.add_zero]
        have hd2 : (i * E.P.cellsOf e + j) % E.P.cellsOf e = j := by rw [Nat.mul_comm, Nat.mul_add_mod, Nat.mod_eq_of_lt hjl]
        have : ((List.range (rows.length * E.P.cellsOf e)).map fun k => val (k / E.P.cellsOf e) (k % E.P.cellsOf e)).getD (i * E.P.cellsOf e + j) undef = val i j := by
         simp [List.getD_eq_getElem?_getD, hlt, hd1, hd2]
        rw [this]
        exact plain_oc (q6 i r j c hi hj) _
 ·have := avr_one_v hv; subst this
  exact ⟨[], [], rs, ow, [], hr, h, by simp, ⟨.inl ⟨⟨0, rfl⟩, rfl⟩, by simp, by simp, by simp⟩, FStep.refl, OStep.refl h, fun _ _ hh _ => hh⟩
 ·rename_i id g off
  cases hv with
  | one hs =>
   obtain ⟨ob, cells, put, e', rows, rs3, k1, k2, k3, k4, k5, k6⟩ := ownAt_runs (pend := []) h hr (by simp) hs
   obtain ⟨hb, k7⟩ := runs_cond k6
   have hb := Nat.eq_of_beq_eq_true hb
   subst hb
   have hoc := ownAt_oc (pend := []) h k1 k2 k3 k5
   cases hkd : Nat.beq ob.kind 2 with
   | false =>
    rw [hkd] at k7
    cases k7 with
    | need hp k8 =>
     obtain ⟨news, hsrc⟩ := src_plain (hid := hid) (lo := 0) (n := rows.length) hoc hp (by omega)
     obtain ⟨aa, cap, hv1, hv2⟩ := own_spot hoc
     rw [resliced_all hv1 hv2] at hsrc
     exact ⟨rows, [], rs3, ow, news, k8, h, by simp, by simpa using hsrc, FStep.refl, OStep.refl h, fun _ _ hh _ => hh⟩
   | true =>
    rw [hkd] at k7
    obtain ⟨t1, t2, t3⟩ := h.take (q := [hid, 0]) k1 k2 k3
    have k1' : st.o[id]? = some ob := k1
    have hidl := (List.getElem?_eq_some_iff.1 k1').1
    have hne : id ≠ hid := fun e => by subst e; rw [hh] at k1'; cases k1'
    have hrel : Rel E.P x (st.pend [(id, put .x)]) a w L (relab (pathOf id (.cell off)) [hid, 0] ow) := by rw [k4]; exact t1
    have hst : OStep E.P w w L L st.o (st.pend [(id, put .x)]).o := by rw [k4]; exact OStep.tell h k1' k2 (by simp)
    have hh2 := pend_none (pend := [(id, put .x)]) hh
    have hoc2 := t2 _ k5
    obtain ⟨s1, s2⟩ := hrel.reHid (f := fun | 0 :: i :: j :: s => some ((i * E.P.cellsOf e + j + 1) :: s) | _ => none) hh2
    have hFs : FStep w w (x.F w ow) (x.F w (reHid hid (fun | 0 :: i :: j :: s => some ((i * E.P.cellsOf e + j + 1) :: s) | _ => none) (relab (pathOf id (.cell off)) [hid, 0] ow))) := fun k hk => s2 k (by rw [t3]; exact hk)
    cases hoc2 with
    | @us _ _ _ _ inner hown hpos hsz how ih =>
     refine ⟨rows, [(id, put .x)], rs3, _, inner, k7, s1, by simpa using hidl, ⟨?_, hown.1, hsz, fun i r j c hi hj => (ih i r j c hi hj).move (fun k hk => ⟨rfl, (hFs k hk).2⟩) fun k s hk => ⟨rfl, reHid_in (r := 0 :: i :: j :: s) hk rfl⟩⟩, hFs, hst, fun id' ob' g1 g2 => ?_⟩
     ·rcases hown.2 with ⟨rfl, h0⟩ | ⟨b0, cap, cur, rfl, _, hg, hc, hm, hs2, ht⟩
      ·exact   .inl ⟨⟨0, rfl⟩, List.eq_nil_of_length_eq_zero (by rw [hown.1, h0]; simp)⟩
      ·refine .inr ⟨⟨b0, 0, none⟩, cap, rfl, fun j u hj => ?_⟩
       rw [addr_add, cell_of_row w b0 _ cur e (0, 0) hg]
       rw [← ht, List.getElem?_take] at hj
       split at hj
       ·simpa using hj
       ·cases hj
     ·have hne2 : id ≠ id' := fun e => by subst e; rw [k1'] at g1; injection g1 with g1; subst g1; rw [k2] at g2; cases g2
      show ((st.pend []).o.set id (put .x))[id']? = some ob'
      rw [List.getElem?_set_ne hne2]; exact g1
 ·rename_i id g off lo n
  cases hv with
  | one hs =>
   obtain ⟨ob, cells, put, e', rows, rs3, v0, k1, k2, k3, k4, k5, k7, k8, k6⟩ := viewAt_runs (pend := []) hr (by simp) hs
   obtain ⟨hb, k9⟩ := runs_cond k6
   have hb := Nat.eq_of_beq_eq_true hb
   subst hb
   cases k9 with
   | need hp k10 =>
    have hoc := ownAt_oc (pend := []) (p := .cell off) h k1 k2 k3 k5
    obtain ⟨news, hsrc⟩ := src_plain (hid := hid) (lo := lo) (n := n) hoc hp k7
    rw [← k8] at hsrc
    exact ⟨_, [], rs3, ow, news, k10, h, by simp, hsrc, FStep.refl, OStep.refl h, fun _ _ hh _ => hh⟩
 ·rename_i id off n e'
  obtain ⟨hb, k1⟩ := runs_cond hr
  have hb := Nat.eq_of_beq_eq_true hb
  subst hb
  cases k1 with
  | obj g1 k2 =>
   obtain ⟨cells, g2, k3⟩ := cellsOf_runs k2
   obtain ⟨hle, k4⟩ := runs_cond k3
   have hle := Nat.le_of_ble_eq_true hle
   cases k4 with
   | need hp k5 =>
    cases hv with
    | @bs _ _ _ gb _ ob2 cells2 h2 h3 h4 =>
     rw [g1] at h2; injection h2 with h2; subst h2
     rw [g2] at h3; injection h3 with h3; subst h3
     have hob := h.objs _ _ _ g1 g2
     have hcl := hie.cells
     have hsl : (sub cells off (n * ie.size)).length = n * ie.size := by
      unfold sub; rw [List.length_take, List.length_drop]; omega
     have hval : ∀ k c, cells[k]? = some c → ∃ u, w.cell? ⟨gb, k, none⟩ = some u ∧ OC E.P w (x.F w ow) ow [id, k] c u := fun k c hk => by
      have := hob.cell k c hk
      rw [h4] at this; exact this
     refine ⟨chunks ie.size n (sub cells off (n * ie.size)), [], _, ow, (List.range (n * E.P.cellsOf e)).map fun k => (w.cell? ⟨gb, off + k, none⟩).getD undef, k5, h, by simp, ⟨.inr ⟨⟨gb, off, none⟩, n, by rw [chunks_length], fun j u hj => ?_⟩, by simp [chunks_length], fun r hr => ?_, fun i r j c hi hj => ?_⟩, FStep.refl, OStep.refl h, fun _ _ hh _ => hh⟩
     ·have hjl := (List.getElem?_eq_some_iff.1 hj).1
      simp at hjl
      simp [hjl] at hj
      rw [addr_add]
      rw [hcl] at hjl
      obtain ⟨u2, q1, _⟩ := hval (off + j) _ (List.getElem?_eq_getElem (by omega))
      rw [q1] at hj ⊢
      simpa using hj
     ·obtain ⟨i, hi⟩ := List.mem_iff_getElem?.1 hr
      rw [hcl]; exact (chunks_get _ _ _ _ _ hi hsl).1
     ·obtain ⟨r1, r2, r3⟩ := chunks_get _ _ _ _ _ hi hsl
      have hjl := (List.getElem?_eq_some_iff.1 hj).1
      rw [r1] at hjl
      have hlt := idx_lt r2 hjl
      have hc := r3 j c hj
      unfold sub at hc
      rw [List.getElem?_take, if_pos hlt, List.getElem?_drop] at hc
      obtain ⟨u, q1, q2⟩ := hval _ _ hc
      have hpl : c.isUs = false := by
       have := hp r (List.mem_of_getElem? hi) c (List.mem_of_getElem? hj)
       cases c <;> first | rfl | exact this.elim
      rw [← hcl] at hlt q1
      have : ((List.range (n * E.P.cellsOf e)).map fun k => (w.cell? ⟨gb, off + k, none⟩).getD undef).getD (i * E.P.cellsOf e + j) undef = u := by
       simp [List.getD_eq_getElem?_getD, hlt, q1]
      rw [this]
      exact plain_oc (q2.toFR hpl) _
 ·cases hr
end
end Ev

namespace Ev
open Go
section
variable {E : Env} {x : Cx} {st : St} {a : Act} {w w' : World} {L L' : Nat → Pl} {ow ow' : Own} {rs : List Loc} {d : Delta} {o : Oper} {next : Act → World → Prop} {Q : Exit → Act → World → Prop}
theorem run_append_nil {P : Program} (t ty e : TypeId) (i : TypeInfo) (size cap2 : Nat) (ht : P.underlying t = some (.slice e)) (hi : P.info? e = some i)
  (v : Value) (n : Nat) (xs : List Value) (hown : w.ownsRow 0 e size v n xs) :
  (Builtin.append_ #[t, t] ty #[v, .slice none 0 cap2]).run P w = .ok v w := by
 rcases hown.2 with ⟨rfl, rfl⟩ | ⟨g, cap, cur, rfl, _, _, hnc, _⟩
 ·simp [Builtin.append_, run_underlying ht, Go.sizeOf, typeInfo, hi, Builtin.lenOf, Builtin.firstCells]
 ·simp [Builtin.append_, run_underlying ht, Go.sizeOf, typeInfo, hi, Builtin.lenOf, Builtin.firstCells, hnc, storeCells]
theorem ownsRow_cut {e : TypeId} {sz n m : Nat} {v : Value} {inner : List Value} (h : w.ownsRow 0 e sz v n inner) (hm : m ≤ n) : w.ownsRow 0 e sz (resliced v 0 m sz) m (inner.take (m * sz)) ∧ (resliced v 0 m sz).ownBlock = v.ownBlock := by
 have hl : m * sz ≤ n * sz := Nat.mul_le_mul_right _ hm
 rcases h.2 with ⟨rfl, rfl⟩ | ⟨g, cap, cur, rfl, hb, hg, hc, hmx, hs, ht⟩
 ·have : m = 0 := by omega
  subst this
  exact ⟨⟨by simp, .inl ⟨by simp [resliced], rfl⟩⟩, by simp [resliced]⟩
 ·have hv : resliced (.slice (some ⟨g, 0, none⟩) n cap) 0 m sz = .slice (some ⟨g, 0, none⟩) m cap := by simp [resliced, addr_add]
  rw [hv]
  refine ⟨⟨by rw [List.length_take, h.1]; omega, .inr ⟨g, cap, cur, rfl, hb, hg, by omega, hmx, hs, ?_⟩⟩, rfl⟩
  rw [← ht, List.take_take, Nat.min_eq_left hl]
structure AppDst (P : Program) (w : World) (F : Frs) (ow : Own) (hid : Nat) (e : TypeId) (rows : List (List C)) (v : Value) (inner : List Value) : Prop where
 own : w.ownsRow 0 e (P.cellsOf e) v rows.length inner
 sz : ∀ r ∈ rows, r.length = P.cellsOf e
 how : ∀ b, v.ownBlock = some b → ow b = some [hid, 0]
 el : ∀ (i : Nat) (r : List C) (j : Nat) (c : C), rows[i]? = some r → r[j]? = some c → OC P w F ow [hid, 0, i, j] c (inner.getD (i * P.cellsOf e + j) undef)
theorem AppDst.of {P : Program} {F : Frs} {hid : Nat} {e : TypeId} {rows : List (List C)} {v : Value} {n : Nat} (h : OC P w F ow [hid, 0] (.us e rows) v) (hn : n ≤ rows.length) :
  ∃ inner, AppDst P w F ow hid e (rows.take n) (resliced v 0 n (P.cellsOf e)) inner := by
 cases h with
 | @us _ _ _ _ inner hown hp hsz how ih =>
  obtain ⟨h1, h2⟩ := ownsRow_cut hown hn
  have hl : (rows.take n).length = n := by rw [List.length_take]; omega
  refine ⟨_, by rw [hl]; exact h1, fun r hr => hsz r (List.mem_of_mem_take hr), fun b hb => how b (by rw [← h2]; exact hb), fun i r j c hi hj => ?_⟩
  rw [List.getElem?_take] at hi
  split at hi
  ·rename_i hin
   have hjl := (List.getElem?_eq_some_iff.1 hj).1
   rw [hsz r (List.mem_of_getElem? hi)] at hjl
   have hlt := idx_lt hin hjl
   have : (inner.take (n * P.cellsOf e)).getD (i * P.cellsOf e + j) undef = inner.getD (i * P.cellsOf e + j) undef := by
    simp only [List.getD_eq_getElem?_getD, List.getElem?_take, hlt, if_true]
   rw [this]; exact ih i r j c hi hj
  ·cases hi
theorem appDst_sound {hid : Nat} {e : TypeId} {s : AV} {v v2 : Value} {rows2 : List (List C)} {news : List Value} {pend : List (Nat × Ob)} {k : List (List C) → List (Nat × Ob) → M} (h : Rel E.P x (st.pend pend) a w L ow) (hpl : ∀ p ∈ pend, p.1 < st.o.length) (hh : st.o[hid]? = none)
  (hv : AVR E.P w (x.F w ow) L (st.pend pend).o s v) (hr : Runs E.P st (appDst s e pend k) rs d) (hs : AppSrc E.P w (x.F w ow) ow hid e rows2 v2 news) :
  ∃ rows pend' rs' ow2 inner, Runs E.P st (k rows pend') rs' d ∧ Rel E.P x (st.pend pend') a w L ow2 ∧ AppDst E.P w (x.F w ow2) ow2 hid e rows v inner ∧ AppSrc E.P w (x.F w ow2) ow2 hid e rows2 v2 news ∧
   ∀ (id : Nat) (ob : Ob), (st.pend pend).o[id]? = some ob → ob.cells = none → (st.pend pend').o[id]? = some ob := by
 have hhp := pend_none (pend := pend) hh
 have key : ∀ (id : Nat) (ob : Ob) (cells : List C) (p : Pth) (rows : List (List C)), (st.pend pend).o[id]? = some ob → ob.cells = some cells → getC cells p = some (.us e rows) → ∃ ow2,
   Rel E.P x (st.pend ((id, { ob with cells := some (putC cells .x p) }) :: pend)) a w L ow2 ∧ (∀ v0, ValAt E.P w (L id) cells p v0 → OC E.P w (x.F w ow2) ow2 [hid, 0] (.us e rows) v0) ∧ AppSrc E.P w (x.F w ow2) ow2 hid e rows2 v2 news ∧
   ∀ (id' : Nat) (ob' : Ob), (st.pend pend).o[id']? = some ob' → ob'.cells = none → (st.pend ((id, { ob with cells := some (putC cells .x p) }) :: pend)).o[id']? = some ob' := by
  intro id ob cells p rows k1 k2 k3
  obtain ⟨t1, t2, t3⟩ := h.take (q := [hid, 0]) k1 k2 k3
  have hne : id ≠ hid := fun e => by subst e; rw [hhp] at k1; cases k1
  refine ⟨_, t1, fun v0 hv0 => by rw [t3]; exact t2 v0 hv0, hs.move (fun k hk => by rw [t3]; exact hk) (fun k m s hk => relab_out hk (pathOf_other (Ne.symm hne))), fun id' ob' g1 g2 => ?_⟩
  have hne2 : id ≠ id' := fun e => by subst e; rw [k1] at g1; injection g1 with g1; subst g1; rw [k2] at g2; cases g2
  show ((st.pend pend).o.set id _)[id']? = some ob'
  rw [List.getElem?_set_ne hne2]; exact g1
 unfold appDst at hr
 split at hr
 ·have := avr_one_v hv; subst this
  exact ⟨[], pend, rs, ow, [], hr, h, ⟨World.ownsRow_nil w 0 e _, by simp, (fun b hb => nomatch hb), by simp⟩, hs, fun _ _ h1 _ => h1⟩
 ·rename_i id g p
  cases hv with
  | one hv =>
   obtain ⟨ob, cells, put, e', rows, rs3, k1, k2, k3, k4, k5, k6⟩ := ownAt_runs h hr hpl hv
   obtain ⟨hb, k7⟩ := runs_cond k6
   have hb := Nat.eq_of_beq_eq_true hb
   subst hb
   rw [k4] at k7
   obtain ⟨ow2, t1, t2, t3, t4⟩ := key id ob cells p rows k1 k2 k3
   have hoc := t2 v k5
   obtain ⟨inner, hd⟩ := AppDst.of hoc (Nat.le_refl _)
   obtain ⟨aa, cap, hv1, hv2⟩ := own_spot hoc
   rw [resliced_all hv1 hv2, List.take_length] at hd
   exact ⟨rows, _, rs3, ow2, inner, k7, t1, hd, t3, t4⟩
 ·rename_i id g off n
  cases hv with
  | one hv =>
   obtain ⟨ob, cells, put, e', rows, rs3, v0, k1, k2, k3, k4, k5, k7, k8, k6⟩ := viewAt_runs hr hpl hv
   obtain ⟨hb, k9⟩ := runs_cond k6
   have hb := Nat.eq_of_beq_eq_true hb
   subst hb
   rw [k4] at k9
   obtain ⟨ow2, t1, t2, t3, t4⟩ := key id ob cells (.cell off) rows k1 k2 k3
   obtain ⟨inner, hd⟩ := AppDst.of (t2 v0 k5) (show n ≤ rows.length by omega)
   rw [k8]
   exact ⟨_, _, rs3, ow2, inner, k9, t1, hd, t3, t4⟩
 ·cases hr
theorem runs_condn' {P : Program} {b : Bool} {m : M} (h : Runs P st (bif b then .fail else m) rs d) : b = false ∧ Runs P st m rs d := by
 cases b with
 | true => cases h
 | false => exact ⟨rfl, h⟩
theorem getOb_swap {P : Program} {pend : List (Nat × Ob)} {id : Nat} {k : Ob → M} (hr : Runs P st (getOb pend id k) rs d) (hl : ∀ p ∈ pend, p.1 < st.o.length) :
  ∃ ob rs', (st.pend pend).o[id]? = some ob ∧ Runs P st (k ob) rs' d ∧ ∀ (k' : Ob → M) rs2 d2, Runs P st (k' ob) rs2 d2 → ∃ rs3, Runs P st (getOb pend id k') rs3 d2 := by
 unfold getOb at hr ⊢
 split at hr
 ·rename_i b hb
  exact ⟨b, rs, findO_some hb hl, hr, fun k' rs2 d2 h => ⟨_, h⟩⟩
 ·rename_i hb
  cases hr with
  | obj h1 h2 => exact ⟨_, _, (findO_none hb).trans h1, h2, fun k' rs2 d2 h => ⟨_, .obj h1 h⟩⟩
theorem apndM_old {P0 : Program} {m : Nat} {dd : Option Tmp} {e : TypeId} {ie : TI} {rows2 : List (List C)} {pend : List (Nat × Ob)} {b : AV} (hpl : ∀ p ∈ pend, p.1 < st.o.length) (h : Runs P0 st (apndM m dd e ie rows2 pend b) rs d) :
  ∃ rs' d', Runs P0 st (apndO m dd e ie rows2 pend b) rs' d' ∧ d'.s = d.s ∧ st.app d' = st.app d := by
 unfold apndM at h
 split at h
 ·rename_i id g off i j
  unfold appE at h
  obtain ⟨ob, rs1, hob, h1, hback⟩ := getOb_swap h hpl
  obtain ⟨hg, h1⟩ := runs_cond h1
  obtain ⟨cells, hc, h1⟩ := cellsOf_runs h1
  cases hoff : cells[off]? with
  | none => rw [hoff] at h1; cases h1
  | some c =>
  cases c with
  | us e1 rows0 =>
   rw [hoff] at h1
   cases h1 with
   | @row _ _ _ r _ _ hr h1 =>
    dsimp only at h1
    cases hj : r[j]? with
    | none => rw [hj] at h1; cases h1
    | some c =>
    cases c with
    | us e2 rows =>
     rw [hj] at h1
     obtain ⟨he, h1⟩ := runs_cond h1
     cases h1 with
     | need hn h1 =>
      cases dd with
      | none => cases h1
      | some dd =>
       obtain ⟨hne, h1⟩ := runs_condn' h1
       cases h1 with
       | @obj _ _ nb _ _ hnb h1 =>
        unfold isAbsent at h1
        dsimp only at h1
        cases hnc : nb.cells with
        | some _ => rw [hnc] at h1; cases h1
        | none =>
        rw [hnc] at h1
        cases h1 with
        | ret =>
         have hput : Runs P0 st (newOwn m (some dd) 1 e (rows ++ rows2) ((id, { ob with cells := some (cells.set off (.us e1 (rows0.set i (r.set j .x)))) }) :: pend)) [.o (dd + m)] ⟨[(dd, some (.one (.ref (dd + m) 0 (.cell 0))))], (dd + m, ⟨0, 1, some [.us e (rows ++ rows2)]⟩) :: (id, { ob with cells := some (cells.set off (.us e1 (rows0.set i (r.set j .x)))) }) :: pend, []⟩ := by
          unfold newOwn
          refine .obj hnb ?_
          unfold isAbsent
          rw [hnc]
          exact .ret
         have h3 : ∃ rs3, Runs P0 st (apndO m (some dd) e ie rows2 pend (.one (.ref id g (.elem off i j)))) rs3 ⟨[(dd, some (.one (.ref (dd + m) 0 (.cell 0))))], (dd + m, ⟨0, 1, some [.us e (rows ++ rows2)]⟩) :: (id, { ob with cells := some (cells.set off (.us e1 (rows0.set i (r.set j .x)))) }) :: pend, []⟩ := by
          unfold apndO appDst ownAt
          dsimp only
          refine hback _ [.o (dd + m)] _ ?_
          rw [hg, Bool.true_or, cond_true]
          unfold cellsOf
          rw [hc]
          simp only [hoff]
          refine .row hr ?_
          simp only [hj, he, cond_true]
          exact .need hn hput
         obtain ⟨rs3, h3⟩ := h3
         refine ⟨rs3, _, h3, rfl, ?_⟩
         have hid : id ≠ dd + m := fun he => by rw [he] at hne; simp at hne
         have hob' : (applyS pend st.o)[id]? = some ob := hob
         show (⟨_, _⟩ : St) = ⟨_, _⟩
         congr 1
         show ((applyS pend st.o).set id _).set (dd + m) _ = upd ((applyS pend st.o).set (dd + m) _) id (setElem off i (r.set j .x))
         unfold upd
         rw [List.getElem?_set_ne (Ne.symm hid), hob', List.set_comm _ _ hid]
         simp only [setElem, hc, hoff]
    | _ => rw [hj] at h1; cases h1
  | _ => rw [hoff] at h1; cases h1
 ·exact ⟨rs, d, h, rfl, rfl⟩
theorem sound_append {y z : Operand} {t t' : TypeId} (hT : TOk E) (h : Rel E.P x st a w L ow) (ho : o.op = .call { callee := .builtin .append, args := ⟨[y, z]⟩, argTypes := ⟨[t, t']⟩ })
  (hr : Runs E.P st (bif Nat.beq t t' then typ E t fun i => match i.kind with
  | .slice e => elt E e fun ie => opnd y fun a => opnd z fun b => appSrc e ie b fun rows2 pend => apndM E.m o.dst e ie rows2 pend a
  | _ => .fail
  else .fail) rs d) (hl : ∀ p ∈ d.s, p.1 < st.s.length) (hn : Good E x (st.app d) next) : o.wp E.P a w next Q := by
 obtain ⟨hb, h00⟩ := runs_cond hr
 have hb := Nat.eq_of_beq_eq_true hb
 subst hb
 obtain ⟨i, hi, _, h0⟩ := typ_runs hT h00
 obtain ⟨dsc, u1, _, _, u4⟩ := hi.under
 split at h0
 ·rename_i e hk
  rw [hk] at u4; simp only at u4; subst u4
  obtain ⟨ie, hie, hpp, h1⟩ := elt_runs hT h0
  obtain ⟨s, rs1, h2, h3⟩ := opnd_runs h h1
  obtain ⟨b, rs2, h4, h5⟩ := opnd_runs h h2
  obtain ⟨rows2, pend, rs3, ow2, news, h6, h7, h8, h9, h10, h11, h12⟩ := appSrc_sound (hid := st.o.length) hie hpp h st_len_none h5 h4
  have h3' := h3.step h10 h11
  obtain ⟨rs6, d6, h6, hs6, happ⟩ := apndM_old h8 h6
  rw [← happ] at hn
  rw [← hs6] at hl
  obtain ⟨rows, pend', rs4, ow3, inner, h13, h14, h15, h16, h17⟩ := appDst_sound h7 h8 st_len_none h3' h6 h9
  cases h13 with
  | need hb h18 =>
   obtain ⟨b1, b2⟩ := hb
   obtain ⟨inf, zv, g1, g2, g3, g4, g5, g6⟩ := hie.info
   have hcl : ie.size = E.P.cellsOf e := hie.cells.symm
   have hzz : zv.cells.size = ie.size := by rw [← hie.zlen, ← g5]; simp
   have hrun : ∃ v' w', (Builtin.append_ #[t, t] o.type #[a.eval y, a.eval z]).run E.P w = .ok v' w' ∧ w'.ownsRow 0 e (E.P.cellsOf e) v' (rows.length + rows2.length) (inner ++ news) ∧ w.grownBy w' (a.eval y).ownBlock ∧
     (v'.ownBlock = none ∨ v'.ownBlock = (a.eval y).ownBlock ∨ v'.ownBlock = some w.heap.size) ∧ v'.oneCell' = true := by
    rcases h16.val with ⟨⟨cap, hv⟩, hnw⟩ | ⟨ad, cap, hv, hcell⟩
    ·have hr0 : rows2.length = 0 := by
      have := h16.len
      rw [hnw] at this
      have hp := hpp
      rw [hcl] at hp
      have h3 : rows2.length * E.P.cellsOf e = 0 := by rw [← this]; rfl
      rcases Nat.mul_eq_zero.1 h3 with h | h
      ·exact h
      ·omega
     rw [hv, hnw, hr0]
     exact ⟨_, w, run_append_nil t o.type e inf _ cap u1 g1 _ _ _ h15.own, by simpa using h15.own, World.grownBy.refl _ _, .inr (.inl rfl), own_one h15.own⟩
    ·rw [hv]
     have hone : ∀ u ∈ news, u.oneCell' = true := fun u hu => by
      obtain ⟨m, hm⟩ := List.mem_iff_getElem?.1 hu
      have hml := (List.getElem?_eq_some_iff.1 hm).1
      rw [h16.len] at hml
      have hp := hpp
      rw [hcl] at hp
      have hjd : m / E.P.cellsOf e < rows2.length := Nat.div_lt_of_lt_mul (by rw [Nat.mul_comm]; exact hml)
      have hjm : m % E.P.cellsOf e < E.P.cellsOf e := Nat.mod_lt _ (by omega)
      have hdm : m / E.P.cellsOf e * E.P.cellsOf e + m % E.P.cellsOf e = m := by rw [Nat.mul_comm]; exact Nat.div_add_mod _ _
      have := h16.el _ _ _ _ (List.getElem?_eq_getElem hjd) (List.getElem?_eq_getElem (by rw [h16.rows _ (List.getElem_mem hjd)]; exact hjm))
      rw [hdm, List.getD_eq_getElem?_getD, hm] at this
      exact this.one
     obtain ⟨v', w1, q1, q2, q3, _, q5⟩ := run_append_own_at (P := E.P) w 0 t o.type e inf zv ie.size ie.bytes u1 g1 g4 g2 g3 hzz hpp (a.eval y) rows.length inner (by rw [hcl]; exact h15.own) ad rows2.length cap news (by rw [h16.len, hcl]) hcell hone b2 b1 (Nat.zero_le _)
     rw [hcl] at q2
     exact ⟨v', w1, q1, q2, q3, q5.elim (fun h => .inr (.inl h)) (fun h => .inr (.inr h)), own_one q2⟩
   obtain ⟨v', w', q1, q2, q3, q4, q5⟩ := hrun
   refine fin_own (L2 := L) (w' := w') h18 hl h.len q5 (fun dd ob hd hob hoc => ?_) (fun id ob h1 h2 => h17 id ob (h12 id ob h1 h2) h2) ?_ hn
   ·exact ⟨_, h14.rowNew (hid := st.o.length) (pend_none st_len_none) hob hoc (by rw [← hcl]; exact hpp) h15.own h15.sz h15.how h15.el h16.rows h16.el q2 q3 q4⟩
   ·simp only [execOp, ho, resolve, invoke, builtin, Sem.run_bind, Sem.run_pure, Result.andThen_ok, List.map_toArray, List.map_cons, List.map_nil, q1]
 ·cases h0
end
end Ev

namespace Ev
open Go
section
variable {E : Env} {x : Cx} {st : St} {a : Act} {w w' : World} {L L' : Nat → Pl} {ow ow' : Own} {rs : List Loc} {d : Delta} {o : Oper} {next : Act → World → Prop} {Q : Exit → Act → World → Prop}
def Fb (x : Cx) (w : World) (ow : Own) (bor : List Nat) : Frs := fun k => x.F w ow k ∨ ∃ id ∈ bor, ∃ r, ow k = some (id :: r)
def Src.id : Src → Nat
 | .box id => id
 | .own id _ _ => id
def Src.cellAt : Src → Option Nat
 | .own _ _ (.cell off) => some off
 | _ => none
def Apart (s s' : Src) : Prop := ∃ a b, s.cellAt = some a ∧ s'.cellAt = some b ∧ a ≠ b
theorem Apart.symm {s s' : Src} (h : Apart s s') : Apart s' s := by
 obtain ⟨a, b, h1, h2, h3⟩ := h
 exact ⟨b, a, h2, h1, Ne.symm h3⟩
def lc (Ls : List Pl) : Nat → Pl := fun j => Ls.getD j (.vals [])
def SrcOk (P : Program) (w : World) (L : Nat → Pl) (o : List Ob) : Src → List C → Pl → Prop
 | .box id, cells, pl => ∃ ob, o[id]? = some ob ∧ ob.cells = some cells ∧ pl = L id
 | .own id _ p, cells, pl => ∃ ob cells0 e rows v, o[id]? = some ob ∧ ob.cells = some cells0 ∧ getC cells0 p = some (.us e rows) ∧ cells = [.us e rows] ∧ ValAt P w (L id) cells0 p v ∧ pl = .vals [v]
structure AI (E : Env) (x : Cx) (st : St) (a : Act) (w : World) (L : Nat → Pl) (objs : List (List C)) (srcs : List Src) (pend : List (Nat × Ob)) (Ls : List Pl) (ow : Own) : Prop where
 rel : Rel E.P x (st.pend pend) a w L ow
 lt : ∀ p ∈ pend, p.1 < st.o.length
 len1 : objs.length = srcs.length
 len2 : Ls.length = srcs.length
 src : ∀ (j : Nat) (s : Src) (cells : List C) (pl : Pl), srcs[j]? = some s → objs[j]? = some cells → Ls[j]? = some pl → SrcOk E.P w L (st.pend pend).o s cells pl
 dist : ∀ (j j' : Nat) (s s' : Src), srcs[j]? = some s → srcs[j']? = some s' → s.id = s'.id → j = j' ∨ Apart s s'
 keep : ∀ (id : Nat) (ob : Ob), st.o[id]? = some ob → ob.cells = none → (st.pend pend).o[id]? = some ob
structure AExt (E : Env) (x : Cx) (st : St) (w : World) (L : Nat → Pl) (objs objs' : List (List C)) (pend pend' : List (Nat × Ob)) (bor bor' : List Nat) (Ls Ls' : List Pl) (ow ow' : Own) : Prop where
 f : FStep w w (x.F w ow) (x.F w ow')
 o : OStep E.P w w L L (st.pend pend).o (st.pend pend').o
 fb : ∀ k, Fb x w ow bor k → Fb x w ow' bor' k
 lel : objs.length = Ls.length
 ob : ∃ l, objs' = objs ++ l
 ls : ∃ l, Ls' = Ls ++ l
theorem AExt.trans {objs objs1 objs2 : List (List C)} {pend pend1 pend2 : List (Nat × Ob)} {bor bor1 bor2 : List Nat} {Ls Ls1 Ls2 : List Pl} {ow ow1 ow2 : Own} (h : AExt E x st w L objs objs1 pend pend1 bor bor1 Ls Ls1 ow ow1) (h' : AExt E x st w L objs1 objs2 pend1 pend2 bor1 bor2 Ls1 Ls2 ow1 ow2) : AExt E x st w L objs objs2 pend pend2 bor bor2 Ls Ls2 ow ow2 := by
 refine ⟨fun k hk => ⟨rfl, (h'.f k (h.f k hk).2).2⟩, h.o.trans h'.o, fun k hk => h'.fb k (h.fb k hk), h.lel, ?_, ?_⟩
 ·obtain ⟨l, hl⟩ := h.ob; obtain ⟨l', hl'⟩ := h'.ob; exact ⟨l ++ l', by rw [hl', hl, List.append_assoc]⟩
 ·obtain ⟨l, hl⟩ := h.ls; obtain ⟨l', hl'⟩ := h'.ls; exact ⟨l ++ l', by rw [hl', hl, List.append_assoc]⟩
theorem obList_get {objs : List (List C)} {j : Nat} : (obList objs)[j]? = (objs[j]?).map fun c => ⟨0, 0, some c⟩ := by simp [obList]
theorem ostep_obList {P : Program} {objs l : List (List C)} {Ls m : List Pl} (h : objs.length = Ls.length) : OStep P w w (lc Ls) (lc (Ls ++ m)) (obList objs) (obList (objs ++ l)) := by
 intro id ob cells h1 h2
 have hid : id < objs.length := by have := (List.getElem?_eq_some_iff.1 h1).1; simpa [obList] using this
 refine ⟨ob, cells, ?_, h2, Nat.le_refl _, ?_, fun _ off e rows' hc => ⟨rows', hc, rfl, rfl, fun i r' j e2 rows2' hr hj => ⟨r', rows2', hr, hj, fun _ _ _ _ => rfl⟩⟩⟩
 ·rw [obList_get] at h1 ⊢; rw [List.getElem?_append_left hid]; exact h1
 ·simp only [lc, List.getD_eq_getElem?_getD]; rw [List.getElem?_append_left (by omega)]
theorem AExt.avr {objs objs' : List (List C)} {pend pend' : List (Nat × Ob)} {bor bor' : List Nat} {Ls Ls' : List Pl} {b : AV} {v : Value} (h : AExt E x st w L objs objs' pend pend' bor bor' Ls Ls' ow ow') (hv : AVR E.P w (Fb x w ow bor) (lc Ls) (obList objs) b v) : AVR E.P w (Fb x w ow' bor') (lc Ls') (obList objs') b v := by
 obtain ⟨l, rfl⟩ := h.ob
 obtain ⟨m, rfl⟩ := h.ls
 exact hv.step (fun k hk => ⟨rfl, h.fb k hk⟩) (ostep_obList h.lel)
theorem AExt.scr {objs objs' : List (List C)} {pend pend' : List (Nat × Ob)} {bor bor' : List Nat} {Ls Ls' : List Pl} {b : SC} {v : Value} (h : AExt E x st w L objs objs' pend pend' bor bor' Ls Ls' ow ow') (hv : SCR E.P w (Fb x w ow bor) (lc Ls) (obList objs) b v) : SCR E.P w (Fb x w ow' bor') (lc Ls') (obList objs') b v := by
 obtain ⟨l, rfl⟩ := h.ob
 obtain ⟨m, rfl⟩ := h.ls
 exact hv.step (fun k hk => ⟨rfl, h.fb k hk⟩) (ostep_obList h.lel)
theorem AI.ext {objs : List (List C)} {srcs : List Src} {pend : List (Nat × Ob)} {bor : List Nat} {Ls : List Pl} (h : AI E x st a w L objs srcs pend Ls ow) : AExt E x st w L objs objs pend pend bor bor Ls Ls ow ow :=
 ⟨FStep.refl, OStep.refl h.rel, fun _ hk => hk, by rw [h.len1, h.len2], ⟨[], by simp⟩, ⟨[], by simp⟩⟩
theorem hasBox_false {srcs : List Src} {id : Nat} (h : hasBox srcs id = false) {j : Nat} {s : Src} (hs : srcs[j]? = some s) : s.id ≠ id := by
 induction srcs generalizing j with
 | nil => simp at hs
 | cons s0 l ih =>
  cases j with
  | zero =>
   simp at hs; subst hs
   cases s0 <;> simp [hasBox] at h <;> exact fun e => by simp only [Src.id] at e; subst e; simp at h
  | succ j =>
   refine ih ?_ (by simpa using hs)
   cases s0 <;> simp [hasBox] at h <;> exact h.2
theorem hasSrc_false {srcs : List Src} {id g : Nat} {p : Pth} (h : hasSrc srcs id p = false) {j : Nat} {s : Src} (hs : srcs[j]? = some s) (he : s.id = id) : Apart s (.own id g p) := by
 induction srcs generalizing j with
 | nil => simp at hs
 | cons s0 l ih =>
  have h1 : s0.clash id p = false ∧ hasSrc l id p = false := by simpa [hasSrc] using h
  cases j with
  | zero =>
   simp at hs; subst hs
   have h1 := h1.1
   cases s0 with
   | box i => simp only [Src.id] at he; subst he; simp [Src.clash] at h1
   | own i g' q =>
    simp only [Src.id] at he; subst he
    simp only [Src.clash, Nat.beq_refl, Bool.true_and, Bool.not_eq_false'] at h1
    cases p with
    | cell a => cases q with
     | cell b => exact ⟨b, a, rfl, rfl, fun e => by subst e; simp at h1⟩
     | elem _ _ _ => simp at h1
    | elem _ _ _ => simp at h1
  | succ j => exact ih h1.2 (by simpa using hs)
theorem SrcOk.other {P : Program} {o o' : List Ob} {s : Src} {cells : List C} {pl : Pl} (h : SrcOk P w L o s cells pl) (ho : o'[s.id]? = o[s.id]?) : SrcOk P w L o' s cells pl := by
 cases s with
 | box id => obtain ⟨ob, h1, h2⟩ := h; exact ⟨ob, ho.trans h1, h2⟩
 | own id g p => obtain ⟨ob, c0, e, rows, v, h1, h2⟩ := h; exact ⟨ob, c0, e, rows, v, ho.trans h1, h2⟩
theorem runs_condn {P : Program} {b : Bool} {m : M} (h : Runs P st (bif b then .fail else m) rs d) : b = false ∧ Runs P st m rs d := by
 cases b with
 | true => cases h
 | false => exact ⟨rfl, h⟩
theorem AI.push {objs : List (List C)} {srcs : List Src} {pend : List (Nat × Ob)} {bor : List Nat} {Ls : List Pl} {s : Src} {cells : List C} {pl : Pl} (h : AI E x st a w L objs srcs pend Ls ow) (hb : ∀ (j : Nat) (s' : Src), srcs[j]? = some s' → s'.id = s.id → Apart s' s) (hs : SrcOk E.P w L (st.pend pend).o s cells pl) :
  AI E x st a w L (objs ++ [cells]) (srcs ++ [s]) pend (Ls ++ [pl]) ow ∧ AExt E x st w L objs (objs ++ [cells]) pend pend bor bor Ls (Ls ++ [pl]) ow ow := by
 refine ⟨⟨h.rel, h.lt, by simp [h.len1], by simp [h.len2], fun j s' cells' pl' h1 h2 h3 => ?_, fun j j' s1 s2 h1 h2 h3 => ?_, h.keep⟩, ⟨FStep.refl, OStep.refl h.rel, fun _ hk => hk, by rw [h.len1, h.len2], ⟨_, rfl⟩, ⟨_, rfl⟩⟩⟩
 ·have hjl := (List.getElem?_eq_some_iff.1 h1).1
  simp at hjl
  by_cases hj : j < srcs.length
  ·rw [List.getElem?_append_left hj] at h1
   rw [List.getElem?_append_left (by rw [h.len1]; exact hj)] at h2
   rw [List.getElem?_append_left (by rw [h.len2]; exact hj)] at h3
   exact h.src j s' cells' pl' h1 h2 h3
  ·have hj2 : j = srcs.length := by omega
   subst hj2
   rw [List.getElem?_append_right (Nat.le_refl _)] at h1
   rw [List.getElem?_append_right (by rw [h.len1]; exact Nat.le_refl _)] at h2
   rw [List.getElem?_append_right (by rw [h.len2]; exact Nat.le_refl _)] at h3
   simp [h.len1] at h2
   simp [h.len2] at h3
   simp at h1
   subst h1; subst h2; subst h3; exact hs
 ·have key : ∀ (j : Nat) (s' : Src), (srcs ++ [s])[j]? = some s' → (j < srcs.length ∧ srcs[j]? = some s') ∨ (j = srcs.length ∧ s' = s) := by
   intro j s' hj
   have hjl := (List.getElem?_eq_some_iff.1 hj).1
   simp at hjl
   by_cases hlt : j < srcs.length
   ·rw [List.getElem?_append_left hlt] at hj; exact .inl ⟨hlt, hj⟩
   ·have : j = srcs.length := by omega
    subst this
    rw [List.getElem?_append_right (Nat.le_refl _)] at hj
    simp at hj
    exact .inr ⟨rfl, hj.symm⟩
  rcases key j s1 h1 with ⟨k1, k2⟩ | ⟨k1, k2⟩ <;> rcases key j' s2 h2 with ⟨k3, k4⟩ | ⟨k3, k4⟩
  ·exact h.dist j j' s1 s2 k2 k4 h3
  ·subst k4; exact .inr (hb j s1 k2 h3)
  ·subst k2; exact .inr (hb j' s2 k4 h3.symm).symm
  ·exact .inl (by omega)
theorem AI.freeze {objs : List (List C)} {srcs : List Src} {pend : List (Nat × Ob)} {bor : List Nat} {Ls : List Pl} {id : Nat} {ob : Ob} {cells : List C} {p : Pth} {e : TypeId} {rows : List (List C)} {c' : C} (h : AI E x st a w L objs srcs pend Ls ow) (hb : hasBox srcs id = false)
  (ho : (st.pend pend).o[id]? = some ob) (hc : ob.cells = some cells) (hg : getC cells p = some (.us e rows)) (hz : Frz (.us e rows) c') :
  ∃ ow2, AI E x st a w L objs srcs ((id, { ob with cells := some (putC cells c' p) }) :: pend) Ls ow2 ∧ AExt E x st w L objs objs pend ((id, { ob with cells := some (putC cells c' p) }) :: pend) bor bor Ls Ls ow ow2 ∧
   (∀ v, ValAt E.P w (L id) cells p v → FR w (x.F w ow2) c' v) := by
 obtain ⟨h1, h2, h3⟩ := h.rel.freeze ho hc hg hz
 have hfb : ∀ k, Fb x w ow bor k → Fb x w (drop (pathOf id p) ow) bor k := by
  intro k hk
  rcases hk with hk | ⟨id', hi, r, hr⟩
  ·exact .inl (h3 k hk)
  ·cases hd : drop (pathOf id p) ow k with
   | none => exact .inl (.inr ⟨(h.rel.owOk k _ hr).1, hd, (h.rel.owOk k _ hr).2⟩)
   | some q =>
    have := (drop_some hd).1
    rw [hr] at this; injection this with this; subst this
    exact .inr ⟨id', hi, r, hd⟩
 refine ⟨_, ⟨h1, fun q hq => ?_, h.len1, h.len2, fun j s' cells' pl' k1 k2 k3 => (h.src j s' cells' pl' k1 k2 k3).other ?_, h.dist, fun id' ob' k1 k2 => ?_⟩, ⟨fun k hk => ⟨rfl, h3 k hk⟩, OStep.tell h.rel ho hc (fun e r => by cases hz; simp), hfb, by rw [h.len1, h.len2], ⟨[], by simp⟩, ⟨[], by simp⟩⟩, h2⟩
 ·rcases List.mem_cons.1 hq with rfl | hq
  ·exact pend_lt ho
  ·exact h.lt q hq
 ·have := hasBox_false hb k1
  show ((st.pend pend).o.set id _)[s'.id]? = _
  rw [List.getElem?_set_ne (Ne.symm this)]
 ·have hk := h.keep id' ob' k1 k2
  have : id ≠ id' := fun e => by subst e; rw [ho] at hk; injection hk with hk; subst hk; rw [hc] at k2; cases k2
  show ((st.pend pend).o.set id _)[id']? = _
  rw [List.getElem?_set_ne this]; exact hk
theorem lent {objs : List (List C)} {srcs : List Src} {pend : List (Nat × Ob)} {bor : List Nat} {Ls : List Pl} {id : Nat} {ob : Ob} {cells : List C} {p : Pth} {e : TypeId} {rows : List (List C)} {c' : C} {v : Value} (h : AI E x st a w L objs srcs pend Ls ow)
  (ho : (st.pend pend).o[id]? = some ob) (hc : ob.cells = some cells) (hg : getC cells p = some (.us e rows)) (hz : Frz (.us e rows) c') (hv : ValAt E.P w (L id) cells p v) :
  AExt E x st w L objs objs pend pend bor (id :: bor) Ls Ls ow ow ∧ FR w (Fb x w ow (id :: bor)) c' v := by
 refine ⟨⟨FStep.refl, OStep.refl h.rel, fun k hk => ?_, by rw [h.len1, h.len2], ⟨[], by simp⟩, ⟨[], by simp⟩⟩, ?_⟩
 ·rcases hk with hk | ⟨id', hi, hr⟩
  ·exact .inl hk
  ·exact .inr ⟨id', by simp [hi], hr⟩
 ·obtain ⟨v0, hv0, hoc⟩ := (h.rel.objs id ob cells ho hc).at_ hg
  rw [ValAt.uniq hv hv0]
  obtain ⟨off, q, hq⟩ := pathOf_head id p
  exact hoc.freeze hz (fun k hk => ⟨rfl, .inl hk⟩) fun k r hk => ⟨rfl, .inr ⟨id, by simp, off :: (q ++ r), by rw [hk, hq]; rfl⟩⟩
theorem fr_cut {F : Frs} {rows : List (List C)} {v : Value} {lo n sz : Nat} (h : FR w F (.sl rows) v) (hs : ∀ r ∈ rows, r.length = sz) (hn : lo + n ≤ rows.length) (hsp : ∀ aa m cap, v = .slice aa m cap → ∀ ad, aa = some ad → ad.spot = none) : FR w F (.sl ((rows.drop lo).take n)) (resliced v lo n sz) := by
 cases h with
 | @sl _ aa m cap sz0 val q1 q2 q3 q4 q5 q6 =>
  have hl : ((rows.drop lo).take n).length = n := by simp; omega
  have get : ∀ i r, ((rows.drop lo).take n)[i]? = some r → rows[lo + i]? = some r ∧ i < n := fun i r hi => by
   rw [List.getElem?_take] at hi
   split at hi
   ·rw [List.getElem?_drop] at hi; exact ⟨hi, by assumption⟩
   ·cases hi
  refine .sl (sz := sz) (fun i j => val (lo + i) j) hl (by omega) (by omega) (fun r hr => hs r (List.mem_of_mem_drop (List.mem_of_mem_take hr))) (fun i r j c hi hj => ?_) (fun i r j c hi hj => q6 _ r j c (get i r hi).1 hj)
  obtain ⟨b, o, ha, hf, hc⟩ := q5 (lo + i) r j c (get i r hi).1 hj
  have hne : cap ≠ lo := by have := (get i r hi).2; omega
  subst ha
  have hsz : sz0 = sz := by rw [← hs r (List.mem_of_getElem? (get i r hi).1), ← q4 r (List.mem_of_getElem? (get i r hi).1)]
  subst hsz
  refine ⟨b, o + lo * sz0, by simp [hne, addr_add], hf, ?_⟩
  rw [← hc]; congr 2; rw [Nat.add_mul]; omega
theorem argSC_sound {md : Nat} {s : SC} {k : SC → KA} {objs : List (List C)} {srcs : List Src} {pend : List (Nat × Ob)} {bor : List Nat} {Ls : List Pl} {v : Value} (h : AI E x st a w L objs srcs pend Ls ow)
  (hv : SCR E.P w (x.F w ow) L (st.pend pend).o s v) (hr : Runs E.P st (argSC md s k objs srcs pend bor) rs d) :
  ∃ s' objs' srcs' pend' bor' Ls' ow' rs', Runs E.P st (k s' objs' srcs' pend' bor') rs' d ∧ AI E x st a w L objs' srcs' pend' Ls' ow' ∧ AExt E x st w L objs objs' pend pend' bor bor' Ls Ls' ow ow' ∧ SCR E.P w (Fb x w ow' bor') (lc Ls') (obList objs') s' v := by
 unfold argSC at hr
 split at hr
 ·have := avr_one_v (.one hv); subst this
  split at hr
  ·exact ⟨_, _, _, _, _, _, _, _, hr, h, h.ext, .c (.v rfl)⟩
  ·exact ⟨_, _, _, _, _, _, _, _, hr, h, h.ext, .c (.sl (sz := 0) (fun _ _ => undef) rfl (Nat.le_refl _) (by simp [maxLen]) (by simp) (by simp) (by simp))⟩
 ·rename_i c _
  cases hv with
  | c hf => exact ⟨_, _, _, _, _, _, _, _, hr, h, h.ext, .c (hf.move fun k hk => ⟨rfl, .inl hk⟩)⟩
 ·rename_i id g p
  obtain ⟨ob, cells, put, e, rows, rs3, k1, k2, k3, k4, k5, k6⟩ := ownAt_runs h.rel hr h.lt hv
  have hvo : v.oneCell' = true := (ownAt_oc h.rel k1 k2 k3 k5).one
  split at k6
  ·obtain ⟨hb, k7⟩ := runs_condn k6
   obtain ⟨q1, q2⟩ := h.push (bor := bor) (s := .own id g p) (pl := .vals [v]) (fun j s' hs he => hasSrc_false hb hs he) ⟨ob, cells, e, rows, v, k1, k2, k3, rfl, k5, rfl⟩
   have hol : (obList (objs ++ [[C.us e rows]]))[objs.length]? = some ⟨0, 0, some [.us e rows]⟩ := by
    rw [obList_get, List.getElem?_append_right (Nat.le_refl _)]; simp
   have hll : lc (Ls ++ [.vals [v]]) objs.length = .vals [v] := by
    have : objs.length = Ls.length := by rw [h.len1, h.len2]
    simp only [lc, List.getD_eq_getElem?_getD]
    rw [this, List.getElem?_append_right (Nat.le_refl _)]; simp
   refine ⟨_, _, _, _, _, _, _, _, k7, q1, q2, .ref hvo hol rfl (Nat.le_refl _) (fun _ e' rows' _ => ?_) (fun l off hl hp => ?_)⟩
   ·rw [hll]; rfl
   ·rw [hll] at hl; injection hl with hl; subst hl; injection hp with hp; subst hp; rfl
  ·obtain ⟨hb, k7⟩ := runs_condn k6
   cases k7 with
   | frz hz k8 =>
    obtain ⟨ow2, q1, q2, q3⟩ := h.freeze (bor := bor) hb k1 k2 k3 hz
    dsimp only at k8; rw [k4] at k8
    exact ⟨_, _, _, _, _, _, _, _, k8, q1, q2, .c ((q3 v k5).move fun k hk => ⟨rfl, .inl hk⟩)⟩
  ·cases k6 with
   | frz hz k8 =>
    obtain ⟨q1, q2⟩ := lent (bor := bor) h k1 k2 k3 hz k5
    exact ⟨_, _, _, _, _, _, _, _, k8, h, q1, .c q2⟩
 ·rename_i id g off lo n
  split at hr
  ·obtain ⟨ob, cells, put, e, rows, rs3, v0, k1, k2, k3, k4, k5, k7, k8, k6⟩ := viewAt_runs hr h.lt hv
   obtain ⟨hb, k9⟩ := runs_condn k6
   cases k9 with
   | need hp k10 =>
    obtain ⟨rfl, rfl⟩ := hp
    have hoc := ownAt_oc (p := .cell off) h.rel k1 k2 k3 k5
    obtain ⟨aa, cap, rfl, _, _⟩ := own_len hoc
    have hv0 : v = .slice aa rows.length cap := by
     rw [k8]
     simp only [resliced, Nat.zero_mul, Nat.sub_zero]
     split
     ·rfl
     ·congr 1
      cases aa with
      | none => rfl
      | some ad => simp [Addr.add]
    subst hv0
    obtain ⟨q1, q2⟩ := h.push (bor := bor) (s := .own id g (.cell off)) (pl := .vals [.slice aa rows.length cap]) (fun j s' hs he => hasSrc_false hb hs he) ⟨ob, cells, e, rows, _, k1, k2, k3, rfl, k5, rfl⟩
    have hol : (obList (objs ++ [[C.us e rows]]))[objs.length]? = some ⟨0, 0, some [.us e rows]⟩ := by
     rw [obList_get, List.getElem?_append_right (Nat.le_refl _)]; simp
    have hll : lc (Ls ++ [.vals [.slice aa rows.length cap]]) objs.length = .vals [.slice aa rows.length cap] := by
     have : objs.length = Ls.length := by rw [h.len1, h.len2]
     simp only [lc, List.getD_eq_getElem?_getD]
     rw [this, List.getElem?_append_right (Nat.le_refl _)]; simp
    refine ⟨_, _, _, _, _, _, _, _, k10, q1, q2, .ref rfl hol rfl (Nat.le_refl _) (fun _ e' rows' _ => ?_) (fun l off hl hp => ?_)⟩
    ·rw [hll]; rfl
    ·rw [hll] at hl; injection hl with hl; subst hl; injection hp with hp; subst hp; rfl
  ·obtain ⟨ob, cells, put, e, rows, rs3, v0, k1, k2, k3, k4, k5, k7, k8, k6⟩ := viewAt_runs hr h.lt hv
   cases k6 with
   | frz hz k9 =>
    cases hz with
    | us hl hrr ihz =>
     rename_i rows'
     have hz : Frz (.us e rows) (.sl rows') := .us hl hrr ihz
     have hoc := ownAt_oc (p := .cell off) h.rel k1 k2 k3 k5
     have hsz : ∀ r ∈ rows', r.length = E.P.cellsOf e := by
      cases hoc with
      | us hown hp hsz how ih =>
       intro r hr
       obtain ⟨i, hi⟩ := List.mem_iff_getElem?.1 hr
       have hi' : i < rows.length := by rw [hl]; exact (List.getElem?_eq_some_iff.1 hi).1
       rw [← hrr i _ _ (List.getElem?_eq_getElem hi') hi]
       exact hsz _ (List.getElem_mem hi')
     have hsp : ∀ aa m cap, v0 = .slice aa m cap → ∀ ad, aa = some ad → ad.spot = none := by
      intro aa m cap hv ad had
      obtain ⟨aa', cap', hv', hs'⟩ := own_spot hoc
      rw [hv] at hv'; injection hv' with e1 _ _
      exact hs' ad (e1 ▸ had)
     dsimp only at k9
     split at k9
     ·cases k9
     ·obtain ⟨hb, k10⟩ := runs_condn k9
      obtain ⟨ow2, q1, q2, q3⟩ := h.freeze (bor := bor) (p := .cell off) hb k1 k2 k3 hz
      rw [k4] at k10
      have hf := fr_cut (q3 v0 k5) hsz (by omega : lo + n ≤ rows'.length) hsp
      rw [← k8] at hf
      exact ⟨_, _, _, _, _, _, _, _, k10, q1, q2, .c (hf.move fun k hk => ⟨rfl, .inl hk⟩)⟩
     ·obtain ⟨q1, q2⟩ := lent (bor := bor) (p := .cell off) h k1 k2 k3 hz k5
      have hf := fr_cut q2 hsz (by omega : lo + n ≤ rows'.length) hsp
      rw [← k8] at hf
      exact ⟨_, _, _, _, _, _, _, _, k9, h, q1, .c hf⟩
end
end Ev

namespace Ev
open Go
section
variable {E : Env} {x : Cx} {st : St} {a : Act} {w w' : World} {L L' : Nat → Pl} {ow ow' : Own} {rs : List Loc} {d : Delta} {o : Oper} {next : Act → World → Prop} {Q : Exit → Act → World → Prop}
theorem argSCs_sound {md : Nat} : ∀ (l : List SC) (acc : List SC) (k : List SC → KA) (objs : List (List C)) (srcs : List Src) (pend : List (Nat × Ob)) (bor : List Nat) (Ls : List Pl) (ow : Own) (rs : List Loc) (vs : List Value), AI E x st a w L objs srcs pend Ls ow →
  l.length = vs.length → (∀ (i : Nat) (s : SC) (v : Value), l[i]? = some s → vs[i]? = some v → SCR E.P w (x.F w ow) L (st.pend pend).o s v) → Runs E.P st (argSCs md l acc k objs srcs pend bor) rs d →
  ∃ bs objs' srcs' pend' bor' Ls' ow' rs', Runs E.P st (k (acc.reverse ++ bs) objs' srcs' pend' bor') rs' d ∧ AI E x st a w L objs' srcs' pend' Ls' ow' ∧ AExt E x st w L objs objs' pend pend' bor bor' Ls Ls' ow ow' ∧ bs.length = vs.length ∧
   ∀ (i : Nat) (s : SC) (v : Value), bs[i]? = some s → vs[i]? = some v → SCR E.P w (Fb x w ow' bor') (lc Ls') (obList objs') s v := by
 intro l
 induction l with
 | nil =>
  intro acc k objs srcs pend bor Ls ow rs vs h hl hv hr
  have : vs = [] := List.eq_nil_of_length_eq_zero hl.symm
  subst this
  exact ⟨[], _, _, _, _, _, _, _, by simpa [argSCs] using hr, h, h.ext, rfl, by simp⟩
 | cons s l ih =>
  intro acc k objs srcs pend bor Ls ow rs vs h hl hv hr
  cases vs with
  | nil => simp at hl
  | cons v vs =>
   obtain ⟨s', objs1, srcs1, pend1, bor1, Ls1, ow1, rs1, q1, q2, q3, q4⟩ := argSC_sound h (hv 0 s v rfl rfl) hr
   obtain ⟨bs, objs2, srcs2, pend2, bor2, Ls2, ow2, rs2, p1, p2, p3, p4, p5⟩ := ih (s' :: acc) k objs1 srcs1 pend1 bor1 Ls1 ow1 rs1 vs q2 (by simpa using hl) (fun i s v h1 h2 => (hv (i + 1) s v (by simpa using h1) (by simpa using h2)).step q3.f q3.o) q1
   refine ⟨s' :: bs, objs2, srcs2, pend2, bor2, Ls2, ow2, rs2, by simpa using p1, p2, q3.trans p3, by simp [p4], fun i s v h1 h2 => ?_⟩
   cases i with
   | zero => simp at h1 h2; subst h1; subst h2; exact p3.scr q4
   | succ i => exact p5 i s v (by simpa using h1) (by simpa using h2)
theorem argBox_sound {id : Nat} {k : AV → KA} {objs : List (List C)} {srcs : List Src} {pend : List (Nat × Ob)} {bor : List Nat} {Ls : List Pl} {v : Value} (h : AI E x st a w L objs srcs pend Ls ow)
  (hv : AVR E.P w (x.F w ow) L (st.pend pend).o (.bx id 0) v) (hr : Runs E.P st (argBox id k objs srcs pend bor) rs d) :
  ∃ b objs' srcs' pend' bor' Ls' ow' rs', Runs E.P st (k b objs' srcs' pend' bor') rs' d ∧ AI E x st a w L objs' srcs' pend' Ls' ow' ∧ AExt E x st w L objs objs' pend pend' bor bor' Ls Ls' ow ow' ∧ AVR E.P w (Fb x w ow' bor') (lc Ls') (obList objs') b v := by
 unfold argBox at hr
 obtain ⟨hb, h1⟩ := runs_condn hr
 obtain ⟨ob, rs1, h2, h3⟩ := getOb_runs h1 h.lt
 obtain ⟨cells, h4, h5⟩ := cellsOf_runs h3
 obtain ⟨q1, q2⟩ := h.push (bor := bor) (s := .box id) (pl := L id) (fun j s' hs he => absurd he (hasBox_false hb hs)) ⟨ob, h2, h4, rfl⟩
 cases hv with
 | @bx _ _ g ob' cells' k1 k2 k3 =>
  have hol : (obList (objs ++ [cells]))[objs.length]? = some ⟨0, 0, some cells⟩ := by
   rw [obList_get, List.getElem?_append_right (Nat.le_refl _)]; simp
  have hll : lc (Ls ++ [L id]) objs.length = .blk g := by
   have : objs.length = Ls.length := by rw [h.len1, h.len2]
   simp only [lc, List.getD_eq_getElem?_getD]
   rw [this, List.getElem?_append_right (Nat.le_refl _)]; simp [k3]
  exact ⟨_, _, _, _, _, _, _, _, h5, q1, q2, .bx hol rfl hll⟩
theorem caps_sound : ∀ (l : List AV) (acc : List AV) (k : List AV → KA) (objs : List (List C)) (srcs : List Src) (pend : List (Nat × Ob)) (bor : List Nat) (Ls : List Pl) (ow : Own) (rs : List Loc) (vs : List Value), AI E x st a w L objs srcs pend Ls ow →
  l.length = vs.length → (∀ (i : Nat) (s : AV) (v : Value), l[i]? = some s → vs[i]? = some v → AVR E.P w (x.F w ow) L (st.pend pend).o s v) → Runs E.P st (caps l acc k objs srcs pend bor) rs d →
  ∃ bs objs' srcs' pend' bor' Ls' ow' rs', Runs E.P st (k (acc.reverse ++ bs) objs' srcs' pend' bor') rs' d ∧ AI E x st a w L objs' srcs' pend' Ls' ow' ∧ AExt E x st w L objs objs' pend pend' bor bor' Ls Ls' ow ow' ∧ bs.length = vs.length ∧
   ∀ (i : Nat) (s : AV) (v : Value), bs[i]? = some s → vs[i]? = some v → AVR E.P w (Fb x w ow' bor') (lc Ls') (obList objs') s v := by
 intro l
 induction l with
 | nil =>
  intro acc k objs srcs pend bor Ls ow rs vs h hl hv hr
  have : vs = [] := List.eq_nil_of_length_eq_zero hl.symm
  subst this
  exact ⟨[], _, _, _, _, _, _, _, by simpa [caps] using hr, h, h.ext, rfl, by simp⟩
 | cons s l ih =>
  intro acc k objs srcs pend bor Ls ow rs vs h hl hv hr
  cases vs with
  | nil => simp at hl
  | cons v vs =>
   have hd : ∃ s' objs1 srcs1 pend1 bor1 Ls1 ow1 rs1, Runs E.P st (caps l (s' :: acc) k objs1 srcs1 pend1 bor1) rs1 d ∧ AI E x st a w L objs1 srcs1 pend1 Ls1 ow1 ∧ AExt E x st w L objs objs1 pend pend1 bor bor1 Ls Ls1 ow ow1 ∧ AVR E.P w (Fb x w ow1 bor1) (lc Ls1) (obList objs1) s' v := by
    have hv0 := hv 0 s v rfl rfl
    have bad : ∀ {rs : List Loc}, Runs E.P st .fail rs d → False := fun h => nomatch h
    cases s with
    | bx id off => cases off with
     | zero => exact argBox_sound h hv0 hr
     | succ n => exact (bad hr).elim
    | one sc => cases sc with
     | c c =>
      cases hv0 with
      | one hs => cases hs with
       | c hf => exact ⟨_, _, _, _, _, _, _, _, hr, h, h.ext, .one (.c (hf.move fun k hk => ⟨rfl, .inl hk⟩))⟩
     | _ => exact (bad hr).elim
    | _ => exact (bad hr).elim
   obtain ⟨s', objs1, srcs1, pend1, bor1, Ls1, ow1, rs1, q1, q2, q3, q4⟩ := hd
   obtain ⟨bs, objs2, srcs2, pend2, bor2, Ls2, ow2, rs2, p1, p2, p3, p4, p5⟩ := ih (s' :: acc) k objs1 srcs1 pend1 bor1 Ls1 ow1 rs1 vs q2 (by simpa using hl) (fun i s v h1 h2 => (hv (i + 1) s v (by simpa using h1) (by simpa using h2)).step q3.f q3.o) q1
   refine ⟨s' :: bs, objs2, srcs2, pend2, bor2, Ls2, ow2, rs2, by simpa using p1, p2, q3.trans p3, by simp [p4], fun i s v h1 h2 => ?_⟩
   cases i with
   | zero => simp at h1 h2; subst h1; subst h2; exact p3.avr q4
   | succ i => exact p5 i s v (by simpa using h1) (by simpa using h2)
theorem argsM_sound {md : Nat} : ∀ (l : List AV) (acc : List AV) (k : List AV → KA) (objs : List (List C)) (srcs : List Src) (pend : List (Nat × Ob)) (bor : List Nat) (Ls : List Pl) (ow : Own) (rs : List Loc) (vs : List Value), AI E x st a w L objs srcs pend Ls ow →
  l.length = vs.length → (∀ (i : Nat) (s : AV) (v : Value), l[i]? = some s → vs[i]? = some v → AVR E.P w (x.F w ow) L (st.pend pend).o s v) → Runs E.P st (argsM md l acc k objs srcs pend bor) rs d →
  ∃ bs objs' srcs' pend' bor' Ls' ow' rs', Runs E.P st (k (acc.reverse ++ bs) objs' srcs' pend' bor') rs' d ∧ AI E x st a w L objs' srcs' pend' Ls' ow' ∧ AExt E x st w L objs objs' pend pend' bor bor' Ls Ls' ow ow' ∧ bs.length = vs.length ∧
   ∀ (i : Nat) (s : AV) (v : Value), bs[i]? = some s → vs[i]? = some v → AVR E.P w (Fb x w ow' bor') (lc Ls') (obList objs') s v := by
 intro l
 induction l with
 | nil =>
  intro acc k objs srcs pend bor Ls ow rs vs h hl hv hr
  have : vs = [] := List.eq_nil_of_length_eq_zero hl.symm
  subst this
  exact ⟨[], _, _, _, _, _, _, _, by simpa [argsM] using hr, h, h.ext, rfl, by simp⟩
 | cons s l ih =>
  intro acc k objs srcs pend bor Ls ow rs vs h hl hv hr
  cases vs with
  | nil => simp at hl
  | cons v vs =>
   have hd : ∃ s' objs1 srcs1 pend1 bor1 Ls1 ow1 rs1, Runs E.P st (argsM md l (s' :: acc) k objs1 srcs1 pend1 bor1) rs1 d ∧ AI E x st a w L objs1 srcs1 pend1 Ls1 ow1 ∧ AExt E x st w L objs objs1 pend pend1 bor bor1 Ls Ls1 ow ow1 ∧ AVR E.P w (Fb x w ow1 bor1) (lc Ls1) (obList objs1) s' v := by
    have hv0 := hv 0 s v rfl rfl
    have bad : ∀ {rs : List Loc}, Runs E.P st .fail rs d → False := fun h => nomatch h
    cases s with
    | one sc =>
     cases hv0 with
     | one hs =>
      obtain ⟨s', objs1, srcs1, pend1, bor1, Ls1, ow1, rs1, q1, q2, q3, q4⟩ := argSC_sound h hs hr
      exact ⟨_, _, _, _, _, _, _, _, q1, q2, q3, .one q4⟩
    | agg ss =>
     cases hv0 with
     | @agg _ us hl2 hs =>
      obtain ⟨bs, objs1, srcs1, pend1, bor1, Ls1, ow1, rs1, q1, q2, q3, q4, q5⟩ := argSCs_sound _ [] _ objs srcs pend bor Ls ow rs us.toList h (by simpa using hl2) (fun i s v h1 h2 => hs i s v h1 (by simpa using h2)) hr
      exact ⟨_, _, _, _, _, _, _, _, q1, q2, q3, .agg (by simpa using q4) (fun i s v h1 h2 => q5 i s v (by simpa using h1) (by simpa using h2))⟩
    | bx id off => cases off with
     | zero => exact argBox_sound h hv0 hr
     | succ n => exact (bad hr).elim
    | clo f cs =>
     cases hv0 with
     | @clo _ _ us hl2 hs =>
      obtain ⟨bs, objs1, srcs1, pend1, bor1, Ls1, ow1, rs1, q1, q2, q3, q4, q5⟩ := caps_sound _ [] _ objs srcs pend bor Ls ow rs us.toList h (by simpa using hl2) (fun i s v h1 h2 => hs i s v h1 (by simpa using h2)) hr
      exact ⟨_, _, _, _, _, _, _, _, q1, q2, q3, .clo (by simpa using q4) (fun i s v h1 h2 => q5 i s v (by simpa using h1) (by simpa using h2))⟩
    | ifc t b => cases b with
     | bx id off => cases off with
      | zero =>
       cases hv0 with
       | ifc hv1 =>
        obtain ⟨b, objs1, srcs1, pend1, bor1, Ls1, ow1, rs1, q1, q2, q3, q4⟩ := argBox_sound h hv1 hr
        exact ⟨_, _, _, _, _, _, _, _, q1, q2, q3, .ifc q4⟩
      | succ n => exact (bad hr).elim
     | _ => exact (bad hr).elim
    | _ => exact (bad hr).elim
   obtain ⟨s', objs1, srcs1, pend1, bor1, Ls1, ow1, rs1, q1, q2, q3, q4⟩ := hd
   obtain ⟨bs, objs2, srcs2, pend2, bor2, Ls2, ow2, rs2, p1, p2, p3, p4, p5⟩ := ih (s' :: acc) k objs1 srcs1 pend1 bor1 Ls1 ow1 rs1 vs q2 (by simpa using hl) (fun i s v h1 h2 => (hv (i + 1) s v (by simpa using h1) (by simpa using h2)).step q3.f q3.o) q1
   refine ⟨s' :: bs, objs2, srcs2, pend2, bor2, Ls2, ow2, rs2, by simpa using p1, p2, q3.trans p3, by simp [p4], fun i s v h1 h2 => ?_⟩
   cases i with
   | zero => simp at h1 h2; subst h1; subst h2; exact p3.avr q4
   | succ i => exact p5 i s v (by simpa using h1) (by simpa using h2)
end
end Ev

namespace Ev
open Go
set_option linter.unusedSimpArgs false
section
variable {E : Env} {x : Cx} {st : St} {a : Act} {w w' : World} {L L' : Nat → Pl} {ow ow' : Own} {rs : List Loc} {d : Delta} {o : Oper} {next : Act → World → Prop} {Q : Exit → Act → World → Prop}
def backC : Src → List C → List C → List C
 | .box _, _, cells' => cells'
 | .own _ _ p, cells, [c] => putC cells c p
 | .own _ _ _, cells, _ => cells
def bump : Src → Nat
 | .own _ _ (.elem _ _ _) => 0
 | _ => 1
theorem sameE_ok {a : Option C} {c : C} (h : sameE a c = true) (e : TypeId) (rows : List (List C)) (hc : c = .us e rows) : ∃ rows2, a = some (.us e rows2) := by
 subst hc
 unfold sameE at h
 split at h
 ·rename_i e1 r1 e2 r2 heq
  injection heq with h1 h2
  subst h1
  exact ⟨_, by rw [Nat.eq_of_beq_eq_true h]⟩
 ·cases h
 ·exfalso; simp_all
def BackOk (srcs : List Src) (objs' : List (List C)) (o o' : List Ob) (id : Nat) : Prop :=
 (∃ (j : Nat) (s : Src) (cells' : List C) (ob : Ob) (cells : List C), srcs[j]? = some s ∧ s.id = id ∧ s.cellAt = none ∧ (∀ (j' : Nat) (s' : Src), srcs[j']? = some s' → s'.id = id → j' = j) ∧ objs'[j]? = some cells' ∧ o[id]? = some ob ∧ ob.cells = some cells ∧
  o'[id]? = some { ob with g := ob.g + bump s, cells := some (backC s cells cells') } ∧ ∀ id g p, s = .own id g p → ∃ c, cells' = [c] ∧ notMe c = true ∧ ∀ off i j, p = .elem off i j → ∀ e rows, c = .us e rows → ∃ rows2, getC cells p = some (.us e rows2)) ∨
 (∃ (ob : Ob) (cells : List C) (n : Nat) (cells2 : List C), o[id]? = some ob ∧ ob.cells = some cells ∧ o'[id]? = some { ob with g := ob.g + n + 1, cells := some cells2 } ∧ cells2.length = cells.length ∧
  (∀ (j : Nat) (s : Src), srcs[j]? = some s → s.id = id → ∃ off c, s.cellAt = some off ∧ objs'[j]? = some [c] ∧ (off < cells.length → cells2[off]? = some c) ∧ notMe c = true) ∧
  ∀ k, (∀ (j : Nat) (s : Src), srcs[j]? = some s → s.id = id → s.cellAt ≠ some k) → cells2[k]? = cells[k]?)
theorem backM_runs {P : Program} : ∀ (srcs : List Src) (objs' : List (List C)) (pend : List (Nat × Ob)) (k : List (Nat × Ob) → M) (rs : List Loc), (∀ p ∈ pend, p.1 < st.o.length) → (∀ (j j' : Nat) (s s' : Src), srcs[j]? = some s → srcs[j']? = some s' → s.id = s'.id → j = j' ∨ Apart s s') →
  Runs P st (backM srcs objs' pend k) rs d → ∃ pend' rs', Runs P st (k pend') rs' d ∧ (∀ p ∈ pend', p.1 < st.o.length) ∧ objs'.length = srcs.length ∧ (∀ id, (∀ (j : Nat) (s : Src), srcs[j]? = some s → s.id ≠ id) → (st.pend pend').o[id]? = (st.pend pend).o[id]?) ∧
   ∀ id, (∃ (j : Nat) (s : Src), srcs[j]? = some s ∧ s.id = id) → BackOk srcs objs' (st.pend pend).o (st.pend pend').o id := by
 intro srcs
 induction srcs with
 | nil =>
  intro objs' pend k rs hl hd hr
  cases objs' with
  | nil => exact ⟨pend, rs, hr, hl, rfl, fun _ _ => rfl, by simp⟩
  | cons c l => exact nomatch (show Runs P st .fail rs d from hr)
 | cons s l ih =>
  intro objs' pend k rs hl hd hr
  cases objs' with
  | nil => cases s <;> exact nomatch (show Runs P st .fail rs d from hr)
  | cons cells' os =>
   have hhead : ∃ ob cells rs1, (st.pend pend).o[s.id]? = some ob ∧ ob.cells = some cells ∧ Runs P st (backM l os ((s.id, { ob with g := ob.g + bump s, cells := some (backC s cells cells') }) :: pend) k) rs1 d ∧ ∀ id g p, s = .own id g p → ∃ c, cells' = [c] ∧ notMe c = true ∧ ∀ off i j, p = .elem off i j → ∀ e rows, c = .us e rows → ∃ rows2, getC cells p = some (.us e rows2) := by
    cases s with
    | box id =>
     obtain ⟨ob, rs1, h1, h2⟩ := getOb_runs hr hl
     obtain ⟨cells, h3, h4⟩ := cellsOf_runs h2
     obtain ⟨hb, h5⟩ := runs_cond h4
     exact ⟨ob, cells, _, h1, h3, h5, (fun _ _ _ h => nomatch h)⟩
    | own id g p =>
     cases cells' with
     | nil => exact nomatch (show Runs P st .fail rs d from hr)
     | cons c cs => cases cs with
      | cons c2 cs => exact nomatch (show Runs P st .fail rs d from hr)
      | nil =>
       obtain ⟨hnm, hr⟩ := runs_cond hr
       obtain ⟨ob, rs1, h1, h2⟩ := getOb_runs hr hl
       obtain ⟨cells, h3, h4⟩ := cellsOf_runs h2
       cases p with
       | cell off => exact ⟨ob, cells, _, h1, h3, h4, fun _ _ _ he => ⟨c, rfl, hnm, fun _ _ _ hp => by injection he with _ _ he; subst he; cases hp⟩⟩
       | elem off i j =>
        dsimp only at h4
        split at h4
        ·rename_i e1 rows hc
         cases h4 with
         | row hrow h6 =>
          rename_i r0
          dsimp only at h6
          have hbc : backC (.own id g (.elem off i j)) cells [c] = cells.set off (.us e1 (rows.set i (r0.set j c))) := by simp [backC, putC, hc, hrow]
          obtain ⟨hb, h7⟩ := runs_cond h6
          rw [← hbc] at h7
          refine ⟨ob, cells, _, h1, h3, h7, fun _ _ _ he => ⟨c, rfl, hnm, fun off2 i2 j2 hp e rows3 hce => ?_⟩⟩
          injection he with _ _ he
          subst he
          obtain ⟨rows2, h8⟩ := sameE_ok hb e rows3 hce
          exact ⟨rows2, by simp [getC, hc, hrow, h8]⟩
        ·cases h4
   obtain ⟨ob, cells, rs1, k1, k2, k3, k4⟩ := hhead
   obtain ⟨pend', rs2, p1, p2, p3, p4, p5⟩ := ih os _ k rs1 (fun q hq => by
    rcases List.mem_cons.1 hq with rfl | hq
    ·exact pend_lt k1
    ·exact hl q hq) (fun j j' s1 s2 h1 h2 h3 => by
    have := hd (j + 1) (j' + 1) s1 s2 (by simpa using h1) (by simpa using h2) h3
    exact this.imp (fun h => by omega) id) k3
   have hput : ∀ id ob', (st.pend ((id, ob') :: pend)).o = (st.pend pend).o.set id ob' := fun _ _ => rfl
   have hself : (st.pend ((s.id, { ob with g := ob.g + bump s, cells := some (backC s cells cells') }) :: pend)).o[s.id]? = some { ob with g := ob.g + bump s, cells := some (backC s cells cells') } := by
    rw [hput, List.getElem?_set_self (List.getElem?_eq_some_iff.1 k1).1]
   refine ⟨pend', rs2, p1, p2, by simp [p3], fun id hid => ?_, fun id hid => ?_⟩
   ·rw [p4 id (fun j s' hj => hid (j + 1) s' (by simpa using hj)), hput, List.getElem?_set_ne (hid 0 s rfl)]
   ·by_cases htail : ∃ (j : Nat) (s' : Src), l[j]? = some s' ∧ s'.id = id
    ·have hB := p5 id htail
     by_cases hs : s.id = id
     ·-- more cells of one object
      obtain ⟨j0, s0, h0, h0i⟩ := htail
      have hap : ∀ (j : Nat) (s' : Src), l[j]? = some s' → s'.id = id → Apart s s' := fun j s' hj hi => by
       rcases hd 0 (j + 1) s s' rfl (by simpa using hj) (by rw [hs, hi]) with h | h
       ·omega
       ·exact h
      obtain ⟨a, _, ha, _, _⟩ := hap j0 s0 h0 h0i
      have hown : ∃ g, s = .own id g (.cell a) := by
       cases s with
       | box i => cases ha
       | own i g p => cases p with
        | cell off => injection ha with ha; subst ha; simp only [Src.id] at hs; subst hs; exact ⟨g, rfl⟩
        | elem _ _ _ => cases ha
      obtain ⟨g, hown⟩ := hown
      obtain ⟨c, hc, hnm, _⟩ := k4 _ _ _ hown
      subst hown; subst hc
      rcases hB with ⟨j1, s1, _, _, _, h1, h1i, h1c, _⟩ | ⟨ob1, cells1, n, cells2, b1, b2, b3, b4, b5, b6⟩
      ·obtain ⟨_, b, _, hb, _⟩ := hap j1 s1 h1 h1i
       rw [h1c] at hb; cases hb
      ·have hself' := hself
       simp only [Src.id] at hself' b1
       rw [hself'] at b1; injection b1 with b1; subst b1
       simp only [Option.some.injEq] at b2
       subst b2
       simp only [backC, putC, bump] at b3 b4 b5 b6
       refine .inr ⟨ob, cells, n + 1, cells2, k1, k2, ?_, by rw [b4, List.length_set], fun j s' hj hi => ?_, fun k hk => ?_⟩
       ·rw [b3]; simp only [Option.some.injEq, Ob.mk.injEq, and_true]; omega
       ·cases j with
        | zero =>
         simp at hj; subst hj
         refine ⟨a, c, rfl, rfl, fun hlt => ?_, hnm⟩
         rw [b6 a fun j s' hj hi he => by
          obtain ⟨a', b', e1, e2, e3⟩ := hap j s' hj hi
          rw [he] at e2; injection e1 with e1; injection e2 with e2; exact e3 (e1.symm.trans e2), List.getElem?_set_self hlt]
        | succ j =>
         obtain ⟨off, c', e1, e2, e3, e4⟩ := b5 j s' (by simpa using hj) hi
         exact ⟨off, c', e1, by simpa using e2, fun hlt => e3 (by rw [List.length_set]; exact hlt), e4⟩
       ·rw [b6 k fun j s' hj hi => hk (j + 1) s' (by simpa using hj) hi, List.getElem?_set_ne fun e => hk 0 _ rfl rfl (by rw [← e]; rfl)]
     ·-- another object's
      have ho1 : (st.pend ((s.id, { ob with g := ob.g + bump s, cells := some (backC s cells cells') }) :: pend)).o[id]? = (st.pend pend).o[id]? := by
       rw [hput, List.getElem?_set_ne hs]
      rcases hB with ⟨j1, s1, cells1, ob1, c1, h1, h2, h3, h4, h5, h6, h7, h8, h9⟩ | ⟨ob1, cells1, n, cells2, b1, b2, b3, b4, b5, b6⟩
      ·refine .inl ⟨j1 + 1, s1, cells1, ob1, c1, by simpa using h1, h2, h3, fun j' s' hj hi => ?_, by simpa using h5, ho1.symm.trans h6, h7, h8, h9⟩
       cases j' with
       | zero => simp at hj; subst hj; exact absurd hi hs
       | succ j' => rw [h4 j' s' (by simpa using hj) hi]
      ·refine .inr ⟨ob1, cells1, n, cells2, ho1.symm.trans b1, b2, b3, b4, fun j s' hj hi => ?_, fun k hk => b6 k fun j s' hj hi => hk (j + 1) s' (by simpa using hj) hi⟩
       cases j with
       | zero => simp at hj; subst hj; exact absurd hi hs
       | succ j =>
        obtain ⟨off, c', e1, e2, e3⟩ := b5 j s' (by simpa using hj) hi
        exact ⟨off, c', e1, by simpa using e2, e3⟩
    ·have hs : s.id = id := by
      obtain ⟨j, s', hj, hi⟩ := hid
      cases j with
      | zero => simp at hj; subst hj; exact hi
      | succ j => exact absurd ⟨j, s', by simpa using hj, hi⟩ htail
     subst hs
     have hno : ∀ (j : Nat) (s' : Src), l[j]? = some s' → s'.id ≠ s.id := fun j s' hj hi => htail ⟨j, s', hj, hi⟩
     have hfin := (p4 s.id hno).trans hself
     cases hca : s.cellAt with
     | none =>
      refine .inl ⟨0, s, cells', ob, cells, rfl, rfl, hca, fun j' s' hj hi => ?_, rfl, k1, k2, hfin, k4⟩
      cases j' with
      | zero => rfl
      | succ j' => exact absurd hi (hno j' s' (by simpa using hj))
     | some a =>
      have hown : ∃ g, s = .own s.id g (.cell a) := by
       cases s with
       | box i => cases hca
       | own i g p => cases p with
        | cell off => injection hca with hca; subst hca; exact ⟨g, rfl⟩
        | elem _ _ _ => cases hca
      obtain ⟨g, hown⟩ := hown
      obtain ⟨c, hc, hnm, _⟩ := k4 _ _ _ hown
      subst hc
      have hbc : backC s cells [c] = cells.set a c := by rw [hown]; rfl
      have hbu : bump s = 1 := by rw [hown]; rfl
      rw [hbc, hbu] at hfin
      refine .inr ⟨ob, cells, 0, cells.set a c, k1, k2, hfin, by simp, fun j s' hj hi => ?_, fun k hk => ?_⟩
      ·cases j with
       | zero => simp at hj; subst hj; exact ⟨a, c, hca, rfl, fun hlt => List.getElem?_set_self hlt, hnm⟩
       | succ j => exact absurd hi (hno j s' (by simpa using hj))
      ·rw [List.getElem?_set_ne fun e => hk 0 s rfl rfl (by rw [← e]; exact hca)]
def adG (d k : Nat) : RV → Option AV
 | .tup l => (adTup d k l).map .tup
 | r => adAV d k r
theorem adopt_adG {d : Nat} {r : RV} : adopt d r = adG d 0 r := by
 cases r with
 | tup l => simp only [adopt, adG]; cases adTup d 0 l <;> rfl
 | _ => rfl
def scAt (d k : Nat) (c : C) : SC := if c.isUs then .ref d 0 (.cell k) else .c c
theorem scs_one {d k : Nat} {c : C} : scs d 0 .cell k [c] = [scAt d k c] := by cases c <;> rfl
theorem RVR.flat {P : Program} {F : Frs} {m k : Nat} {r : RV} {v : Value} (h : RVR P w F ow m k r v) : ∃ vs : List Value, vs.length = (rvCells r).length ∧ (∀ (i : Nat) (c : C) (u : Value), (rvCells r)[i]? = some c → vs[i]? = some u → OC P w F ow [m, k + i] c u) ∧
  ∀ (d : Nat) (w' : World) (F' : Frs) (L : Nat → Pl) (o : List Ob) (b : AV), adG d k r = some b → (∀ (i : Nat) (c : C) (u : Value), (rvCells r)[i]? = some c → vs[i]? = some u → SCR P w' F' L o (scAt d (k + i) c) u) → AVR P w' F' L o b v := by
 induction h with
 | @one k c v ho =>
  refine ⟨[v], rfl, fun i c' u h1 h2 => ?_, fun d w' F' L o b hb hs => ?_⟩
  ·cases i with
   | zero => simp [rvCells, rvCell1, tupCells] at h1 h2; subst h1; subst h2; exact ho
   | succ i => simp at h2
  ·simp only [adG, adAV, scs_one] at hb
   injection hb with hb; subst hb
   exact .one (hs 0 c v rfl rfl)
 | @agg k l vs hl ho =>
  refine ⟨vs.toList, by simpa [rvCells, rvCell1, tupCells] using hl.symm, fun i c u h1 h2 => ho i c u h1 (by simpa using h2), fun d w' F' L o b hb hs => ?_⟩
  simp only [adG, adAV] at hb
  injection hb with hb; subst hb
  refine .agg (by rw [scs_length]; exact hl) fun i s u h1 h2 => ?_
  rw [scs_get] at h1
  cases hc : l[i]? with
  | none => rw [hc] at h1; cases h1
  | some c => rw [hc] at h1; simp at h1; subst h1; exact hs i c u hc (by simpa using h2)
 | tnil =>
  refine ⟨[], rfl, by simp, fun d w' F' L o b hb hs => ?_⟩
  simp [adG, adTup] at hb; subst hb
  exact .tup rfl (by simp)
 | @bx g cells hR =>
  refine ⟨(List.range cells.length).map fun j => (w.cell? ⟨g, j, none⟩).getD undef, by simp [rvCells, rvCell1], fun i c u h1 h2 => ?_, fun d w' F' L o b hb hs => ?_⟩
  ·have h1 : cells[i]? = some c := h1
   have hi := (List.getElem?_eq_some_iff.1 h1).1
   obtain ⟨u', q1, q2⟩ := hR.cell i c h1
   have q1 : w.cell? ⟨g, i, none⟩ = some u' := q1
   simp [hi, q1] at h2
   subst h2
   rw [Nat.zero_add]; exact q2
  ·simp [adG, adAV] at hb
 | @ifc k t l v ho ih =>
  obtain ⟨us, q1, q2, q3⟩ := ih
  refine ⟨us, q1, q2, fun d w' F' L o b hb hs => ?_⟩
  simp only [adG, adAV] at hb
  injection hb with hb; subst hb
  exact .ifc (q3 d w' F' L o _ rfl hs)
 | @tone k c l v vs ho h2 ih =>
  obtain ⟨us, q1, q2, q3⟩ := ih
  refine ⟨v :: us, by simp [rvCells, rvCell1, tupCells, q1], fun i c' u h1 h2 => ?_, fun d w' F' L o b hb hs => ?_⟩
  ·cases i with
   | zero => simp [rvCells, rvCell1, tupCells] at h1 h2; subst h1; subst h2; exact ho
   | succ i =>
    have := q2 i c' u (by simpa [rvCells, rvCell1, tupCells] using h1) (by simpa using h2)
    rw [Nat.add_assoc, Nat.add_comm 1 i] at this; exact this
  ·simp only [adG, adTup, adAV, scs_one] at hb
   cases hat : adTup d (k + 1) l with
   | none => simp [hat] at hb
   | some al =>
    simp [hat] at hb; subst hb
    have ht := q3 d w' F' L o (.tup al) (by simp [adG, hat]) fun i c' u h1 h2 => by
     have := hs (i + 1) c' u (by simpa [rvCells, rvCell1, tupCells] using h1) (by simpa using h2)
     rw [Nat.add_assoc, Nat.add_comm 1 i]; exact this
    cases ht with
    | tup hl2 hs2 =>
     refine .tup (by simpa using hl2) fun i s u h1 h2 => ?_
     cases i with
     | zero => simp at h1 h2; subst h1; subst h2; exact .one (hs 0 c v rfl rfl)
     | succ i => exact hs2 i s u (by simpa using h1) (by simpa using h2)
 | @tagg k cs l v vs ho h2 ih1 ih =>
  obtain ⟨us1, q1, q2, q3⟩ := ih1
  obtain ⟨us2, p1, p2, p3⟩ := ih
  have q1 : us1.length = cs.length := q1
  refine ⟨us1 ++ us2, by simp [rvCells, rvCell1, tupCells, q1, p1], fun i c' u h1 h2 => ?_, fun d w' F' L o b hb hs => ?_⟩
  ·simp only [rvCells, tupCells] at h1
   by_cases hi : i < cs.length
   ·rw [List.getElem?_append_left hi] at h1
    rw [List.getElem?_append_left (by omega)] at h2
    exact q2 i c' u h1 h2
   ·rw [List.getElem?_append_right (by omega)] at h1
    rw [List.getElem?_append_right (by omega), q1] at h2
    have := p2 (i - cs.length) c' u h1 h2
    rw [show k + cs.length + (i - cs.length) = k + i by omega] at this; exact this
  ·simp only [adG, adTup, adAV] at hb
   cases hat : adTup d (k + cs.length) l with
   | none => simp [hat] at hb
   | some al =>
    simp [hat] at hb; subst hb
    have hh := q3 d w' F' L o (.agg (scs d 0 .cell k cs)) rfl fun i c' u h1 h2 => by
     have hi : i < cs.length := (List.getElem?_eq_some_iff.1 h1).1
     exact hs i c' u (by simp only [rvCells, tupCells]; rw [List.getElem?_append_left hi]; exact h1) (by rw [List.getElem?_append_left (by omega)]; exact h2)
    have ht := p3 d w' F' L o (.tup al) (by simp [adG, hat]) fun i c' u h1 h2 => by
     have := hs (cs.length + i) c' u (by have h1' : (tupCells l)[i]? = some c' := h1; show (cs ++ tupCells l)[cs.length + i]? = some c'; rw [List.getElem?_append_right (by omega)]; simpa using h1') (by rw [List.getElem?_append_right (by omega), q1]; simpa using h2)
     rw [Nat.add_assoc]; exact this
    cases ht with
    | tup hl2 hs2 =>
     refine .tup (by simpa using hl2) fun i s u h1 h2 => ?_
     cases i with
     | zero => simp at h1 h2; subst h1; subst h2; exact hh
     | succ i => exact hs2 i s u (by simpa using h1) (by simpa using h2)
theorem adoptM_runs {P : Program} {m : Nat} {dst : Option Tmp} {r : RV} {pend : List (Nat × Ob)} (hr : Runs P st (adoptM m dst r pend) rs d) : (dst = none ∧ d = ⟨[], pend, []⟩) ∨
  (∃ dd b, dst = some dd ∧ adG (dd + m) 0 r = some b ∧ ((anyUs (rvCells r) = false ∧ d = ⟨[(dd, some b)], pend, []⟩) ∨ ∃ ob, st.o[dd + m]? = some ob ∧ ob.cells = none ∧ d = ⟨[(dd, some b)], (dd + m, ⟨0, 1, some (rvCells r)⟩) :: pend, []⟩)) ∨
  ∃ dd cells ob, dst = some dd ∧ r = .bx cells ∧ st.o[dd + m]? = some ob ∧ ob.cells = none ∧ d = ⟨[(dd, some (.bx (dd + m) 0))], (dd + m, ⟨0, 0, some cells⟩) :: pend, []⟩ := by
 unfold adoptM at hr
 split at hr
 ·cases hr; exact .inl ⟨rfl, rfl⟩
 ·rename_i dd
  split at hr
  ·rename_i cells
   cases hr with
   | obj h1 h2 =>
    obtain ⟨h3, h4⟩ := isAbsent_runs h2
    cases h4
    exact .inr (.inr ⟨dd, cells, _, rfl, rfl, h1, h3, rfl⟩)
  ·split at hr
   ·rename_i b hb
    rw [adopt_adG] at hb
    refine .inr (.inl ⟨dd, b, rfl, hb, ?_⟩)
    cases hu : anyUs (rvCells r) with
    | false => rw [hu] at hr; cases hr; exact .inl ⟨rfl, rfl⟩
    | true =>
     rw [hu] at hr
     cases hr with
     | obj h1 h2 =>
      obtain ⟨h3, h4⟩ := isAbsent_runs h2
      cases h4
      exact .inr ⟨_, h1, h3, rfl⟩
   ·cases hr
theorem anyUs_false {l : List C} (h : anyUs l = false) {i : Nat} {c : C} (hc : l[i]? = some c) : c.isUs = false := by
 induction l generalizing i with
 | nil => simp at hc
 | cons c0 l ih =>
  cases i with
  | zero => simp at hc; subst hc; cases c0 <;> first | rfl | simp [anyUs] at h
  | succ i => exact ih (by cases c0 <;> simp [anyUs] at h <;> exact h) (by simpa using hc)
theorem splitRV_runs {P : Program} {r : RV} {k : RV → M} (hr : Runs P st (splitRV r k) rs d) : Runs P st (k r) rs d := by
 unfold splitRV at hr
 split at hr
 ·cases hr with | split h => exact h
 ·cases hr with | split h => exact h
 ·exact hr
end
end Ev

namespace Ev
open Go
set_option linter.unusedSimpArgs false
section
variable {E : Env} {x : Cx} {st : St} {a : Act} {w w' : World} {L L' : Nat → Pl} {ow ow' : Own} {rs : List Loc} {d : Delta} {o : Oper} {next : Act → World → Prop} {Q : Exit → Act → World → Prop}
def strip (p r : List Nat) : Option (List Nat) := if p.isPrefixOf r then some (r.drop p.length) else none
theorem strip_append {p r : List Nat} : strip p (p ++ r) = some r := by simp [strip]
theorem strip_some {p r s : List Nat} (h : strip p r = some s) : r = p ++ s := by
 unfold strip at h
 split at h
 ·rename_i hp
  injection h with h; subst h
  obtain ⟨t, ht⟩ := List.isPrefixOf_iff_prefix.1 hp
  rw [← ht]; simp
 ·cases h
def Src.path : Src → List Nat
 | .box id => [id]
 | .own id _ p => pathOf id p
def Src.top (j : Nat) : Src → List Nat
 | .box _ => [j]
 | .own _ _ _ => [j, 0]
theorem Src.path_head (s : Src) : ∃ t, s.path = s.id :: t := by
 cases s with
 | box id => exact ⟨[], rfl⟩
 | own id g p => obtain ⟨off, t, h⟩ := pathOf_head id p; exact ⟨off :: t, h⟩
def toC : List Src → Nat → List Nat → Option (List Nat)
 | [], _, _ => none
 | s :: l, j, p => match strip s.path p with
  | some r => some (s.top j ++ r)
  | none => toC l (j + 1) p
theorem toC_inv : ∀ (srcs : List Src) (j0 : Nat) (p q : List Nat), toC srcs j0 p = some q → ∃ (j : Nat) (s : Src) (t : List Nat), srcs[j]? = some s ∧ p = s.path ++ t ∧ q = s.top (j0 + j) ++ t := by
 intro srcs
 induction srcs with
 | nil => intro j0 p q h; simp [toC] at h
 | cons s l ih =>
  intro j0 p q h
  simp only [toC] at h
  split at h
  ·rename_i r hr
   injection h with h
   exact ⟨0, s, r, rfl, strip_some hr, h.symm⟩
  ·obtain ⟨j, s', t, h1, h2, h3⟩ := ih (j0 + 1) p q h
   exact ⟨j + 1, s', t, by simpa using h1, h2, by rw [h3, Nat.add_assoc, Nat.add_comm 1 j]⟩
theorem cellAt_path {s : Src} {a : Nat} (h : s.cellAt = some a) : s.path = [s.id, a] := by
 cases s with
 | box i => cases h
 | own i g p => cases p with
  | cell off => injection h with h; subst h; rfl
  | elem _ _ _ => cases h
theorem toC_hit : ∀ (srcs : List Src) (j0 j : Nat) (s : Src) (t : List Nat), (∀ (j j' : Nat) (s s' : Src), srcs[j]? = some s → srcs[j']? = some s' → s.id = s'.id → j = j' ∨ Apart s s') → srcs[j]? = some s → toC srcs j0 (s.path ++ t) = some (s.top (j0 + j) ++ t) := by
 intro srcs
 induction srcs with
 | nil => intro j0 j s t _ h; simp at h
 | cons s0 l ih =>
  intro j0 j s t hd h
  simp only [toC]
  cases j with
  | zero => simp at h; subst h; rw [strip_append]; rfl
  | succ j =>
   have hn : strip s0.path (s.path ++ t) = none := by
    cases hs : strip s0.path (s.path ++ t) with
    | none => rfl
    | some r =>
     have := strip_some hs
     by_cases he : s0.id = s.id
     ·rcases hd 0 (j + 1) s0 s rfl h he with h0 | ⟨a, b, h1, h2, h3⟩
      ·omega
      ·rw [cellAt_path h1, cellAt_path h2] at this
       simp at this
       exact absurd this.2.1.symm h3
     ·obtain ⟨t1, h1⟩ := s0.path_head
      obtain ⟨t2, h2⟩ := s.path_head
      rw [h1, h2] at this
      simp at this
      exact absurd this.1.symm he
   rw [hn]
   rw [ih (j0 + 1) j s t (fun j j' s s' h1 h2 h3 => (hd (j + 1) (j' + 1) s s' (by simpa using h1) (by simpa using h2) h3).imp (fun h => by omega) fun h => h) (by simpa using h), Nat.add_assoc, Nat.add_comm 1 j]
theorem toC_none {srcs : List Src} {j0 id : Nat} {r : List Nat} (h : ∀ (j : Nat) (s : Src), srcs[j]? = some s → s.id ≠ id) : toC srcs j0 (id :: r) = none := by
 cases hc : toC srcs j0 (id :: r) with
 | none => rfl
 | some q =>
  obtain ⟨j, s, t, h1, h2, _⟩ := toC_inv _ _ _ _ hc
  obtain ⟨t1, h3⟩ := s.path_head
  rw [h3] at h2; simp at h2
  exact absurd h2.1.symm (h j s h1)
theorem toC_out {srcs : List Src} {j0 j : Nat} {s : Src} {r : List Nat} (hd : ∀ (j' : Nat) (s' : Src), srcs[j']? = some s' → s'.id = s.id → j' = j) (hs : srcs[j]? = some s) (hp : s.path.isPrefixOf (s.id :: r) = false) : toC srcs j0 (s.id :: r) = none := by
 cases hc : toC srcs j0 (s.id :: r) with
 | none => rfl
 | some q =>
  obtain ⟨j', s', t, h1, h2, _⟩ := toC_inv _ _ _ _ hc
  obtain ⟨t1, h3⟩ := s'.path_head
  have h2' := h2
  rw [h3] at h2'; simp at h2'
  have := hd j' s' h1 h2'.1.symm
  subst this
  rw [hs] at h1; injection h1 with h1; subst h1
  rw [h2] at hp; rw [isPrefixOf_append] at hp; cases hp
theorem toC_cells {srcs : List Src} {j0 id : Nat} {r : List Nat} (hc : ∀ (j : Nat) (s : Src), srcs[j]? = some s → s.id = id → ∃ off, s.cellAt = some off ∧ ∀ k t, r = k :: t → off ≠ k) : toC srcs j0 (id :: r) = none := by
 cases hq : toC srcs j0 (id :: r) with
 | none => rfl
 | some q =>
  obtain ⟨j, s, t, h1, h2, _⟩ := toC_inv _ _ _ _ hq
  obtain ⟨t1, h3⟩ := s.path_head
  have h2' := h2
  rw [h3] at h2'; simp at h2'
  obtain ⟨off, h4, h5⟩ := hc j s h1 h2'.1.symm
  rw [cellAt_path h4] at h2
  simp at h2
  exact absurd rfl (h5 off t h2.2)
def backP (srcs : List Src) (m d : Nat) : List Nat → Option (List Nat)
 | [] => none
 | j :: r => if j = m then some (d :: r) else match srcs[j]? with
  | some (.box id) => some (id :: r)
  | some (.own id _ q) => (match r with
   | 0 :: s => some (pathOf id q ++ s)
   | _ => none)
  | none => none
theorem backP_hit {srcs : List Src} {m d j : Nat} {s : Src} {t : List Nat} (h : srcs[j]? = some s) (hm : srcs.length = m) : backP srcs m d (s.top j ++ t) = some (s.path ++ t) := by
 have hj := (List.getElem?_eq_some_iff.1 h).1
 have hne : j ≠ m := by omega
 cases s with
 | box id => simp [backP, Src.top, Src.path, hne, h]
 | own id g p => simp [backP, Src.top, Src.path, hne, h]
theorem OC.closed {P : Program} {F F' : Frs} {p : List Nat} {c : C} {v : Value} (h : OC P w F ow p c v) (hc : Closed c) : ∀ {p' : List Nat}, (∀ k r, ow k = some (p ++ r) → ow' k = some (p' ++ r)) → OC P w F' ow' p' c v := by
 induction h with
 | v hx => exact fun _ => .v hx
 | x hx => exact fun _ => .x hx
 | sl hf => cases hc
 | ex hf => cases hc
 | me hx => cases hc
 | us hown hp hsz how _ ih =>
  intro p' hO
  cases hc with
  | us hc =>
   refine .us hown hp hsz (fun g hg => ?_) (fun i r j c hi hj => ih i r j c hi hj (hc r (List.mem_of_getElem? hi) c (List.mem_of_getElem? hj)) fun k q hk => ?_)
   ·have := hO g [] (by rw [List.append_nil]; exact how g hg)
    rwa [List.append_nil] at this
   ·rw [List.append_assoc] at hk ⊢
    exact hO k ([i, j] ++ q) hk
 | mp => intro _; cases hc
theorem ObjR.retell {P : Program} {F F' : Frs} {id : Nat} {pl : Pl} {cells : List C} {p : Pth} {c n : C} (h : ObjR P w F ow id pl cells) (hg : getC cells p = some c) (hF : FStep w w' F F')
  (hn : ∀ v, ValAt P w pl cells p v → OC P w' F' ow' (pathOf id p) n v)
  (hO : ∀ k r, ow k = some (id :: r) → (pathOf id p).isPrefixOf (id :: r) = false → w'.heap[k]? = w.heap[k]? ∧ ow' k = some (id :: r)) (hnm : ∀ T, n ≠ .me T := by intro T h; cases h) : ObjR P w' F' ow' id pl (putC cells n p) := by
 have htag : ∀ g cs T, pl = .blk g → w.heap[g]? = some (.cells cs T (0, 0)) → ∃ cs', w'.heap[g]? = some (.cells cs' T (0, 0)) := fun g cs T hgb hh => ⟨cs, (hO g [] (h.blk g hgb).1 (by cases p <;> simp [pathOf, List.isPrefixOf])).1.trans hh⟩
 have hb : ∀ g, pl = .blk g → ow' g = some [id] ∧ ∃ cs e, w'.heap[g]? = some (.cells cs e (0, 0)) ∧ cs.size = cells.length := fun g hgb => by
  obtain ⟨h1, cs, e, h2, h3⟩ := h.blk g hgb
  have := hO g [] h1 (by cases p <;> simp [pathOf, List.isPrefixOf])
  exact ⟨this.2, cs, e, this.1.trans h2, h3⟩
 have hval : ∀ j, pl.val w' j = pl.val w j := fun j => Pl.val_same fun g hgb => (hO g [] (h.blk g hgb).1 (by cases p <;> simp [pathOf, List.isPrefixOf])).1
 cases p with
 | cell off =>
  obtain ⟨u, h1, h2⟩ := h.cell off c hg
  exact h.setCell hF hb (fun j _ => hval j) ⟨u, (hval off).trans h1, hn u h1⟩ (fun k j s hk hj => hO k (j :: s) hk (by simp [pathOf, List.isPrefixOf, Ne.symm hj])) hnm htag
 | elem off i j =>
  obtain ⟨v, hv, _⟩ := h.at_ hg
  simp only [getC] at hg
  cases hc : cells[off]? with
  | none => simp [hc] at hg
  | some c1 =>
   cases c1 with
   | us e rows =>
    simp only [hc] at hg
    cases hr : rows[i]? with
    | none => simp [hr] at hg
    | some r =>
     simp only [hr] at hg
     have hput : putC cells n (.elem off i j) = cells.set off (.us e (rows.set i (r.set j n))) := by simp [putC, hc, hr]
     rw [hput]
     obtain ⟨u, h1, h2⟩ := h.cell off _ hc
     refine h.setCell hF hb (fun j _ => hval j) ⟨u, (hval off).trans h1, ?_⟩ (fun k j' s hk hj => hO k (j' :: s) hk (by simp [pathOf, List.isPrefixOf, Ne.symm hj])) (by intro T h; cases h) htag
     have h3 := h2
     cases h3 with
     | us hown hp hsz how ih =>
      have hl := hsz r (List.mem_of_getElem? hr)
      have hlt := idx_lt (List.getElem?_eq_some_iff.1 hr).1 (show j < P.cellsOf e from hl ▸ (List.getElem?_eq_some_iff.1 hg).1)
      have hgo : ∀ g, u.ownBlock = some g → w'.heap[g]? = w.heap[g]? ∧ ow' g = some [id, off] := fun g hgo => hO g [off] (how g hgo) (by simp [pathOf, List.isPrefixOf])
      refine h2.setElem hr (List.getElem?_eq_some_iff.1 hg).1 hF (fun inner hin => ⟨inner, ownsRow_move hin fun g hg => (hgo g hg).1, fun _ _ => rfl, ?_⟩) (fun g hg => (hgo g hg).2)
       (fun k s hk hs hps => hO k (off :: s) hk (by simpa [pathOf, List.isPrefixOf] using hps))
      obtain ⟨g, cap, hu, _, _, hcell, _⟩ := ownsRow_cell hin hlt
      exact hn _ ⟨e, rows, u, g, hc, h1, by rw [hu]; rfl, hcell⟩
   | v _ => simp [hc] at hg
   | sl _ => simp [hc] at hg
   | x => simp [hc] at hg
   | mp _ => simp [hc] at hg
   | ex _ _ => simp [hc] at hg
   | me _ => simp [hc] at hg
end
end Ev

namespace Ev
open Go
set_option linter.unusedSimpArgs false
section
variable {E : Env} {x : Cx} {st : St} {a : Act} {w w' : World} {L L' : Nat → Pl} {ow ow' : Own} {rs : List Loc} {d : Delta} {o : Oper} {next : Act → World → Prop} {Q : Exit → Act → World → Prop}
def ow0 (srcs : List Src) (ow : Own) : Own := fun k => match ow k with
 | some p => toC srcs 0 p
 | none => none
def ow2 (srcs : List Src) (m d : Nat) (w : World) (ow ow' : Own) : Own := fun k => if (ow0 srcs ow k).isNone && decide (k < w.heap.size) then ow k else match ow' k with
 | some p => backP srcs m d p
 | none => none
theorem ow0_some {srcs : List Src} {k : Nat} {p q : List Nat} (h : ow k = some p) (hq : toC srcs 0 p = some q) : ow0 srcs ow k = some q := by simp [ow0, h, hq]
theorem ow0_none {srcs : List Src} {k : Nat} (h : ow k = none) : ow0 srcs ow k = none := by simp [ow0, h]
theorem ow0_ne {srcs : List Src} {k : Nat} (h : ow0 srcs ow k ≠ none) : ∃ p, ow k = some p := by
 cases ho : ow k with
 | none => exact absurd (ow0_none ho) h
 | some p => exact ⟨p, rfl⟩
theorem ow2_old {srcs : List Src} {m dd k : Nat} (h : ow0 srcs ow k = none) (hk : k < w.heap.size) : ow2 srcs m dd w ow ow' k = ow k := by simp [ow2, h, hk]
theorem ow2_new {srcs : List Src} {m dd k : Nat} (h : ow0 srcs ow k ≠ none ∨ w.heap.size ≤ k) : ow2 srcs m dd w ow ow' k = match ow' k with
 | some p => backP srcs m dd p
 | none => none := by
 unfold ow2
 rw [if_neg]
 rw [Bool.and_eq_true]
 rintro ⟨h1, h2⟩
 simp at h1 h2
 rcases h with h | h
 ·exact h h1
 ·omega
theorem srcsOk_not {srcs : List Src} {bor : List Nat} (h : srcsOk srcs bor = true) {j : Nat} {s : Src} (hs : srcs[j]? = some s) : s.id ∉ bor := by
 have mem : ∀ (l : List Nat) (i : Nat), memN l i = false → i ∉ l := by
  intro l i hm
  induction l with
  | nil => simp
  | cons j l ih =>
   simp [memN] at hm
   intro hin
   rcases List.mem_cons.1 hin with rfl | hin
   ·simp at hm
   ·exact ih hm.2 hin
 induction srcs generalizing j with
 | nil => simp at hs
 | cons s0 l ih =>
  have h' : memN bor s0.id = false ∧ srcsOk l bor = true := by
   cases s0 <;> simpa [srcsOk, Src.id] using h
  cases j with
  | zero => simp at hs; subst hs; exact mem _ _ h'.1
  | succ j => exact ih h'.2 (by simpa using hs)
theorem AI.callee {objs : List (List C)} {srcs : List Src} {pend : List (Nat × Ob)} {bor : List Nat} {Ls : List Pl} (h : AI E x st a w L objs srcs pend Ls ow) (hok : srcsOk srcs bor = true) :
  CxOk E.P w (Fb x w ow bor) (ow0 srcs ow) ∧ (∀ k p, ow0 srcs ow k = some p → k < w.heap.size) ∧
  ∀ (id : Nat) (cells : List C), objs[id]? = some cells → ObjR E.P w (Fb x w ow bor) (ow0 srcs ow) id (lc Ls id) cells := by
 refine ⟨⟨fun k hk => ?_, h.rel.wp.next (Nat.le_refl _) fun g _ hg => ⟨rfl, ow0_none hg⟩⟩, fun k p hk => ?_, fun j cells hj => ?_⟩
 ·rcases hk with hk | ⟨id, hi, r, hr⟩
  ·exact ⟨h.rel.F_lt hk, ow0_none (h.rel.F_own hk)⟩
  ·refine ⟨(h.rel.owOk k _ hr).1, ?_⟩
   simp only [ow0, hr]
   exact toC_none fun j s hs e => srcsOk_not hok hs (e ▸ hi)
 ·obtain ⟨q, hq⟩ := ow0_ne (srcs := srcs) (ow := ow) (k := k) (by rw [hk]; simp)
  exact (h.rel.owOk k q hq).1
 ·have hjl := (List.getElem?_eq_some_iff.1 hj).1
  have hs : srcs[j]? = some (srcs[j]'(by rw [← h.len1]; exact hjl)) := List.getElem?_eq_getElem _
  have hp : Ls[j]? = some (Ls[j]'(by rw [h.len2, ← h.len1]; exact hjl)) := List.getElem?_eq_getElem _
  generalize (srcs[j]'(by rw [← h.len1]; exact hjl)) = s at hs
  generalize (Ls[j]'(by rw [h.len2, ← h.len1]; exact hjl)) = pl at hp
  have hlc : lc Ls j = pl := by simp [lc, List.getD_eq_getElem?_getD, hp]
  rw [hlc]
  have hF : ∀ k, x.F w ow k → w.heap[k]? = w.heap[k]? ∧ Fb x w ow bor k := fun k hk => ⟨rfl, .inl hk⟩
  have hit := fun t => toC_hit srcs 0 j s t h.dist hs
  have := h.src j s cells pl hs hj hp
  cases s with
  | box id =>
   obtain ⟨ob, h1, h2, rfl⟩ := this
   have hR := h.rel.objs id ob cells h1 h2
   have hit : ∀ t, toC srcs 0 (id :: t) = some (j :: t) := fun t => by simpa [Src.top, Src.path] using hit t
   refine ⟨fun g hg => ?_, fun i c hi => ?_, hR.me⟩
   ·obtain ⟨k1, k2⟩ := hR.blk g hg
    exact ⟨ow0_some k1 (hit []), k2⟩
   ·obtain ⟨u, k1, k2⟩ := hR.cell i c hi
    exact ⟨u, k1, k2.move hF fun k r hk => ⟨rfl, ow0_some hk (hit (i :: r))⟩⟩
  | own id g p =>
   obtain ⟨ob, cells0, e, rows, v, h1, h2, h3, rfl, h5, rfl⟩ := this
   have hoc := ownAt_oc h.rel h1 h2 h3 h5
   have hit : ∀ t, toC srcs 0 (pathOf id p ++ t) = some (j :: 0 :: t) := fun t => by simpa [Src.top, Src.path] using hit t
   refine ⟨(fun _ hg => nomatch hg), fun i c hi => ?_, fun _ _ hg => nomatch hg⟩
   cases i with
   | zero =>
    simp at hi; subst hi
    exact ⟨v, rfl, hoc.move hF fun k r hk => ⟨rfl, ow0_some hk (hit r)⟩⟩
   | succ i => simp at hi
theorem srcKs_get : ∀ {srcs : List Src} {j k : Nat}, (srcKs srcs)[j]? = some k → k ≠ 0 → ∃ id g p, srcs[j]? = some (.own id g p) := by
 intro srcs
 induction srcs with
 | nil => intro j k h; simp [srcKs] at h
 | cons s l ih =>
  intro j k h hk
  cases s with
  | box id => cases j with
   | zero => simp [srcKs] at h; exact absurd h.symm hk
   | succ j => exact ih (by simpa [srcKs] using h) hk
  | own id g p => cases j with
   | zero => exact ⟨id, g, p, rfl⟩
   | succ j => exact ih (by simpa [srcKs] using h) hk
theorem AI.kinds_ {objs : List (List C)} {srcs : List Src} {pend : List (Nat × Ob)} {Ls : List Pl} (h : AI E x st a w L objs srcs pend Ls ow) : ∀ (id k : Nat), (srcKs srcs)[id]? = some k → k ≠ 0 → ∃ l, lc Ls id = .vals l := by
 intro j k hk hk0
 obtain ⟨id, g, p, hs⟩ := srcKs_get hk hk0
 have hj := (List.getElem?_eq_some_iff.1 hs).1
 have ho : objs[j]? = some (objs[j]'(by rw [h.len1]; exact hj)) := List.getElem?_eq_getElem _
 have hp : Ls[j]? = some (Ls[j]'(by rw [h.len2]; exact hj)) := List.getElem?_eq_getElem _
 generalize (objs[j]'(by rw [h.len1]; exact hj)) = cells at ho
 generalize (Ls[j]'(by rw [h.len2]; exact hj)) = pl at hp
 obtain ⟨_, _, _, _, v, _, _, _, _, _, rfl⟩ := h.src j _ cells pl hs ho hp
 exact ⟨[v], by simp [lc, List.getD_eq_getElem?_getD, hp]⟩
theorem ObStep.elem {P : Program} {pl : Pl} {cells : List C} {off i j : Nat} {c c0 : C} (hg : getC cells (.elem off i j) = some c0) (hs : ∀ e rows, c = .us e rows → ∃ rows2, getC cells (.elem off i j) = some (.us e rows2))
  (hval : ∀ o, pl.val w' o = pl.val w o) (hcell : ∀ (o : Nat) (e : TypeId) (rows : List (List C)) (u : Value) (g : Nat), cells[o]? = some (.us e rows) → pl.val w o = some u → u.ownBlock = some g → w'.heap[g]? = w.heap[g]?) : ObStep P w w' pl cells (putC cells c (.elem off i j)) := by
 have hg0 := hg
 simp only [getC] at hg
 split at hg
 ·rename_i e1 rows hc
  split at hg
  ·rename_i r hr
   have hput : putC cells c (.elem off i j) = cells.set off (.us e1 (rows.set i (r.set j c))) := by simp [putC, hc, hr]
   rw [hput]
   intro off' e rows' hc'
   rw [List.getElem?_set] at hc'
   split at hc'
   ·rename_i ho; subst ho
    split at hc'
    ·injection hc' with hc'; injection hc' with h1 h2; subst h1; subst h2
     refine ⟨rows, hc, by simp, hval _, fun i' r' j' e2 rows2' hi hj => ?_⟩
     have fin : ∀ (r0 : List C) (rows2 : List (List C)), rows[i']? = some r0 → r0[j']? = some (.us e2 rows2) → ∃ r rows2, rows[i']? = some r ∧ r[j']? = some (.us e2 rows2) ∧ ∀ u g, pl.val w off = some u → u.ownBlock = some g → w'.cell? ⟨g, i' * P.cellsOf e1 + j', none⟩ = w.cell? ⟨g, i' * P.cellsOf e1 + j', none⟩ :=
      fun r0 rows2 h1 h2 => ⟨r0, rows2, h1, h2, fun u g hu hg => cell_of_heap (hcell _ _ _ _ _ hc hu hg)⟩
     rw [List.getElem?_set] at hi
     split at hi
     ·rename_i hii; subst hii
      split at hi
      ·injection hi with hi; subst hi
       rw [List.getElem?_set] at hj
       split at hj
       ·rename_i hjj; subst hjj
        split at hj
        ·injection hj with hj
         obtain ⟨rows2, h3⟩ := hs e2 rows2' hj
         simp only [getC, hc, hr] at h3
         exact fin r rows2 hr h3
        ·cases hj
       ·exact fin r rows2' hr hj
      ·cases hi
     ·exact fin r' rows2' hi hj
    ·cases hc'
   ·refine ⟨rows', hc', rfl, hval _, fun i' r' j' e2 rows2' hi hj => ⟨r', rows2', hi, hj, fun u g hu hg => cell_of_heap (hcell _ _ _ _ _ hc' hu hg)⟩⟩
  ·cases hg
 ·cases hg
theorem AI.back {objs objs' : List (List C)} {srcs : List Src} {pend pend' : List (Nat × Ob)} {bor : List Nat} {Ls : List Pl} {dd : Nat} (h : AI E x st a w L objs srcs pend Ls ow) (_hok : srcsOk srcs bor = true)
  (hk : Keeps w w' (ow0 srcs ow)) (how : ∀ k p, ow' k = some p → k < w'.heap.size ∧ (ow0 srcs ow k ≠ none ∨ w.heap.size ≤ k)) (_hl : objs'.length = objs.length)
  (hobj : ∀ (id : Nat) (cells : List C), objs'[id]? = some cells → ObjR E.P w' (FF w (Fb x w ow bor) (ow0 srcs ow) w' ow') ow' id (lc Ls id) cells)
  (hcl : bor = [] ∨ ∀ cs ∈ objs', ∀ c ∈ cs, Closed c)
  (hother : ∀ id, (∀ (j : Nat) (s : Src), srcs[j]? = some s → s.id ≠ id) → (st.pend pend').o[id]? = (st.pend pend).o[id]?)
  (hback : ∀ id, (∃ (j : Nat) (s : Src), srcs[j]? = some s ∧ s.id = id) → BackOk srcs objs' (st.pend pend).o (st.pend pend').o id) :
  Rel E.P x (st.pend pend') a w' L (ow2 srcs objs.length dd w ow ow') ∧
  (∀ (c : C) (i : Nat) (u : Value), (bor = [] ∨ Closed c) → OC E.P w' (FF w (Fb x w ow bor) (ow0 srcs ow) w' ow') ow' [objs.length, i] c u → OC E.P w' (x.F w' (ow2 srcs objs.length dd w ow ow')) (ow2 srcs objs.length dd w ow ow') [dd, i] c u) ∧
  ∀ (k : Nat) (r : List Nat), ow' k = some (objs.length :: r) → ow2 srcs objs.length dd w ow ow' k = some (dd :: r) := by
 generalize hO2 : ow2 srcs objs.length dd w ow ow' = ow3
 have old : ∀ k, ow0 srcs ow k = none → k < w.heap.size → ow3 k = ow k := fun k h1 h2 => by rw [← hO2]; exact ow2_old h1 h2
 have new : ∀ k p q, ow' k = some p → backP srcs objs.length dd p = some q → ow3 k = some q := fun k p q h1 h2 => by
  rw [← hO2, ow2_new (how k p h1).2, h1]; exact h2
 have heap : ∀ k, k < w.heap.size → ow0 srcs ow k = none → w'.heap[k]? = w.heap[k]? := hk.block
 have hF : FStep w w' (x.F w ow) (x.F w' ow3) := fun k hk' => by
  have h1 := h.rel.F_lt hk'
  have h2 := h.rel.F_own hk'
  exact ⟨heap k h1 (ow0_none h2), FF_grow hk.size hk' (by rw [old k (ow0_none h2) h1]; exact h2)⟩
 have hFc : bor = [] → ∀ k, FF w (Fb x w ow bor) (ow0 srcs ow) w' ow' k → x.F w' ow3 k := by
  intro hb k hk'
  rcases hk' with hk' | ⟨k1, k2, k3⟩
  ·rcases hk' with hk' | ⟨id, hi, _⟩
   ·exact (hF k hk').2
   ·rw [hb] at hi; simp at hi
  ·refine .inr ⟨k1, ?_, ?_⟩
   ·rw [← hO2, ow2_new k3, k2]
   ·rcases k3 with k3 | k3
    ·obtain ⟨p, hp⟩ := ow0_ne k3
     exact (h.rel.owOk k p hp).2
    ·exact .inr (Nat.le_trans h.rel.keeps.size k3)
 have conv : ∀ (c : C) (p p' : List Nat) (u : Value), (bor = [] ∨ Closed c) → (∀ t, backP srcs objs.length dd (p ++ t) = some (p' ++ t)) → OC E.P w' (FF w (Fb x w ow bor) (ow0 srcs ow) w' ow') ow' p c u → OC E.P w' (x.F w' ow3) ow3 p' c u := by
  intro c p p' u hc hp hoc
  rcases hc with hc | hc
  ·exact hoc.move (fun k hk' => ⟨rfl, hFc hc k hk'⟩) fun k r hk' => ⟨rfl, new k _ _ hk' (hp r)⟩
  ·exact hoc.closed hc fun k r hk' => new k _ _ hk' (hp r)
 have clos : ∀ (j : Nat) (cells' : List C) (c : C), objs'[j]? = some cells' → c ∈ cells' → (bor = [] ∨ Closed c) := fun j cells' c h1 h2 => hcl.imp id fun hh => hh cells' (List.mem_of_getElem? h1) c h2
 have far : ∀ id, (∀ (j : Nat) (s : Src), srcs[j]? = some s → s.id ≠ id) → ∀ k r, ow k = some (id :: r) → w'.heap[k]? = w.heap[k]? ∧ ow3 k = some (id :: r) := by
  intro id hid k r hkr
  have h1 : ow0 srcs ow k = none := by simp only [ow0, hkr]; exact toC_none hid
  have h2 := (h.rel.owOk k _ hkr).1
  exact ⟨heap k h2 h1, by rw [old k h1 h2]; exact hkr⟩
 have part : ∀ id, (∀ (j : Nat) (s : Src), srcs[j]? = some s → s.id ≠ id) ∨ BackOk srcs objs' (st.pend pend).o (st.pend pend').o id := by
  intro id
  by_cases hh : ∃ (j : Nat) (s : Src), srcs[j]? = some s ∧ s.id = id
  ·exact .inr (hback id hh)
  ·exact .inl fun j s h1 h2 => hh ⟨j, s, h1, h2⟩
 refine ⟨h.rel.step rfl ⟨hk.os.trans h.rel.keeps.os, hk.tape.trans h.rel.keeps.tape, hk.output.trans h.rel.keeps.output, Nat.le_trans h.rel.keeps.size hk.size, fun k h1 h2 => ?_⟩ (fun k p hkp => ?_) hF (fun id ob cells h1 h2 => ?_) (fun id ob cells h1 h2 => ?_) (fun id ob cells h1 h2 h3 => ?_), fun c i u hc hoc => conv c _ _ u hc (fun t => by simp [backP]) hoc, fun k r hk => new k _ _ hk (by simp [backP])⟩
 ·have h3 : k < w.heap.size := Nat.lt_of_lt_of_le h1 h.rel.keeps.size
  refine (heap k h3 ?_).trans (h.rel.keeps.block k h1 h2)
  cases ho : ow k with
  | none => exact ow0_none ho
  | some p =>
   rcases (h.rel.owOk k p ho).2 with h4 | h4
   ·exact absurd h2 h4
   ·omega
 ·by_cases hc : ow0 srcs ow k = none ∧ k < w.heap.size
  ·rw [old k hc.1 hc.2] at hkp
   exact ⟨Nat.lt_of_lt_of_le hc.2 hk.size, (h.rel.owOk k p hkp).2⟩
  ·have hc' : ow0 srcs ow k ≠ none ∨ w.heap.size ≤ k := by
    by_cases h1 : ow0 srcs ow k = none
    ·exact .inr (by have : ¬ k < w.heap.size := fun h2 => hc ⟨h1, h2⟩; omega)
    ·exact .inl h1
   rw [← hO2, ow2_new hc'] at hkp
   cases ho : ow' k with
   | none => rw [ho] at hkp; cases hkp
   | some q =>
    refine ⟨(how k q ho).1, ?_⟩
    rcases hc' with h1 | h1
    ·obtain ⟨p, hp⟩ := ow0_ne h1
     exact (h.rel.owOk k p hp).2
    ·exact .inr (Nat.le_trans h.rel.keeps.size h1)
 ·rcases part id with hp | ⟨j, s, cells', ob', cells1, k1, k2, hca, huni, k3, q1, q2, q3, q4⟩ | ⟨ob', cells1, n, cells2, b1, b2, b3, b4, b5, b6⟩
  ·exact ⟨ob, cells, (hother id hp).trans h1, h2, Nat.le_refl _, rfl, fun _ => ObStep.same (h.rel.objs id ob cells h1 h2) fun k r hkr => (far id hp k r hkr).1⟩
  ·subst k2
   rw [h1] at q1; injection q1 with q1; subst q1
   rw [h2] at q2; injection q2 with q2; subst q2
   refine ⟨_, _, q3, rfl, Nat.le_add_right _ _, rfl, fun hg => ?_⟩
   have hpl : Ls[j]? = some (Ls[j]'(by rw [h.len2]; exact (List.getElem?_eq_some_iff.1 k1).1)) := List.getElem?_eq_getElem _
   have hjo : j < objs.length := by rw [h.len1]; exact (List.getElem?_eq_some_iff.1 k1).1
   have hsrc := h.src j s _ _ k1 (List.getElem?_eq_getElem hjo) hpl
   cases s with
   | box id => simp [bump] at hg
   | own id g p => cases p with
    | cell off => simp [bump] at hg
    | elem off i j' =>
     obtain ⟨c, rfl, _, q5⟩ := q4 id g _ rfl
     obtain ⟨ob2, cells0, e, rows, v, g1, g2, g3, g4, g5, _⟩ := hsrc
     simp only [Src.id] at h1
     rw [h1] at g1; injection g1 with g1; subst g1
     rw [h2] at g2; injection g2 with g2; subst g2
     have hR := h.rel.objs id ob cells h1 h2
     have hh : ∀ k r, ow k = some (id :: r) → (pathOf id (.elem off i j')).isPrefixOf (id :: r) = false → w'.heap[k]? = w.heap[k]? := fun k r hkr hpr =>
      heap k (h.rel.owOk k _ hkr).1 (by simp only [ow0, hkr]; exact toC_out (s := .own id g (.elem off i j')) huni k1 hpr)
     refine ObStep.elem g3 (q5 off i j' rfl) (fun o => Pl.val_same fun b hb => hh b [] (hR.blk b hb).1 (by simp [pathOf, List.isPrefixOf])) fun o e rows u b hc hu hb => ?_
     obtain ⟨u', e1, e2⟩ := hR.cell o _ hc
     have e1 : (L id).val w o = some u' := e1
     have hu : (L id).val w o = some u := hu
     rw [hu] at e1; injection e1 with e1; subst e1
     exact hh b [o] (e2.lt hb).2 (by simp [pathOf, List.isPrefixOf])
  ·rw [h1] at b1; injection b1 with b1; subst b1
   rw [h2] at b2; injection b2 with b2; subst b2
   exact ⟨_, _, b3, rfl, by simp only; omega, rfl, fun hg => by simp only at hg; omega⟩
 ·rcases part id with hp | ⟨j, s, cells', ob', cells1, k1, k2, hca, huni, k3, q1, q2, q3, q4⟩ | ⟨ob', cells1, n, cells2, b1, b2, b3, b4, b5, b6⟩
  ·rw [hother id hp] at h1
   exact (h.rel.objs id ob cells h1 h2).move hF fun k r hkr => far id hp k r hkr
  ·subst k2
   rw [q3] at h1; injection h1 with h1; subst h1
   simp only [Option.some.injEq] at h2; subst h2
   have hR := hobj j cells' k3
   have hpl : Ls[j]? = some (Ls[j]'(by rw [h.len2]; exact (List.getElem?_eq_some_iff.1 k1).1)) := List.getElem?_eq_getElem _
   generalize (Ls[j]'(by rw [h.len2]; exact (List.getElem?_eq_some_iff.1 k1).1)) = pl at hpl
   have hlc : lc Ls j = pl := by simp [lc, List.getD_eq_getElem?_getD, hpl]
   rw [hlc] at hR
   have hjo : j < objs.length := by rw [h.len1]; exact (List.getElem?_eq_some_iff.1 k1).1
   have hsrc := h.src j s _ pl k1 (List.getElem?_eq_getElem hjo) hpl
   have hbk := fun t => backP_hit (m := objs.length) (d := dd) (t := t) k1 h.len1.symm
   cases s with
   | box id =>
    obtain ⟨ob2, g1, g2, rfl⟩ := hsrc
    simp only [backC, Src.id]
    have hbk : ∀ t, backP srcs objs.length dd (j :: t) = some (id :: t) := fun t => by simpa [Src.top, Src.path] using hbk t
    refine ⟨fun g hg => ?_, fun i c hi => ?_, hR.me⟩
    ·obtain ⟨e1, e2⟩ := hR.blk g hg
     exact ⟨new g _ _ e1 (hbk []), e2⟩
    ·obtain ⟨u, e1, e2⟩ := hR.cell i c hi
     exact ⟨u, e1, conv c _ _ u (clos j cells' c k3 (List.mem_of_getElem? hi)) (fun t => hbk (i :: t)) e2⟩
   | own id g p =>
    obtain ⟨c, rfl, hnm, _⟩ := q4 id g p rfl
    obtain ⟨ob2, cells0, e, rows, v, g1, g2, g3, g4, g5, rfl⟩ := hsrc
    simp only [Src.id] at q1 ⊢
    rw [q1] at g1; injection g1 with g1; subst g1
    rw [q2] at g2; injection g2 with g2; subst g2
    have hbk : ∀ t, backP srcs objs.length dd ([j, 0] ++ t) = some (pathOf id p ++ t) := fun t => hbk t
    obtain ⟨u, e1, e2⟩ := hR.cell 0 c rfl
    have : u = v := by have e1 : some v = some u := e1; injection e1 with e1; exact e1.symm
    subst this
    refine (h.rel.objs id ob' cells1 q1 q2).retell g3 hF (fun v hv => ?_) (fun k r hkr hpr => ?_) (fun T e => by subst e; cases hnm)
    ·rw [ValAt.uniq hv g5]
     exact conv c _ _ u (clos j _ c k3 (by simp)) hbk e2
    ·have h1 : ow0 srcs ow k = none := by simp only [ow0, hkr]; exact toC_out (s := .own id g p) huni k1 hpr
     have h2 := (h.rel.owOk k _ hkr).1
     exact ⟨heap k h2 h1, by rw [old k h1 h2]; exact hkr⟩
  ·rw [b3] at h1; injection h1 with h1; subst h1
   simp only [Option.some.injEq] at h2; subst h2
   have hR := h.rel.objs id ob' cells1 b1 b2
   have blk : ∀ g, L id = .blk g → w'.heap[g]? = w.heap[g]? ∧ ow3 g = some [id] := fun g hg => by
    have h1 := (hR.blk g hg).1
    have h2 : ow0 srcs ow g = none := by
     simp only [ow0, h1]
     exact toC_cells fun j s hj hi => by
      obtain ⟨off, c, e1, _⟩ := b5 j s hj hi
      exact ⟨off, e1, fun k t h => nomatch h⟩
    have h3 := (h.rel.owOk g _ h1).1
    exact ⟨heap g h3 h2, by rw [old g h2 h3]; exact h1⟩
   refine ⟨fun g hg => ?_, fun i c hi => ?_, fun T g hg hT => ?_⟩
   rotate_left 2
   ·have hlt : 0 < cells1.length := by rw [← b4]; exact (List.getElem?_eq_some_iff.1 hT).1
    by_cases hsrc : ∃ (j : Nat) (s : Src), srcs[j]? = some s ∧ s.id = id ∧ s.cellAt = some 0
    ·obtain ⟨j, s, hj, hi', hca⟩ := hsrc
     obtain ⟨off, c', e1, e2, e3, e4⟩ := b5 j s hj hi'
     rw [hca] at e1; injection e1 with e1; subst e1
     rw [e3 hlt] at hT; injection hT with hT; subst hT; cases e4
    ·rw [b6 0 fun j s hj hi' he => hsrc ⟨j, s, hj, hi', he⟩] at hT
     obtain ⟨u, cs, u1, u2, u3⟩ := hR.me T g hg hT
     exact ⟨u, cs, (Pl.val_same fun g hg => (blk g hg).1).trans u1, u2, (blk g hg).1.trans u3⟩
   ·obtain ⟨e1, e2⟩ := blk g hg
    obtain ⟨_, cs, e, e3, e4⟩ := hR.blk g hg
    exact ⟨e2, cs, e, e1.trans e3, by rw [b4]; exact e4⟩
   ·have hlt : i < cells1.length := by rw [← b4]; exact (List.getElem?_eq_some_iff.1 hi).1
    obtain ⟨u, u1, u2⟩ := hR.cell i _ (List.getElem?_eq_getElem hlt)
    refine ⟨u, (Pl.val_same fun g hg => (blk g hg).1).trans u1, ?_⟩
    by_cases hsrc : ∃ (j : Nat) (s : Src), srcs[j]? = some s ∧ s.id = id ∧ s.cellAt = some i
    ·obtain ⟨j, s, hj, hi', hca⟩ := hsrc
     obtain ⟨off, c', e1, e2, e3, _⟩ := b5 j s hj hi'
     rw [hca] at e1; injection e1 with e1; subst e1
     rw [e3 hlt] at hi; injection hi with hi; subst hi
     have hpl : Ls[j]? = some (Ls[j]'(by rw [h.len2]; exact (List.getElem?_eq_some_iff.1 hj).1)) := List.getElem?_eq_getElem _
     generalize (Ls[j]'(by rw [h.len2]; exact (List.getElem?_eq_some_iff.1 hj).1)) = pl at hpl
     have hlc : lc Ls j = pl := by simp [lc, List.getD_eq_getElem?_getD, hpl]
     have hR' := hobj j _ e2
     rw [hlc] at hR'
     have hjo : j < objs.length := by rw [h.len1]; exact (List.getElem?_eq_some_iff.1 hj).1
     have hok := h.src j s _ pl hj (List.getElem?_eq_getElem hjo) hpl
     have hbk := fun t => backP_hit (m := objs.length) (d := dd) (t := t) hj h.len1.symm
     have hown : ∃ g, s = .own id g (.cell i) := by
      cases s with
      | box i => cases hca
      | own i' g p => cases p with
       | cell off => injection hca with hca; subst hca; simp only [Src.id] at hi'; subst hi'; exact ⟨g, rfl⟩
       | elem _ _ _ => cases hca
     obtain ⟨g, rfl⟩ := hown
     obtain ⟨ob2, cells0, e, rows, v, g1, g2, g3, g4, g5, rfl⟩ := hok
     obtain ⟨u', e4, e5⟩ := hR'.cell 0 c' rfl
     have huv : u' = v := by have e4 : some v = some u' := e4; injection e4 with e4; exact e4.symm
     have g5 : (L id).val w i = some v := g5
     have hvu : v = u := by rw [g5] at u1; injection u1
     subst huv; subst hvu
     exact conv c' _ _ u' (clos j _ c' e2 (by simp)) hbk e5
    ·have hno : ∀ (j : Nat) (s : Src), srcs[j]? = some s → s.id = id → s.cellAt ≠ some i := fun j s hj hi' hca => hsrc ⟨j, s, hj, hi', hca⟩
     rw [b6 i hno, List.getElem?_eq_getElem hlt] at hi
     injection hi with hi; subst hi
     refine u2.move hF fun k r hkr => ?_
     have h2 : ow0 srcs ow k = none := by
      simp only [ow0, hkr]
      exact toC_cells fun j s hj hi' => by
       obtain ⟨off, c', e1, _⟩ := b5 j s hj hi'
       refine ⟨off, e1, fun k' t h => ?_⟩
       simp at h
       intro he
       exact hno j s hj hi' (by rw [e1, he, h.1])
     have h3 := (h.rel.owOk k _ hkr).1
     exact ⟨heap k h3 h2, by rw [old k h2 h3]; exact hkr⟩
 ·rcases part id with hp | ⟨j, s, cells', ob', cells1, k1, k2, hca, huni, k3, q1, q2, q3, q4⟩ | ⟨ob', cells1, n, cells2, b1, b2, b3, b4, b5, b6⟩
  ·rw [hother id hp] at h1
   exact h.rel.kinds id ob cells h1 h2 h3
  ·subst k2
   rw [q3] at h1; injection h1 with h1; subst h1
   exact h.rel.kinds _ ob' cells1 q1 q2 h3
  ·rw [b3] at h1; injection h1 with h1; subst h1
   exact h.rel.kinds _ ob' cells1 b1 b2 h3
end
end Ev

namespace Ev
open Go
set_option linter.unusedSimpArgs false
section
variable {E : Env} {x : Cx} {st : St} {a : Act} {w w' : World} {L L' : Nat → Pl} {ow ow' : Own} {rs : List Loc} {d : Delta} {o : Oper} {next : Act → World → Prop} {Q : Exit → Act → World → Prop}
theorem app_none {pend : List (Nat × Ob)} : st.app ⟨[], pend, []⟩ = st.pend pend := rfl
theorem app_one {dd : Nat} {b : AV} {pend : List (Nat × Ob)} : st.app ⟨[(dd, some b)], pend, []⟩ = { (st.pend pend) with s := st.s.set dd (some b) } := rfl
theorem sound_sameM {f : FuncId} {al : List AV} {vs : List Value} (h : Rel E.P x st a w L ow) (hlen : al.length = vs.length) (hav : ∀ (i : Nat) (b : AV) (v : Value), al[i]? = some b → vs[i]? = some v → AVR E.P w (x.F w ow) L st.o b v)
  (hr : Runs E.P st (sameM E o.dst f al) rs d) (hl : ∀ p ∈ d.s, p.1 < st.s.length) (hn : Good E x (st.app d) next) (hexec : (execOp a.eval o).run E.P w = (callFunc f vs.toArray).run E.P w) : o.wp E.P a w next Q := by
 have hAI : AI E x st a w L [] [] [] [] ow := ⟨h, by simp, rfl, rfl, by simp, by simp, fun _ _ h1 _ => h1⟩
 unfold sameM at hr
 obtain ⟨bs, objs, srcs, pend, bor, Ls, ow1, rs1, q1, q2, q3, q4, q5⟩ := argsM_sound (md := 0) al [] _ [] [] [] [] [] ow rs vs hAI hlen hav hr
 simp only [List.reverse_nil, List.nil_append] at q1
 split at q1
 ·rename_i dd b0 _ hd
  have hsr : srcs = [] := List.eq_nil_of_length_eq_zero (by rw [← q2.len1]; rfl)
  subst hsr
  cases q1 with
  | need hA q6 =>
   cases q6
   obtain ⟨hent, hcall⟩ := hA
   obtain ⟨c1, c2, c3⟩ := q2.callee rfl
   have hC := hcall w (Fb x w ow1 bor) (ow0 [] ow1) (lc Ls) vs c1 c2 q4 q5
   unfold Oper.wp
   rw [hexec, hent vs.toArray w]
   rw [Oper.upon_enter]
   refine hC.mono ?_
   rintro e w' ⟨v0, ow', hv0, rfl, k1, k2⟩
   have hR := (q2.back (objs' := []) (pend' := []) (bor := bor) (dd := 0) rfl k1 k2 rfl (by simp) (.inr (by simp)) (fun id _ => rfl) (fun id hh => by obtain ⟨j, s, hs, _⟩ := hh; simp at hs)).1
   have hnone : ∀ k, ow0 [] ow1 k = none := fun k => by
    unfold ow0
    split
    ·rfl
    ·rfl
   have heap : ∀ k, k < w.heap.size → w'.heap[k]? = w.heap[k]? := fun k hk => k1.block k hk (hnone k)
   have hF : FStep w w' (x.F w ow1) (x.F w' (ow2 [] ([] : List (List C)).length 0 w ow1 ow')) := fun k hk' => by
    have h1 := q2.rel.F_lt hk'
    have h2 := q2.rel.F_own hk'
    exact ⟨heap k h1, FF_grow k1.size hk' (by rw [ow2_old (hnone k) h1]; exact h2)⟩
   have hO : OStep E.P w w' L L st.o st.o := fun id ob cells h1 h2 => ⟨ob, cells, h1, h2, Nat.le_refl _, rfl, fun _ => ObStep.same (h.objs id ob cells h1 h2) fun k r hkr => heap k (h.owOk k _ hkr).1⟩
   have hb : AVR E.P w' (x.F w' (ow2 [] ([] : List (List C)).length 0 w ow1 ow')) L st.o b0 v0 := (hav 0 b0 v0 rfl hv0).step (fun k hk => ⟨(hF k (q3.f k hk).2).1, (hF k (q3.f k hk).2).2⟩) hO
   show next (a.put o.dst (.tuple #[v0, .bool false])) w'
   rw [hd]
   rw [app_one] at hn
   have hdl : dd < a.tmps.size := by rw [← h.len]; exact hl (dd, some (.tup [b0, av (.bool false)])) (by simp)
   refine hn _ _ _ _ (hR.put hdl (.tup rfl fun i c u h1 h2 => ?_))
   cases i with
   | zero => simp at h1 h2; subst h1; subst h2; exact hb
   | succ i => cases i with
    | zero => simp at h1 h2; subst h1; subst h2; exact avr_v rfl
    | succ i => simp at h1
 ·cases q1
theorem sound_callM {f : FuncId} {al : List AV} {vs : List Value} (h : Rel E.P x st a w L ow) (hlen : al.length = vs.length) (hav : ∀ (i : Nat) (b : AV) (v : Value), al[i]? = some b → vs[i]? = some v → AVR E.P w (x.F w ow) L st.o b v)
  (hr : Runs E.P st (callM E o.dst f al) rs d) (hl : ∀ p ∈ d.s, p.1 < st.s.length) (hn : Good E x (st.app d) next) (hexec : (execOp a.eval o).run E.P w = (callFunc f vs.toArray).run E.P w) : o.wp E.P a w next Q := by
 have hAI : AI E x st a w L [] [] [] [] ow := ⟨h, by simp, rfl, rfl, by simp, by simp, fun _ _ h1 _ => h1⟩
 unfold callM at hr
 cases hm5 : memD E.ws o.dst with
 | true => rw [hm5, cond_true] at hr; exact sound_sameM h hlen hav hr hl hn hexec
 | false =>
 rw [hm5, cond_false] at hr
 obtain ⟨bs, objs, srcs, pend, bor, Ls, ow1, rs1, q1, q2, q3, q4, q5⟩ := argsM_sound (md := E.md f) al [] _ [] [] [] [] [] ow rs vs hAI hlen hav hr
 simp only [List.reverse_nil, List.nil_append] at q1
 obtain ⟨hok, q6⟩ := runs_cond q1
 cases q6 with
 | @call _ _ _ objs' _ r _ rs2 _ hA q7 =>
  obtain ⟨hent, hcall⟩ := hA
  obtain ⟨c1, c2, c3⟩ := q2.callee hok
  have hC := hcall w (Fb x w ow1 bor) (ow0 srcs ow1) (lc Ls) vs c1 c2 c3 (q2.kinds_) q4 q5
  unfold Oper.wp
  rw [hexec, hent vs.toArray w]
  rw [Oper.upon_enter]
  refine hC.mono ?_
  rintro e w' ⟨v, ow', rfl, k1, k2, k3, k4, k5⟩
  have hgo : ∃ rs3, Runs E.P st (backM srcs objs' pend fun pend => adoptM E.m o.dst r pend) rs3 d ∧ (bor = [] ∨ ((∀ c ∈ rvCells r, Closed c) ∧ ∀ cs ∈ objs', ∀ c ∈ cs, Closed c)) := by
   dsimp only at q7
   cases bor with
   | nil => exact ⟨_, splitRV_runs q7, .inl rfl⟩
   | cons b l =>
    cases q7 with
    | need hp q8 => exact ⟨_, splitRV_runs q8, .inr hp⟩
  obtain ⟨rs3, g1, g2⟩ := hgo
  obtain ⟨pend', rs4, g3, g4, g5, g6, g7⟩ := backM_runs srcs objs' pend _ rs3 q2.lt q2.dist g1
  have hbk := fun dd => q2.back (dd := dd) hok k1 k2 k4 k5 (g2.imp id fun h => h.2) g6 g7
  have hres := fun (c : C) (hc : c ∈ rvCells r) => (g2.imp id (fun h => h.1 c hc) : bor = [] ∨ Closed c)
  obtain ⟨us, f1, f2, f3⟩ := k3.flat
  show next (a.put o.dst v) w'
  rcases adoptM_runs g3 with ⟨hd, rfl⟩ | ⟨dd, b, hd, hb, hcase⟩ | ⟨dd, cells, ob, hd, rfl, ho, hoc, rfl⟩
  ·rw [hd]
   rw [app_none] at hn
   exact hn _ _ _ _ (hbk 0).1
  ·rw [hd]
   obtain ⟨hR, hconv, _⟩ := hbk (dd + E.m)
   rcases hcase with ⟨hu, rfl⟩ | ⟨ob, ho, hoc, rfl⟩
   ·rw [app_one] at hn
    have hdl : dd < a.tmps.size := by rw [← h.len]; exact hl (dd, some b) (by simp)
    refine hn _ _ _ _ (hR.put hdl (f3 (dd + E.m) w' _ _ _ b hb fun i c u h1 h2 => ?_))
    have hcu := anyUs_false hu h1
    have hoc := hconv c (0 + i) u (hres c (List.mem_of_getElem? h1)) (f2 i c u h1 h2)
    rw [scAt, hcu]
    exact .c (hoc.toFR hcu)
   ·have hdl : dd < a.tmps.size := by rw [← h.len]; exact hl (dd, some b) (by simp)
    have hkeep := q2.keep (dd + E.m) ob ho hoc
    have hnot : ∀ (j : Nat) (s : Src), srcs[j]? = some s → s.id ≠ dd + E.m := fun j s hs e => by
     rcases g7 _ ⟨j, s, hs, rfl⟩ with ⟨_, _, _, ob', cells, _, _, _, _, _, e1, e2, _⟩ | ⟨ob', cells, _, _, e1, e2, _⟩ <;>
      (rw [e, hkeep] at e1; injection e1 with e1; subst e1; rw [hoc] at e2; cases e2)
    have hdo : (st.pend pend').o[dd + E.m]? = some ob := (g6 (dd + E.m) hnot).trans hkeep
    have hdol : dd + E.m < (st.pend pend').o.length := (List.getElem?_eq_some_iff.1 hdo).1
    have hnew := hR.newObj (d := dd + E.m) (ob' := ⟨0, 1, some (rvCells r)⟩) (cs := rvCells r) (pl := .vals us) (w' := w') (ow' := ow2 srcs objs.length (dd + E.m) w ow1 ow') hdo hoc rfl hR.keeps hR.owOk (fun k hk => ⟨rfl, hk⟩) (fun id _ k r hk => ⟨rfl, hk⟩)
     ⟨(fun _ hg => nomatch hg), fun i c hi => by
      have hi' := (List.getElem?_eq_some_iff.1 hi).1
      have hus : us[i]? = some (us[i]'(by rw [f1]; exact hi')) := List.getElem?_eq_getElem _
      refine ⟨_, hus, ?_⟩
      have := hconv c (0 + i) _ (hres c (List.mem_of_getElem? hi)) (f2 i c _ hi hus)
      rwa [Nat.zero_add] at this, fun _ _ hg => nomatch hg⟩ (fun _ => ⟨us, rfl⟩)
    refine hn _ _ _ _ (hnew.put hdl (f3 (dd + E.m) w' _ _ _ b hb fun i c u h1 h2 => ?_))
    have hoc2 := hconv c (0 + i) u (hres c (List.mem_of_getElem? h1)) (f2 i c u h1 h2)
    cases hcu : c.isUs with
    | false =>
     rw [scAt, hcu]
     exact .c (hoc2.toFR hcu)
    | true =>
     rw [scAt, hcu]
     refine .ref hoc2.one (List.getElem?_set_self hdol) rfl (Nat.le_refl _) (fun _ e rows _ => ?_) (fun l off hl hp => ?_)
     ·simp only [if_true, ValAt, Pl.val]
      rw [Nat.zero_add]; exact h2
     ·simp only [if_true] at hl
      injection hl with hl; subst hl
      injection hp with hp; subst hp
      rw [Nat.zero_add]; exact h2
  ·rw [hd]
   obtain ⟨hR, hconv, hown⟩ := hbk (dd + E.m)
   cases k3 with
   | @bx g _ hB =>
    have hdl : dd < a.tmps.size := by rw [← h.len]; exact hl (dd, some (.bx (dd + E.m) 0)) (by simp)
    have hkeep := q2.keep (dd + E.m) ob ho hoc
    have hnot : ∀ (j : Nat) (s : Src), srcs[j]? = some s → s.id ≠ dd + E.m := fun j s hs e => by
     rcases g7 _ ⟨j, s, hs, rfl⟩ with ⟨_, _, _, ob', cells, _, _, _, _, _, e1, e2, _⟩ | ⟨ob', cells, _, _, e1, e2, _⟩ <;>
      (rw [e, hkeep] at e1; injection e1 with e1; subst e1; rw [hoc] at e2; cases e2)
    have hdo : (st.pend pend').o[dd + E.m]? = some ob := (g6 (dd + E.m) hnot).trans hkeep
    have hdol : dd + E.m < (st.pend pend').o.length := (List.getElem?_eq_some_iff.1 hdo).1
    have hnew := hR.newObj (d := dd + E.m) (ob' := ⟨0, 0, some cells⟩) (cs := cells) (pl := .blk g) (w' := w') (ow' := ow2 srcs objs.length (dd + E.m) w ow1 ow') hdo hoc rfl hR.keeps hR.owOk (fun k hk => ⟨rfl, hk⟩) (fun id _ k r hk => ⟨rfl, hk⟩)
     ⟨(fun g' hg => by
      injection hg with hg; subst hg
      obtain ⟨e1, e2⟩ := hB.blk g rfl
      exact ⟨hown g [] e1, e2⟩), fun i c hi => by
      obtain ⟨u, e1, e2⟩ := hB.cell i c hi
      exact ⟨u, e1, hconv c i u (hres c (List.mem_of_getElem? hi)) e2⟩, hB.me⟩ (fun hk => absurd rfl hk)
    refine hn _ _ _ _ (hnew.put hdl (.bx (List.getElem?_set_self hdol) rfl (if_pos rfl)))
theorem sound_call {cl : Call} {f : Operand} (h : Rel E.P x st a w L ow) (ho : o.op = .call cl) (hc : cl.callee = .value f)
  (hr : Runs E.P st (calleeM f fun g cs => opnds cl.args.toList [] fun l => callM E o.dst g (l ++ cs)) rs d) (hl : ∀ p ∈ d.s, p.1 < st.s.length) (hn : Good E x (st.app d) next) : o.wp E.P a w next Q := by
 obtain ⟨b, rs1, h1, h2⟩ := opnd_runs h hr
 have hargs : cl.args.map a.eval = (cl.args.toList.map a.eval).toArray := by
  cases cl with | mk _ args _ => cases args; simp
 split at h1
 ·rename_i g cs
  generalize hv : a.eval f = v at h2
  cases h2 with
  | @clo _ _ us hl2 hs =>
   obtain ⟨bs, rs2, h3, h4, h5⟩ := opnds_runs h h1
   simp only [List.reverse_nil, List.nil_append] at h3
   refine sound_callM (vs := cl.args.toList.map a.eval ++ us.toList) h (by simp [h4, hl2]) (fun i c v hi hv' => ?_) h3 hl hn ?_
   ·by_cases hi' : i < bs.length
    ·rw [List.getElem?_append_left hi'] at hi
     rw [List.getElem?_append_left (by simpa [h4] using hi')] at hv'
     exact h5 i c v hi hv'
    ·rw [List.getElem?_append_right (by omega)] at hi
     rw [List.getElem?_append_right (by rw [List.length_map]; omega)] at hv'
     simp only [List.length_map] at hv'
     rw [← h4] at hv'
     exact hs _ c v hi (by simpa using hv')
   ·have : (cl.args.toList.map a.eval ++ us.toList).toArray = cl.args.map a.eval ++ us := by rw [hargs]; simp
    simp only [execOp, ho, resolve, hc, hv, Deferred.ofValue, Sem.run_bind, Sem.run_pure, Result.andThen_ok, invoke, this]
    simp
 ·rename_i g
  have hv := avr_one_v h2
  obtain ⟨bs, rs2, h3, h4, h5⟩ := opnds_runs h h1
  simp only [List.reverse_nil, List.nil_append, List.append_nil] at h3
  refine sound_callM (vs := cl.args.toList.map a.eval) h (by simp [h4]) h5 h3 hl hn ?_
  simp only [execOp, ho, resolve, hc, hv, Deferred.ofValue, Sem.run_bind, Sem.run_pure, Result.andThen_ok, invoke, ← hargs]
  simp
 ·cases h1
theorem run_loadVar_at {P : Program} {t : TypeId} {i : TI} (hi : OkTI P t i) {b k : Nat} (vs : List Value) (hl : vs.length = i.size) (hv : ∀ j v, vs[j]? = some v → w.cell? ⟨b, k + j, none⟩ = some v) :
  (loadVar t ⟨b, k, none⟩).run P w = .ok (if i.agg then .agg vs.toArray else vs.getD 0 undef) w := by
 have := run_load_at hi vs hl hv
 simpa [Instr.loadAt, Instr.sureAddr] using this
theorem loadAV_runs {i : TI} {t : TypeId} {b : AV} {k : AV → M} {v : Value} (h : Rel E.P x st a w L ow) (hi : OkTI E.P t i) (hr : Runs E.P st (loadAV i b k) rs d) (hv : AVR E.P w (x.F w ow) L st.o b v) :
  ∃ c rs' ad u, Runs E.P st (k c) rs' d ∧ v = .pointer (some ad) ∧ (loadVar t ad).run E.P w = .ok u w ∧ AVR E.P w (x.F w ow) L st.o c u := by
 unfold loadAV at hr
 split at hr
 ·rename_i id off
  cases hr with
  | obj ho1 h3 =>
   rename_i ob rs2
   obtain ⟨cells, h4, h5⟩ := cellsOf_runs h3
   obtain ⟨hb, h6⟩ := runs_cond h5
   have hb := Nat.le_of_ble_eq_true hb
   cases hv with
   | @bx _ _ g _ _ k2 k3 k4 =>
    have hR := h.objs id ob cells ho1 h4
    have hval : ∀ j, j < i.size → ∃ u, w.cell? ⟨g, off + j, none⟩ = some u := fun j hj => by
     obtain ⟨u, q1, _⟩ := hR.cell (off + j) _ (List.getElem?_eq_getElem (by omega))
     rw [k4] at q1; exact ⟨u, q1⟩
    have hrun := run_loadVar_at (b := g) (k := off) hi ((List.range i.size).map fun j => (w.cell? ⟨g, off + j, none⟩).getD undef) (by simp) (fun j v hj => by
     have hjl := (List.getElem?_eq_some_iff.1 hj).1
     simp at hjl
     obtain ⟨u, hu⟩ := hval j hjl
     simp [hjl, hu] at hj
     rw [hu, hj])
    have hs : ∀ (j : Nat) (s : SC) (v : Value), (scs id ob.g .cell off (sub cells off i.size))[j]? = some s → ((List.range i.size).map fun j => (w.cell? ⟨g, off + j, none⟩).getD undef)[j]? = some v → SCR E.P w (x.F w ow) L st.o s v := by
     intro j s v hj hv
     rw [scs_get] at hj
     cases hc : (sub cells off i.size)[j]? with
     | none => simp [hc] at hj
     | some c =>
      rw [hc] at hj
      simp only [Option.map_some, Option.some.injEq] at hj
      obtain ⟨hc1, hjl⟩ := sub_get hc
      obtain ⟨u, hu⟩ := hval j hjl
      simp [hjl, hu] at hv
      subst hv
      rw [← hj]
      exact ObjR.scr h ho1 h4 hc1 (by rw [k4]; exact hu)
    rcases mkAV_runs h6 with ⟨ha, hr2⟩ | ⟨ha, s, hls, hr2⟩
    ·refine ⟨_, _, _, _, hr2, rfl, by simpa [ha] using hrun, .agg (by simp [scs_length, sub_length hb]) fun j s v hj hv => hs j s v hj (by simpa using hv)⟩
    ·have h1 := size_one hi ha
     obtain ⟨u, hu⟩ := hval 0 (by omega)
     simp only [Nat.add_zero] at hu
     refine ⟨_, _, _, u, hr2, rfl, ?_, .one (hs 0 s u (by rw [hls]; rfl) ?_)⟩
     ·rw [hrun, ha, h1]; simp [hu, List.range_succ]
     ·rw [h1]; simp [hu, List.range_succ]
 ·cases hr
theorem sound_assign {xo : Operand} (h : Rel E.P x st a w L ow) (ho : o.op = .assign xo)
  (hr : Runs E.P st (opnd xo fun a => asgM E o.dst a) rs d) (hl : ∀ p ∈ d.s, p.1 < st.s.length) (hn : Good E x (st.app d) next) : o.wp E.P a w next Q := by
 obtain ⟨b, rs1, h1, h2⟩ := opnd_runs h hr
 have hex : (execOp a.eval o).run E.P w = .ok (.value (a.eval xo)) w := by simp [execOp, ho]
 unfold asgM at h1
 split at h1
 ·rename_i dd id g off hd
  cases hm1 : memN E.vw dd with
  | true =>
   rw [hm1] at h1; simp only [cond_true] at h1
   generalize hv : a.eval xo = v at h2 hex
   cases h2 with
   | one hs =>
    obtain ⟨ob, cells, put, e, rows, rs3, k1, k2, k3, k4, k5, k6⟩ := ownAt_runs (pend := []) h h1 (by simp) hs
    cases k6 with
    | obj ho1 h6 =>
     have k1' : st.o[id]? = some ob := k1
     rw [k1'] at ho1; injection ho1 with ho1; subst ho1
     have hoc := ownAt_oc (pend := []) h k1 k2 k3 k5
     obtain ⟨aa, cap, rfl, hc1, hc2⟩ := own_len hoc
     refine fin h h6 hl (.one (.view ⟨_, _, rfl⟩ k1' k2 (Nat.le_refl _) fun _ e2 rows2 q1 => ?_)) hex hn
     have k3' : cells[off]? = some (.us e rows) := k3
     rw [k3'] at q1; injection q1 with q1; injection q1 with q1 q3; subst q1; subst q3
     refine ⟨by omega, _, k5, ?_⟩
     simp only [resliced, Nat.zero_mul, Nat.sub_zero]
     split
     ·rfl
     ·congr 1
      cases aa with
      | none => rfl
      | some ad => simp [Addr.add]
  | false =>
   rw [hm1] at h1; simp only [cond_false] at h1
   cases hm2 : memN E.fz dd with
   | true =>
    rw [hm2] at h1; simp only [cond_true] at h1
    generalize hv : a.eval xo = v at h2 hex
    cases h2 with
    | one hs =>
     obtain ⟨ob, cells, put, e, rows, rs3, k1, k2, k3, k4, k5, k6⟩ := ownAt_runs (pend := []) h h1 (by simp) hs
     cases k6 with
     | frz hz k7 =>
      rename_i c'
      cases k7
      have k1' : st.o[id]? = some ob := k1
      obtain ⟨t1, t2, t3⟩ := h.freeze k1' k2 k3 hz
      refine wp_value hex ?_
      rw [hd]
      rw [app_one] at hn
      have hdl : dd < a.tmps.size := by rw [← h.len]; exact hl (dd, some (.one (.c c'))) (by simp)
      have hpend : st.pend [(id, put c')] = { st with o := st.o.set id { ob with cells := some (putC cells c' (.cell off)) } } := by rw [k4]; rfl
      rw [hpend] at hn
      exact hn _ _ _ _ (t1.put hdl (.one (.c (t2 _ k5))))
   | false =>
    rw [hm2] at h1; simp only [cond_false] at h1
    exact fin h h1 hl h2 hex hn
 ·rename_i dd hd
  have hv := avr_one_v h2
  cases hm2 : memN E.fz dd with
  | true =>
   rw [hm2] at h1; simp only [cond_true] at h1
   exact fin h h1 hl (.one (.c (by rw [hv]; exact .sl (sz := 0) (fun _ _ => undef) rfl (Nat.le_refl _) (by simp [maxLen]) (by simp) (by simp) (by simp)))) hex hn
  | false =>
   rw [hm2] at h1; simp only [cond_false] at h1
   exact fin h h1 hl h2 hex hn
 ·exact fin h h1 hl h2 hex hn
structure MethOk (P : Program) (t : TypeId) (name : String) (i : MI) : Prop where
 val : ∀ f, i = .val f → ∀ (fuel : Nat) (w : World) (v : Value), (method (fuel + 1) t v name).run P w = .ok (f, v) w
 load : ∀ f e, i = .load f e → ∀ (fuel : Nat) (w : World) (ad : Addr) (u : Value), (loadVar e ad).run P w = .ok u w → (method (fuel + 1) t (.pointer (some ad)) name).run P w = .ok (f, u) w
def MOk (E : Env) : Prop := ∀ t s i, findM E.mt t s = some i → MethOk E.P t s i
theorem sound_invoke (hT : TOk E) (hM : MOk E) {cl : Call} {y : Operand} {name : String} (h : Rel E.P x st a w L ow) (ho : o.op = .call cl) (hc : cl.callee = .invoke y name)
  (hr : Runs E.P st (opnd y fun b => invokeM E o.dst b name cl.args.toList) rs d) (hl : ∀ p ∈ d.s, p.1 < st.s.length) (hn : Good E x (st.app d) next) : o.wp E.P a w next Q := by
 obtain ⟨b, rs1, h1, h2⟩ := opnd_runs h hr
 have hargs : cl.args.map a.eval = (cl.args.toList.map a.eval).toArray := by
  cases cl with | mk _ args _ => cases args; simp
 have hex : ∀ (t : TypeId) (v u : Value) (f : FuncId), a.eval y = .iface t v → (method (E.P.types.size + Made.depth) t v name).run E.P w = .ok (f, u) w → (execOp a.eval o).run E.P w = (callFunc f (u :: cl.args.toList.map a.eval).toArray).run E.P w := by
  intro t v u f hv hm
  have e1 : (#[u] ++ (#[Value.iface t v] ++ cl.args.map a.eval).extract 1 (#[Value.iface t v] ++ cl.args.map a.eval).size) = (u :: cl.args.toList.map a.eval).toArray := by
   rw [hargs]; apply Array.toList_inj.1; simp [List.take_of_length_le]
  simp only [execOp, ho, resolve, hc, hv, Sem.run_bind, Sem.run_pure, Result.andThen_ok, invoke]
  simp only [Array.getElem?_append_left (show 0 < (#[Value.iface t v] : Array Value).size by simp)]
  simp only [List.getElem?_toArray, List.getElem?_cons_zero]
  have hp : (program).run E.P w = .ok E.P w := rfl
  simp only [callMethod, Sem.run_bind, hp, Result.andThen_ok, hm]
  rw [e1]
 have hdep : ∃ k, E.P.types.size + Made.depth = k + 1 := ⟨E.P.types.size + (Made.depth - 1), by simp only [Made.depth]⟩
 obtain ⟨k, hk⟩ := hdep
 unfold invokeM at h1
 split at h1
 ·rename_i t b0
  generalize hv : a.eval y = v at h2
  cases h2 with
  | @ifc _ _ v0 h3 =>
   split at h1
   ·rename_i f hf
    obtain ⟨bs, rs2, h4, h5, h6⟩ := opnds_runs h h1
    simp only [List.reverse_nil, List.nil_append] at h4
    refine sound_callM (vs := v0 :: cl.args.toList.map a.eval) h (by simp [h5]) (fun i c u hi hu => ?_) h4 hl hn ?_
    ·cases i with
     | zero => simp at hi hu; subst hi; subst hu; exact h3
     | succ i => exact h6 i c u (by simpa using hi) (by simpa using hu)
    ·exact hex t v0 v0 f hv (by rw [hk]; exact (hM _ _ _ hf).val f rfl k w v0)
   ·rename_i f e hf
    obtain ⟨i, hi, _, h4⟩ := typ_runs hT h1
    obtain ⟨c, rs2, ad, u, h5, rfl, h7, h8⟩ := loadAV_runs h hi h4 h3
    obtain ⟨bs, rs3, h9, h10, h11⟩ := opnds_runs h h5
    simp only [List.reverse_nil, List.nil_append] at h9
    refine sound_callM (vs := u :: cl.args.toList.map a.eval) h (by simp [h10]) (fun i c u hi hu => ?_) h9 hl hn ?_
    ·cases i with
     | zero => simp at hi hu; subst hi; subst hu; exact h8
     | succ i => exact h11 i c u (by simpa using hi) (by simpa using hu)
    ·exact hex t _ u f hv (by rw [hk]; exact (hM _ _ _ hf).load f e rfl k w ad u h7)
   ·cases h1
 ·cases h1
end
end Ev

namespace Ev
open Go
set_option linter.unusedSimpArgs false
section
variable {E : Env} {x : Cx} {st : St} {a : Act} {w w' : World} {L L' : Nat → Pl} {ow ow' : Own} {rs : List Loc} {d : Delta} {o : Oper} {next : Act → World → Prop} {Q : Exit → Act → World → Prop}
theorem sound_makeInterface {t : TypeId} {y : Operand} (hT : TOk E) (h : Rel E.P x st a w L ow) (ho : o.op = .makeInterface t y)
  (hr : Runs E.P st (typ E t fun i => match i.kind with
  | .ptr => opnd y fun a => out o.dst (.ifc t a) []
  | .struct _ => opnd y fun a => out o.dst (.ifc t a) []
  | _ => .fail) rs d) (hl : ∀ p ∈ d.s, p.1 < st.s.length) (hn : Good E x (st.app d) next) : o.wp E.P a w next Q := by
 obtain ⟨i, hi, _, h0⟩ := typ_runs hT hr
 obtain ⟨dsc, u1, _, _, u4⟩ := hi.under
 split at h0
 ·rename_i hk
  rw [hk] at u4
  obtain ⟨e, rfl⟩ := u4
  exact sound_makeIface h ho h0 hl (by simp [Instr.makeInterface, run_underlying u1]) hn
 ·rename_i fs hk
  rw [hk] at u4
  obtain ⟨fields, rfl, _⟩ := u4
  exact sound_makeIface h ho h0 hl (by simp [Instr.makeInterface, run_underlying u1]) hn
 ·cases h0
theorem sound_field {t : TypeId} {y : Operand} {f : Nat} (hT : TOk E) (h : Rel E.P x st a w L ow) (ho : o.op = .field t y f)
  (hr : Runs E.P st (typ E t fun i => match fieldsOf E i.kind f, fieldAt i.kind f with
  | some (off, n), some (_, ft) => typ E ft fun j => opnd y fun | .agg l => mkAV j ((l.drop off).take n) .fail fun a => out o.dst a [] | _ => .fail
  | _, _ => .fail) rs d) (hl : ∀ p ∈ d.s, p.1 < st.s.length) (hn : Good E x (st.app d) next) : o.wp E.P a w next Q := by
 obtain ⟨i, hi, _, h0⟩ := typ_runs hT hr
 obtain ⟨dsc, u1, _, _, u4⟩ := hi.under
 split at h0
 ·rename_i off n off' ft hf1 hf2
  obtain ⟨j, hj, _, h1⟩ := typ_runs hT h0
  obtain ⟨b, rs1, h2, h3⟩ := opnd_runs h h1
  cases hk : i.kind with
  | struct fs =>
   rw [hk] at hf1 hf2 u4
   obtain ⟨fields, rfl, v2, v3⟩ := u4
   simp only [fieldAt] at hf2
   simp only [fieldsOf, hf2] at hf1
   have hsz : ∀ j', E.T ft = some j' → j'.size = j.size := fun j' hj' => by rw [← (hT _ _ hj').1.cells, hj.cells]
   cases hTf : E.T ft with
   | none => rw [hTf] at hf1; cases hf1
   | some j' =>
    rw [hTf] at hf1
    injection hf1 with hf1; injection hf1 with e1 e2
    have hn2 : n = j.size := by rw [← e2]; exact hsz j' hTf
    subst e1; subst hn2
    obtain ⟨fd, w1, w2, w3, w4⟩ := v3 f off' ft hf2
    subst w2; subst w3
    split at h2
    ·rename_i l
     generalize hv : a.eval y = v at h3
     cases h3 with
     | @agg _ vs hl2 hs =>
      have hget : ∀ (k : Nat) (s : SC), ((l.drop fd.offset).take j.size)[k]? = some s → l[fd.offset + k]? = some s ∧ k < j.size := by
       intro k s hks
       rw [List.getElem?_take] at hks
       split at hks
       ·rw [List.getElem?_drop] at hks; exact ⟨hks, by assumption⟩
       ·cases hks
      rcases mkAV_runs h2 with ⟨ha, hr2⟩ | ⟨ha, s, hls, hr2⟩
      ·refine fin h hr2 hl (.agg (vs := vs.extract fd.offset (fd.offset + j.size)) ?_ fun k s u hks hku => ?_) ?_ hn
       ·simp [hl2]; omega
       ·obtain ⟨k1, k2⟩ := hget k s hks
        refine hs _ s u k1 ?_
        rw [Array.getElem?_extract] at hku
        split at hku
        ·exact hku
        ·cases hku
       ·simp [execOp, ho, Instr.field, run_underlying u1, hv, asAgg, w1, part, isAgg_run hj, sizeOf_run hj, ha]
      ·obtain ⟨k1, k2⟩ := hget 0 s (by rw [hls]; rfl)
       have hlt : fd.offset < vs.size := by rw [← hl2]; exact (List.getElem?_eq_some_iff.1 k1).1
       have hu : vs[fd.offset]? = some vs[fd.offset] := Array.getElem?_eq_getElem hlt
       refine fin h hr2 hl (.one (hs _ s _ k1 hu)) ?_ hn
       simp [execOp, ho, Instr.field, run_underlying u1, hv, asAgg, w1, part, isAgg_run hj, ha, hu]
    ·cases h2
  | _ => rw [hk] at hf2; cases hf2
 ·cases h0
theorem bytesOf_get : ∀ (rows : List (List C)) (bs : List UInt8), bytesOf rows = some bs → ∃ xs : List Int, rows = xs.map (fun n => [.v (.int .u8 n)]) ∧ bs = xs.map fun n => UInt8.ofNat n.toNat := by
 intro rows
 induction rows with
 | nil => intro bs h; simp [bytesOf] at h; subst h; exact ⟨[], rfl, rfl⟩
 | cons r l ih =>
  intro bs h
  unfold bytesOf at h
  split at h
  ·rename_i heq; cases heq
  ·rename_i n l' heq
   injection heq with h1 h2; subst h1; subst h2
   split at h
   ·rename_i bs' hb
    injection h with h; subst h
    obtain ⟨xs, h3, h4⟩ := ih bs' hb
    exact ⟨n :: xs, by rw [h3]; rfl, by rw [h4]; rfl⟩
   ·cases h
  ·cases h
theorem sound_convert {t0 t : TypeId} {y : Operand} (hT : TOk E) (h : Rel E.P x st a w L ow) (ho : o.op = .convert t0 t y)
  (hr : Runs E.P st (typ E t0 fun j => typ E t fun i => opnd y fun a => convM E o.dst j i a) rs d) (hl : ∀ p ∈ d.s, p.1 < st.s.length) (hn : Good E x (st.app d) next) : o.wp E.P a w next Q := by
 obtain ⟨j, hj, _, h0⟩ := typ_runs hT hr
 obtain ⟨i, hi, _, h1⟩ := typ_runs hT h0
 obtain ⟨b, rs1, h2, h3⟩ := opnd_runs h h1
 obtain ⟨dj, j1, _, _, j4⟩ := hj.under
 obtain ⟨di, i1, _, _, i4⟩ := hi.under
 unfold convM at h2
 generalize hv : a.eval y = v at h3
 split at h2
 ·rename_i k0 k k' n hk1 hk2
  rw [hk1] at j4; simp only at j4; subst j4
  rw [hk2] at i4; simp only at i4; subst i4
  have := avr_one_v h3; subst this
  exact finN h h2 hl (by simp [execOp, ho, convert, run_underlying j1, run_underlying i1, Conv.intToInt, hv]) hn
 ·rename_i e id g p hk1 hk2
  rw [hk1] at j4; simp only at j4; subst j4
  rw [hk2] at i4; simp only at i4; subst i4
  obtain ⟨ie, hie, _, h4⟩ := typ_runs hT h2
  split at h4
  ·rename_i hke
   obtain ⟨de, e1, _, _, e4⟩ := hie.under
   rw [hke] at e4; simp only at e4; subst e4
   cases h3 with
   | one hs =>
    obtain ⟨ob, cells, put, e', rows, rs3, k1, k2, k3, k4, k5, k6⟩ := ownAt_runs (pend := []) h h4 (by simp) hs
    obtain ⟨hb, k7⟩ := runs_cond k6
    have hb := Nat.eq_of_beq_eq_true hb
    subst hb
    split at k7
    ·rename_i bs hbs
     obtain ⟨xs, rfl, rfl⟩ := bytesOf_get _ _ hbs
     have hoc := ownAt_oc (pend := []) h k1 k2 k3 k5
     refine fin h k7 hl (avr_v rfl) ?_ hn
     have hcl := hie.cells
     cases hoc with
     | @us _ _ _ _ inner hown hp hsz how ih =>
      have hs1 : ie.size = 1 := size_one hie (by
       cases ha : ie.agg with
       | false => rfl
       | true =>
        obtain ⟨d', g1, g2, _⟩ := hie.under
        rw [e1] at g1; injection g1 with g1; subst g1
        rcases g2.1 ha with ⟨_, hh⟩ | ⟨_, _, hh⟩ <;> cases hh)
      rw [hs1] at hcl
      have hin : ∀ m, m < xs.length → inner.getD m undef = .int .u8 (xs.getD m 0) := by
       intro m hm
       have hx : xs[m]? = some xs[m] := List.getElem?_eq_getElem hm
       have := ih m [.v (.int .u8 xs[m])] 0 _ (by simp [hx]) rfl
       rw [hcl] at this
       simp only [Nat.mul_one, Nat.add_zero] at this
       have hx2 : xs.getD m 0 = xs[m] := by simp [hx]
       rw [hx2]
       generalize inner.getD m undef = z at this
       cases this with
       | v => rfl
      rcases hown.2 with ⟨rfl, hn0⟩ | ⟨gb, cap, cur, rfl, _, hg, hc, hm, hs2, ht⟩
      ·have : xs = [] := List.eq_nil_of_length_eq_zero (by simpa using hn0)
       subst this
       simp only [execOp, ho, hv, Sem.run_bind, run_convert_bytes_nil w t0 e j1 e1 0 0 t i1, Result.andThen_ok, Sem.run_pure]
       rfl
      ·have := run_convert_bytes_arg w t0 e j1 e1 gb 0 xs.length cap xs rfl (fun m hm => by
        rw [Nat.zero_add]
        obtain ⟨g2, cap2, hv2, _, _, hcell, _, _⟩ := ownsRow_cell hown (k := m) (by rw [hcl]; simpa using hm)
        injection hv2 with e5 _ _
        injection e5 with e5; injection e5 with e5
        subst e5
        rw [hcell, hin m hm]) t i1
       simp only [List.length_map] at hv
       simp only [execOp, ho, hv, Sem.run_bind, this, Result.andThen_ok, Sem.run_pure]
       rfl
    ·cases k7
  ·cases h4
 ·rename_i s hk1 hk2
  rw [hk1] at j4; simp only at j4; subst j4
  rw [hk2] at i4; simp only at i4; subst i4
  have := avr_one_v h3; subst this
  exact fin h h2 hl (avr_v rfl) (by simp [execOp, ho, convert, run_underlying j1, run_underlying i1, hv]) hn
 ·cases h2
end
end Ev

namespace Ev
open Go
set_option linter.unusedSimpArgs false
section
variable {E : Env} {x : Cx} {st : St} {a : Act} {w w' : World} {L L' : Nat → Pl} {ow ow' : Own} {rs : List Loc} {d : Delta} {o : Oper} {next : Act → World → Prop} {Q : Exit → Act → World → Prop}
theorem mapTy_runs {t : TypeId} {k : M} (hT : TOk E) (hr : Runs E.P st (mapTy E t k) rs d) : ∃ kt et, E.P.underlying t = some (.map kt et) ∧ E.P.underlying kt = some .string ∧ (∀ w, (zeroValue et).run E.P w = .ok (.int .i64 0) w) ∧ Runs E.P st k rs d := by
 obtain ⟨i, hi, _, h1⟩ := typ_runs hT hr
 obtain ⟨dsc, u1, _, _, u4⟩ := hi.under
 split at h1
 ·rename_i kt et hk
  rw [hk] at u4; simp only at u4; subst u4
  obtain ⟨ik, hik, _, h2⟩ := typ_runs hT h1
  obtain ⟨ie, hie, _, h3⟩ := typ_runs hT h2
  obtain ⟨kd, v1, _, _, v4⟩ := hik.under
  split at h3
  ·rename_i hk1 hk2 hz
   rw [hk1] at v4; simp only at v4; subst v4
   refine ⟨kt, et, u1, v1, fun w => ?_, h3⟩
   obtain ⟨ed, e1, e2, _, e4⟩ := hie.under
   rw [hk2] at e4; simp only at e4; subst e4
   have hag : ie.agg = false := by
    cases ha : ie.agg with
    | false => rfl
    | true =>
     rcases e2.1 ha with ⟨_, h⟩ | ⟨_, _, h⟩ <;> cases h
   obtain ⟨inf, z, i1, _, _, i4, i5, i6⟩ := hie.info
   have hz1 : z = .int .i64 0 := by
    have := i6 hag
    rw [this, hz] at i5
    simpa using i5
   subst hz1
   simp [zeroValue, typeInfo, i1, i4]
  ·cases h3
 ·cases h1
def idxE : List (ByteArray × Int) → ByteArray → Nat → Option (Nat × Int)
 | [], _, _ => none
 | q :: l, s, i => if s == q.1 then some (i, q.2) else idxE l s (i + 1)
theorem findNow_is {s : ByteArray} : ∀ (l : List MapEntry) (es : List (ByteArray × Int)) (i : Nat), l.map (fun e => (e.key, e.val)) = es.map (fun q => (Value.string q.1, Value.int .i64 q.2)) → Instr.findNow .string (.string s) l i = some ((idxE es s i).map fun p => (p.1, .int .i64 p.2)) := by
 intro l
 induction l with
 | nil => intro es i h; cases es with
  | nil => rfl
  | cons _ _ => simp at h
 | cons e l ih =>
  intro es i h
  cases es with
  | nil => simp at h
  | cons q es =>
   simp only [List.map_cons, List.cons.injEq, Prod.mk.injEq] at h
   obtain ⟨⟨h1, h2⟩, h3⟩ := h
   have hs : Instr.sameNow .string (.string s) e.key = some (s == q.1) := by rw [h1]; rfl
   unfold Instr.findNow
   rw [hs]
   cases hb : (s == q.1) with
   | true => simp [idxE, hb, h2]
   | false =>
    simp only [idxE, hb]
    exact ih es (i + 1) h3
theorem lookE_idx : ∀ (es : List (ByteArray × Int)) (s : ByteArray) (i : Nat), lookE es s = match idxE es s i with | some p => p.2 | none => 0 := by
 intro es
 induction es with
 | nil => intro s i; rfl
 | cons q es ih =>
  intro s i
  simp only [lookE, idxE]
  cases hb : (s == q.1) with
  | true => rfl
  | false => exact ih s (i + 1)
theorem byt_eq {a b : ByteArray} (h : (a == b) = true) : a = b := by
 cases a with | mk x => cases b with | mk y =>
 have h : (x == y) = true := h
 rw [eq_of_beq h]
theorem updE_none : ∀ (es : List (ByteArray × Int)) (s : ByteArray) (n : Int) (i : Nat), idxE es s i = none → updE es s n = es ++ [(s, n)] := by
 intro es
 induction es with
 | nil => intro s n i _; rfl
 | cons q es ih =>
  intro s n i h
  simp only [idxE] at h
  cases hb : (s == q.1) with
  | true => simp [hb] at h
  | false =>
   rw [hb] at h
   simp only [updE, hb, List.cons_append]
   rw [← ih s n (i + 1) (by simpa using h)]; rfl
theorem updE_some : ∀ (es : List (ByteArray × Int)) (s : ByteArray) (n : Int) (i j : Nat) (m : Int), idxE es s i = some (j, m) → i ≤ j ∧ j - i < es.length ∧ updE es s n = es.set (j - i) (s, n) ∧ (∀ q, es[j - i]? = some q → q.1 = s) := by
 intro es
 induction es with
 | nil => intro s n i j m h; cases h
 | cons q es ih =>
  intro s n i j m h
  simp only [idxE] at h
  cases hb : (s == q.1) with
  | true =>
   rw [hb] at h
   simp at h
   obtain ⟨rfl, _⟩ := h
   refine ⟨Nat.le_refl _, by simp, by simp [updE, hb], fun q' hq => ?_⟩
   simp at hq; subst hq; exact (byt_eq hb).symm
  | false =>
   rw [hb] at h
   obtain ⟨k1, k2, k3, k4⟩ := ih s n (i + 1) j m (by simpa using h)
   have e : j - i = (j - (i + 1)) + 1 := by omega
   refine ⟨by omega, by simp; omega, ?_, fun q' hq => ?_⟩
   ·rw [e, List.set_cons_succ, ← k3]
    simp [updE, hb]
   ·rw [e] at hq; exact k4 q' (by simpa using hq)
theorem mapAt_runs {id : Nat} {k : List (ByteArray × Int) → Ob → M} {v : Value} {g : Nat} (h : Rel E.P x st a w L ow) (hr : Runs E.P st (mapAt id k) rs d) (hv : SCR E.P w (x.F w ow) L st.o (.ref id g (.cell 0)) v) :
  ∃ es ob rs' r arr clk l, Runs E.P st (k es ob) rs' d ∧ st.o[id]? = some ob ∧ ob.kind ≠ 0 ∧ ob.cells = some [.mp es] ∧ L id = .vals l ∧ l[0]? = some (.map (some r)) ∧ v = .map (some r) ∧ w.heap[r]? = some (.map arr clk) ∧ MapIs arr es ∧ ow r = some [id, 0] := by
 unfold mapAt at hr
 cases hr with
 | @obj _ _ ob rs' _ ho h2 =>
  obtain ⟨hk, h3⟩ := runs_cond h2
  have hk0 : ob.kind ≠ 0 := by simp [Nat.blt_eq] at hk; omega
  split at h3
  ·rename_i es hc
   obtain ⟨l, hl⟩ := h.kinds id ob _ ho hc hk0
   have hR := h.objs id ob _ ho hc
   obtain ⟨u, q1, q2⟩ := hR.cell 0 _ rfl
   rw [hl] at q1
   have q1 : l[0]? = some u := q1
   cases q2 with
   | @mp _ _ r arr clk hh he how =>
    cases hv with
    | ref k1 k2 k3 k4 k5 k6 =>
     have h6 := k6 l 0 hl rfl
     rw [q1] at h6; injection h6 with h6
     exact ⟨es, ob, _, r, arr, clk, l, h3, ho, hk0, hc, hl, q1, h6.symm, hh, he, how⟩
  ·cases h3
theorem sound_lookup {t : TypeId} {y ix : Operand} (hT : TOk E) (h : Rel E.P x st a w L ow) (ho : o.op = .lookup t y ix false)
  (hr : Runs E.P st (mapTy E t (opnd y fun a => opnd ix fun b => lookM o.dst a b)) rs d) (hl : ∀ p ∈ d.s, p.1 < st.s.length) (hn : Good E x (st.app d) next) : o.wp E.P a w next Q := by
 obtain ⟨kt, et, u1, u2, hz, h1⟩ := mapTy_runs hT hr
 obtain ⟨b, rs1, h2, h3⟩ := opnd_runs h h1
 obtain ⟨c, rs2, h4, h5⟩ := opnd_runs h h2
 unfold lookM at h4
 split at h4
 ·rename_i id g s
  generalize hv : a.eval y = v at h3
  have hs := avr_one_v h5
  cases h3 with
  | one hsc =>
   obtain ⟨es, ob, rs3, r, arr, clk, l, k1, k2, k3, k4, k5, k6, rfl, k8, k9, k10⟩ := mapAt_runs h h4 hsc
   cases k1 with
   | num k1 =>
    cases k1 with
    | need hp k1 =>
     rw [← hp] at k1
     refine fin h k1 hl (avr_v rfl) ?_ hn
     have hfind : (Instr.findKey kt (.string s) arr.toList).run E.P w = .ok ((idxE es s 0).map fun p => (p.1, .int .i64 p.2)) w := MapKept.run_findKey u2 (findNow_is _ _ 0 k9)
     have hchk := MapKept.run_checkKey (P := E.P) (w := w) u2 (show MapKept.IsKey .string (.string s) from trivial) arr.isEmpty 9999
     have hlk : (Instr.lookup t (.map (some r)) (.string s) false).run E.P w = .ok (.int .i64 (lookE es s)) w := by
      rw [lookE_idx es s 0]
      cases hx : idxE es s 0 with
      | none => rw [hx] at hfind; simp [Instr.lookup, underlying, u1, MapKept.run_getObj_map k8, hchk, hfind, hz]
      | some p => rw [hx] at hfind; simp [Instr.lookup, underlying, u1, MapKept.run_getObj_map k8, hchk, hfind]
     simp [execOp, ho, hv, hs, hlk]
 ·cases h4
theorem Rel.mapSet {id r : Nat} {ob : Ob} {es es' : List (ByteArray × Int)} {arr arr' : Array MapEntry} {clk clk' : Nat} {l : List Value} (h : Rel E.P x st a w L ow) (k2 : st.o[id]? = some ob) (_k4 : ob.cells = some [.mp es]) (k5 : L id = .vals l) (k6 : l[0]? = some (.map (some r)))
  (k8 : w.heap[r]? = some (.map arr clk)) (k10 : ow r = some [id, 0]) (he : MapIs arr' es') :
  Rel E.P x { st with o := st.o.set id { ob with g := ob.g + 1, cells := some [.mp es'] } } a { w with heap := w.heap.setIfInBounds r (.map arr' clk') } L ow := by
 have hrl : r < w.heap.size := (Array.getElem?_eq_some_iff.1 k8).1
 have hidl := (List.getElem?_eq_some_iff.1 k2).1
 have hsame : ∀ k, k ≠ r → (w.heap.setIfInBounds r (.map arr' clk'))[k]? = w.heap[k]? := fun k hk => by rw [Array.getElem?_setIfInBounds]; rw [if_neg (Ne.symm hk)]
 have hF : FStep w { w with heap := w.heap.setIfInBounds r (.map arr' clk') } (x.F w ow) (x.F { w with heap := w.heap.setIfInBounds r (.map arr' clk') } ow) := fun k hk => by
  have hne : k ≠ r := fun e => by subst e; rw [h.F_own hk] at k10; cases k10
  exact ⟨hsame k hne, FF_grow (by simp) hk (h.F_own hk)⟩
 have hoth : ∀ id', id' ≠ id → ∀ k q, ow k = some (id' :: q) → (w.heap.setIfInBounds r (.map arr' clk'))[k]? = w.heap[k]? := fun id' hi k q hk => hsame k fun e => by
  subst e; rw [k10] at hk; injection hk with hk; injection hk with hk; exact hi hk.symm
 refine h.step rfl ⟨h.keeps.os, h.keeps.tape, h.keeps.output, by simpa using h.keeps.size, fun k h1 h2 => ?_⟩ (fun k p hk => ?_) hF (fun id' ob' cells' h1 h2 => ?_) (fun id' ob' cells' h1 h2 => ?_) (fun id' ob' cells' h1 h2 h3 => ?_)
 ·refine (hsame k fun e => ?_).trans (h.keeps.block k h1 h2)
  subst e
  rcases (h.owOk _ _ k10).2 with h3 | h3
  ·exact h3 h2
  ·omega
 ·obtain ⟨q1, q2⟩ := h.owOk k p hk
  exact ⟨by simpa using q1, q2⟩
 ·by_cases hi : id' = id
  ·subst hi
   rw [k2] at h1; injection h1 with h1; subst h1
   exact ⟨_, _, List.getElem?_set_self hidl, rfl, by simp, rfl, fun hg => by simp at hg⟩
  ·exact ⟨ob', cells', by rw [List.getElem?_set_ne (Ne.symm hi)]; exact h1, h2, Nat.le_refl _, rfl, fun _ => ObStep.same (h.objs id' ob' cells' h1 h2) fun k q hk => hoth id' hi k q hk⟩
 ·by_cases hi : id' = id
  ·subst hi
   simp [hidl] at h1; subst h1
   simp at h2; subst h2
   rw [k5]
   refine ⟨(fun _ hg => nomatch hg), fun j c hj => ?_, fun _ _ hg => nomatch hg⟩
   cases j with
   | zero =>
    simp at hj; subst hj
    exact ⟨_, k6, .mp (r := r) (arr := arr') (clk := clk') (by simp [hrl]) he k10⟩
   | succ j => simp at hj
  ·rw [List.getElem?_set_ne (Ne.symm hi)] at h1
   exact (h.objs id' ob' cells' h1 h2).move hF fun k q hk => ⟨hoth id' hi k q hk, hk⟩
 ·by_cases hi : id' = id
  ·subst hi
   exact ⟨l, k5⟩
  ·rw [List.getElem?_set_ne (Ne.symm hi)] at h1
   exact h.kinds id' ob' cells' h1 h2 h3
theorem sound_update {t : TypeId} {y ky z : Operand} (hT : TOk E) (h : Rel E.P x st a w L ow) (ho : o.op = .mapUpdate t y ky z ∨ o.op = .insert t y ky z)
  (hr : Runs E.P st (mapTy E t (opnd y fun a => opnd ky fun b => opnd z fun c => updM o.dst a b c)) rs d) (hn : Good E x (st.app d) next) : o.wp E.P a w next Q := by
 obtain ⟨kt, et, u1, u2, hz, h1⟩ := mapTy_runs hT hr
 obtain ⟨b, rs1, h2, h3⟩ := opnd_runs h h1
 obtain ⟨c, rs2, h4, h5⟩ := opnd_runs h h2
 obtain ⟨c3, rs3, h6, h7⟩ := opnd_runs h h4
 unfold updM at h6
 split at h6
 ·rename_i id g s n
  generalize hv : a.eval y = v at h3
  have hs := avr_one_v h5
  have hx := avr_one_v h7
  cases h3 with
  | one hsc =>
   obtain ⟨es, ob, rs4, r, arr, clk, l, k1, k2, k3, k4, k5, k6, rfl, k8, k9, k10⟩ := mapAt_runs h h6 hsc
   cases k1
   have hfind : (Instr.findKey kt (.string s) arr.toList).run E.P w = .ok ((idxE es s 0).map fun p => (p.1, .int .i64 p.2)) w := MapKept.run_findKey u2 (findNow_is _ _ 0 k9)
   have hchk := MapKept.run_checkKey (P := E.P) (w := w) u2 (show MapKept.IsKey .string (.string s) from trivial) false 9999
   have hup : ∃ arr' clk', (Instr.mapUpdate t (.map (some r)) (.string s) (.int .i64 n)).run E.P w = .ok () { w with heap := w.heap.setIfInBounds r (.map arr' clk') } ∧ MapIs arr' (updE es s n) := by
    cases hx : idxE es s 0 with
    | none =>
     rw [hx] at hfind
     refine ⟨arr.push { key := .string s, val := .int .i64 n, born := clk }, clk + 1, ?_, ?_⟩
     ·simp [Instr.mapUpdate, underlying, u1, MapKept.run_getObj_map k8, hchk, hfind, MapKept.run_setObj_map _ k8]
     ·rw [updE_none es s n 0 hx]
      unfold MapIs at k9 ⊢
      simp [k9]
    | some p =>
     obtain ⟨j, m⟩ := p
     obtain ⟨_, q2, q3, q4⟩ := updE_some es s n 0 j m hx
     simp only [Nat.sub_zero] at q2 q3 q4
     rw [hx] at hfind
     have hlen : arr.size = es.length := by have := congrArg List.length k9; simpa using this
     have hja : j < arr.size := by omega
     have hkey : arr[j].key = .string s := by
      have h9 : (arr.toList.map fun e => (e.key, e.val))[j]? = (es.map fun q => (Value.string q.1, Value.int .i64 q.2))[j]? := by rw [k9]
      rw [List.getElem?_map, List.getElem?_map, List.getElem?_eq_getElem q2] at h9
      simp [hja] at h9
      rw [h9.1, q4 _ (List.getElem?_eq_getElem q2)]
     have hkeep := MapKept.run_keyThatStays (P := E.P) (w := w) (d := .string) (k := .string s) trivial
     refine ⟨arr.modify j fun e => { e with key := .string s, val := .int .i64 n }, clk, ?_, ?_⟩
     ·simp [Instr.mapUpdate, underlying, u1, MapKept.run_getObj_map k8, hchk, hfind, hja, hkey, hkeep, MapKept.run_setObj_map _ k8]
     ·rw [q3]
      unfold MapIs at k9 ⊢
      apply List.ext_getElem?
      intro i
      have h9 : (arr.toList.map fun e => (e.key, e.val))[i]? = (es.map fun q => (Value.string q.1, Value.int .i64 q.2))[i]? := by rw [k9]
      rw [List.getElem?_map, List.getElem?_map] at h9 ⊢
      rw [List.getElem?_set]
      by_cases hij : j = i
      ·subst hij
       simp [hja, q2, Array.getElem?_modify]
      ·simp only [if_neg hij]
       rw [← h9]
       simp [Array.getElem?_modify, hij]
   obtain ⟨arr', clk', hrun, hmi⟩ := hup
   have hrel := h.mapSet (clk' := clk') k2 k4 k5 k6 k8 k10 hmi
   refine wp_skip rfl (w' := { w with heap := w.heap.setIfInBounds r (.map arr' clk') }) ?_ ?_
   ·rcases ho with ho | ho <;> simp [execOp, ho, hv, hs, hx, hrun]
   ·cases hdst : o.dst with
    | none => rw [hdst] at hn; exact hn _ _ _ _ hrel
    | some dd => rw [hdst] at hn; exact hn _ _ _ _ hrel.putNone
 ·cases h6
theorem newMap_sound {t : TypeId} {r : Option Operand} (h : Rel E.P x st a w L ow) (ho : o.op = .makeMap t r) (hrun : (Instr.makeMap t (r.map a.eval)).run E.P w = .ok (.map (some w.heap.size)) (w.alloc (.map #[] 0)))
  (hr : Runs E.P st (newMap E.m o.dst) rs d) (hl : ∀ p ∈ d.s, p.1 < st.s.length) (hn : Good E x (st.app d) next) : o.wp E.P a w next Q := by
 unfold newMap at hr
 split at hr
 ·rename_i dd hd
  cases hr with
  | obj h1 h2 =>
   rename_i ob rs2
   obtain ⟨h3, h4⟩ := isAbsent_runs h2
   cases h4
   have hdl : dd < a.tmps.size := by rw [← h.len]; exact hl (dd, some (.one (.ref (dd + E.m) 0 (.cell 0)))) (by simp)
   have hol := (List.getElem?_eq_some_iff.1 h1).1
   refine wp_value (v := .map (some w.heap.size)) (w' := w.alloc (.map #[] 0)) (by simp [execOp, ho, hrun]) ?_
   rw [hd]
   have g := Grow.alloc w (.map #[] 0)
   have hnone : ow w.heap.size = none := by
    cases hx : ow w.heap.size with
    | none => rfl
    | some p => have := (h.owOk _ _ hx).1; omega
   let ow2 : Own := fun k => if k = w.heap.size then some [dd + E.m, 0] else ow k
   have how : ∀ k p, ow k = some p → ow2 k = some p := fun k p hk => by
    have : k ≠ w.heap.size := fun e => by subst e; rw [hnone] at hk; cases hk
    simp [ow2, this, hk]
   have hF : FStep w (w.alloc (.map #[] 0)) (x.F w ow) (x.F (w.alloc (.map #[] 0)) ow2) := fun k hk => by
    have h1 := h.F_lt hk
    have hne : k ≠ w.heap.size := by omega
    exact ⟨g.block k h1, FF_grow g.size hk (by simp [ow2, hne]; exact h.F_own hk)⟩
   have hnew := h.newObj (d := dd + E.m) (ob := ob) (ob' := ⟨0, 1, some [.mp []]⟩) (cs := [.mp []]) (pl := .vals [.map (some w.heap.size)]) (w' := w.alloc (.map #[] 0)) (ow' := ow2) h1 h3 rfl (h.keeps.grow g) (fun k p hk => by
     by_cases hk0 : k = w.heap.size
     ·subst hk0; exact ⟨by simp, .inr (Nat.le_trans h.keeps.size (Nat.le_refl _))⟩
     ·have hk' : ow k = some p := by simpa [ow2, hk0] using hk
      obtain ⟨q1, q2⟩ := h.owOk k p hk'
      exact ⟨Nat.lt_of_lt_of_le q1 g.size, q2⟩) hF
    (fun id _ k r hk => ⟨g.block k (h.owOk k _ hk).1, how k _ hk⟩)
    ⟨(fun _ hg => nomatch hg), fun j c hj => by
     cases j with
     | zero =>
      simp at hj; subst hj
      exact ⟨.map (some w.heap.size), rfl, .mp (arr := #[]) (clk := 0) (heap_alloc_new w _) (by simp [MapIs]) (by simp [ow2])⟩
     | succ j => simp at hj, fun _ _ hg => nomatch hg⟩ (fun _ => ⟨_, rfl⟩)
   refine hn _ _ _ _ (hnew.put hdl (.one (.ref rfl (List.getElem?_set_self hol) rfl (Nat.le_refl _) (fun _ e rows hg => by simp [getC] at hg) (fun l off hl hp => by simp only [if_true] at hl; injection hl with hl; subst hl; injection hp with hp; subst hp; rfl))))
 ·cases hr
theorem sound_makeMap0 {t : TypeId} (hT : TOk E) (h : Rel E.P x st a w L ow) (ho : o.op = .makeMap t none)
  (hr : Runs E.P st (mapTy E t (newMap E.m o.dst)) rs d) (hl : ∀ p ∈ d.s, p.1 < st.s.length) (hn : Good E x (st.app d) next) : o.wp E.P a w next Q := by
 obtain ⟨kt, et, u1, u2, hz, h1⟩ := mapTy_runs hT hr
 exact newMap_sound h ho (by simp [Instr.makeMap, newObj]; rfl) h1 hl hn
theorem sound_makeMap1 {t : TypeId} {y : Operand} (hT : TOk E) (h : Rel E.P x st a w L ow) (ho : o.op = .makeMap t (some y))
  (hr : Runs E.P st (mapTy E t (opnd y fun a => asInt a fun _ _ => newMap E.m o.dst)) rs d) (hl : ∀ p ∈ d.s, p.1 < st.s.length) (hn : Good E x (st.app d) next) : o.wp E.P a w next Q := by
 obtain ⟨kt, et, u1, u2, hz, h1⟩ := mapTy_runs hT hr
 obtain ⟨b, rs1, h2, h3⟩ := opnd_runs h h1
 obtain ⟨i, n, hv, _, h4⟩ := asInt_runs h2 h3
 exact newMap_sound h ho (by simp [Instr.makeMap, underlying, u1, hv, asInt, newObj]; rfl) h4 hl hn
end
end Ev

namespace Ev
open Go
set_option linter.unusedSimpArgs false
section
variable {E : Env} {x : Cx} {st : St} {a : Act} {w w' : World} {L L' : Nat → Pl} {ow ow' : Own} {rs : List Loc} {d : Delta} {o : Oper} {next : Act → World → Prop} {Q : Exit → Act → World → Prop}
theorem flatR_len (sz : Nat) : ∀ (n : Nat) (rows : List (List C)), (∀ r ∈ rows, r.length = sz) → (flatR n rows).length = min rows.length n * sz := by
 intro n
 induction n with
 | zero => intro rows _; simp [flatR]
 | succ n ih =>
  intro rows h
  cases rows with
  | nil => simp [flatR]
  | cons r l =>
   have h1 := ih l fun r hr => h r (by simp [hr])
   have h2 := h r (by simp)
   simp only [flatR, List.length_append, List.length_map, List.length_cons, h1, h2]
   rw [Nat.add_min_add_right, Nat.add_mul]; omega
theorem flatR_get (sz : Nat) : ∀ (n : Nat) (rows : List (List C)) (k : Nat) (c : C), (∀ r ∈ rows, r.length = sz) → (flatR n rows)[k]? = some c → ∃ i r j c0, rows[i]? = some r ∧ r[j]? = some c0 ∧ c = deMe c0 ∧ k = i * sz + j := by
 intro n
 induction n with
 | zero => intro rows k c _ h; simp [flatR] at h
 | succ n ih =>
  intro rows k c hs h
  cases rows with
  | nil => simp [flatR] at h
  | cons r l =>
   have h2 := hs r (by simp)
   simp only [flatR] at h
   by_cases hk : k < r.length
   ·rw [List.getElem?_append_left (by rw [List.length_map]; exact hk), List.getElem?_map, Option.map_eq_some_iff] at h
    obtain ⟨c0, h, h'⟩ := h
    exact ⟨0, r, k, c0, rfl, h, h'.symm, by omega⟩
   ·rw [List.getElem?_append_right (by rw [List.length_map]; omega), List.length_map] at h
    obtain ⟨i, r', j, c0, q1, q2, q0, q3⟩ := ih l _ c (fun r hr => hs r (by simp [hr])) h
    refine ⟨i + 1, r', j, c0, by simpa using q1, q2, q0, ?_⟩
    rw [Nat.add_mul]; omega
theorem deMe_ne (c : C) (T : TypeId) : deMe c ≠ .me T := by cases c <;> (intro h; cases h)
theorem OC.deMe {P : Program} {F : Frs} {p : List Nat} {c : C} {v : Value} (h : OC P w F ow p c v) : OC P w F ow p (deMe c) v := by
 cases c with
 | me T => exact .x h.one
 | _ => exact h
theorem sound_copy {y z : Operand} {t t' : TypeId} (hT : TOk E) (h : Rel E.P x st a w L ow) (ho : o.op = .call { callee := .builtin .copy, args := ⟨[y, z]⟩, argTypes := ⟨[t, t']⟩ })
  (hr : Runs E.P st (typ E t fun i => match i.kind with
  | .slice e => elt E e fun ie => opnd y fun a => opnd z fun b => copyM o.dst e ie a b
  | _ => .fail) rs d) (hl : ∀ p ∈ d.s, p.1 < st.s.length) (hn : Good E x (st.app d) next) : o.wp E.P a w next Q := by
 obtain ⟨i, hi, _, h0⟩ := typ_runs hT hr
 obtain ⟨dsc, u1, _, _, u4⟩ := hi.under
 split at h0
 ·rename_i e hk
  rw [hk] at u4; simp only at u4; subst u4
  obtain ⟨ie, hie, hpp, h1⟩ := elt_runs hT h0
  obtain ⟨s, rs1, h2, h3⟩ := opnd_runs h h1
  obtain ⟨b, rs2, h4, h5⟩ := opnd_runs h h2
  unfold copyM at h4
  split at h4
  ·rename_i id off n e'
   obtain ⟨hb, h4b⟩ := runs_cond h4
   have hb := Nat.eq_of_beq_eq_true hb
   subst hb
   obtain ⟨rows, pend, rs3, ow2, news, h6, h7, h8, h9, h10, h11, h12⟩ := appSrc_sound (hid := st.o.length) hie hpp h st_len_none h5 h4b
   cases pend with
   | cons p l => cases h6
   | nil =>
    have h7 : Rel E.P x st a w L ow2 := h7
    have h3' := h3.step h10 h11
    cases h6 with
    | obj g1 g2 =>
     obtain ⟨ob, hob⟩ : ∃ ob, st.o[id]? = some ob := ⟨_, g1⟩
     have g0 := g1
     rw [hob] at g0; injection g0 with g0; subst g0
     obtain ⟨cells, g3, g4⟩ := cellsOf_runs g2
     obtain ⟨hle, g5⟩ := runs_cond g4
     have hle := Nat.le_of_ble_eq_true hle
     cases g5
     generalize hvy : a.eval y = vy at h3'
     cases h3' with
     | @bs _ _ _ gb _ ob2 cells2 p1 p2 p3 =>
      have p1 : st.o[id]? = some ob2 := p1
      rw [g1] at p1; injection p1 with p1; subst p1
      rw [g3] at p2; injection p2 with p2; subst p2
      have hcl := hie.cells
      have hrs : ∀ r ∈ rows, r.length = ie.size := fun r hr => by rw [← hcl]; exact h9.rows r hr
      have hfl := flatR_len ie.size n rows hrs
      have hnl : news.length = rows.length * ie.size := by rw [h9.len, hcl]
      have hmn : min rows.length n * ie.size ≤ rows.length * ie.size := Nat.mul_le_mul_right _ (Nat.min_le_left _ _)
      have hmn2 : min rows.length n * ie.size ≤ n * ie.size := Nat.mul_le_mul_right _ (Nat.min_le_right _ _)
      have hvl : (news.take (min rows.length n * ie.size)).length = (flatR n rows).length := by rw [List.length_take, hfl, hnl]; omega
      obtain ⟨w1, ow3, r1, r2⟩ := stores_box (hid := st.o.length) (off := off) (flatR n rows) (news.take (min rows.length n * ie.size)) 1 0 st w ow2 ob cells h7 g1 g3 p3 (by rw [hfl]; omega) st_len_none hvl (fun k c v hk hv => by
       obtain ⟨i, r, j, c0, q1, q2, q0, q3⟩ := flatR_get ie.size n rows k c hrs hk
       have q4 := (h9.el i r j c0 q1 q2).deMe
       rw [← q0] at q4
       rw [hcl, ← q3] at q4
       have hv2 : news[k]? = some v := by
        rw [List.getElem?_take] at hv
        split at hv
        ·exact hv
        ·cases hv
       rw [List.getD_eq_getElem?_getD, hv2] at q4
       rw [Nat.add_comm 1 k]; exact q4) (fun k T hk => by
       obtain ⟨i, r, j, c0, q1, q2, q0, q3⟩ := flatR_get ie.size n rows k _ hrs hk
       exact deMe_ne c0 T q0.symm)
      have hrun : (Builtin.copy_ #[t, t'] o.type #[a.eval y, a.eval z]).run E.P w = .ok (goInt ((min rows.length n : Nat) : Int)) w1 := by
       rcases h9.val with ⟨⟨cap, hv⟩, hnw⟩ | ⟨ad, cap, hv, hcell⟩
       ·have hr0 : rows.length = 0 := by
         rw [hnw] at hnl
         have hp := hpp
         have h3 : rows.length * ie.size = 0 := by rw [← hnl]; rfl
         rcases Nat.mul_eq_zero.1 h3 with h | h
         ·exact h
         ·omega
        rw [hnw] at r1
        simp only [List.take_nil] at r1
        simp [Builtin.copy_, run_underlying u1, hvy, hv, sizeOf_run hie, Builtin.lenOf, Builtin.firstCells, hr0, r1, goInt]
       ·have hload := run_loadCells_list (P := E.P) w ad (news.take (min rows.length n * ie.size)) fun j v hj => hcell j v (by
         rw [List.getElem?_take] at hj
         split at hj
         ·exact hj
         ·cases hj)
        rw [hvl, hfl] at hload
        simp only [Builtin.copy_, Sem.run_bind, Sem.run_pure, Result.andThen_ok, List.getElem?_toArray, List.getElem?_cons_zero, List.getElem?_cons_succ, run_underlying u1, hvy, hv, sizeOf_run hie, Builtin.lenOf, Builtin.firstCells]
        simp [hload, r1]
      refine wp_value (w' := w1) (v := goInt ((min rows.length n : Nat) : Int)) ?_ ?_
      ·simp only [execOp, ho, resolve, invoke, builtin, Sem.run_bind, Sem.run_pure, Result.andThen_ok, List.map_toArray, List.map_cons, List.map_nil, hrun]
      ·cases hdst : o.dst with
       | none => rw [hdst] at hn; exact hn _ _ _ _ r2
       | some dd =>
        rw [hdst] at hn hl
        exact hn _ _ _ _ (r2.put (by rw [← h.len]; exact hl (dd, _) (by simp)) (avr_v rfl))
  ·cases h4
 ·cases h0
end
end Ev

namespace Ev
open Go
set_option linter.unusedSimpArgs false
section
variable {E : Env} {x : Cx} {st : St} {a : Act} {w w' : World} {L L' : Nat → Pl} {ow ow' : Own} {rs : List Loc} {d : Delta} {o : Oper} {next : Act → World → Prop} {Q : Exit → Act → World → Prop}
theorem sound_op (hT : TOk E) (hM : MOk E) (h : Rel E.P x st a w L ow) (hr : Runs E.P st (opM E o) rs d) (hl : ∀ p ∈ d.s, p.1 < st.s.length) (hlo : ∀ p ∈ d.o, p.1 < st.o.length) (hn : Good E x (st.app d) next) : o.wp E.P a w next Q := by
 unfold opM at hr
 split at hr
 ·rename_i ho; exact sound_move h (.inl ho) hr hl hn
 ·rename_i ho; exact sound_assign h ho hr hl hn
 ·rename_i ho; exact sound_pick h ho hr hl hn
 ·rename_i ho; exact sound_alloc hT h ho hr hl hn
 ·rename_i ho; exact sound_box hT h ho hr hl hlo hn
 ·rename_i ho; exact sound_build hT h ho hr hl hn
 ·rename_i ho; exact sound_buildSlice hT h ho hr hl hn
 ·rename_i ho; exact sound_load hT h ho hr hl hn
 ·rename_i ho; exact sound_store hT h ho hr hl hlo hn
 ·rename_i ho; exact sound_fieldAddr hT h ho hr hl hn
 ·rename_i ho; exact sound_indexAddr hT h ho hr hl hn
 ·rename_i ho; exact sound_index hT h ho hr hl hn
 ·rename_i ho; exact sound_makeSlice hT h ho hr hl hn
 ·rename_i ho; exact sound_slice hT h ho hr hl hn
 ·rename_i ho; exact sound_extract h ho hr hl hn
 ·rename_i ho; exact sound_field hT h ho hr hl hn
 ·rename_i ho; exact sound_not h ho hr hl hn
 ·rename_i ho; exact sound_neg h ho hr hl hn
 ·rename_i ho; exact sound_bin hT h ho hr hl hn
 ·rename_i ho; exact sound_convert hT h ho hr hl hn
 ·rename_i ho; exact sound_nil h ho hr hl hn
 ·rename_i ho; exact sound_makeFunc h ho hr hl hn
 ·rename_i ho; exact sound_makeInterface hT h ho hr hl hn
 ·rename_i ho; exact sound_makeMap0 hT h ho hr hl hn
 ·rename_i ho; exact sound_makeMap1 hT h ho hr hl hn
 ·rename_i ho; exact sound_lookup hT h ho hr hl hn
 ·rename_i ho; exact sound_update hT h (.inl ho) hr hn
 ·rename_i ho; exact sound_update hT h (.inr ho) hr hn
 ·rename_i ho; exact sound_call h ho rfl hr hl hn
 ·rename_i ho; exact sound_invoke hT hM h ho rfl hr hl hn
 ·rename_i ho; exact sound_len hT h ho hr hl hn
 ·rename_i ho; exact sound_copy hT h ho hr hl hn
 ·rename_i ho; exact sound_minmax (lt := true) h ho hr hl hn
 ·rename_i ho; exact sound_minmax (lt := false) h ho hr hl hn
 ·rename_i ho; exact sound_append hT h ho hr hl hn
 ·cases hr
theorem sound_oper {ops : Array Oper} (hT : TOk E) (hM : MOk E) (h : Rel E.P x st a w L ow) (hr : Runs E.P st (operM E ops o) rs d) (hl : ∀ p ∈ d.s, p.1 < st.s.length) (hlo : ∀ p ∈ d.o, p.1 < st.o.length) (hn : Good E x (st.app d) next) :
  if Region.wanted o (yielded ops a.tmps) then o.wp E.P a w next Q else next (a.put o.dst undef) w := by
 unfold operM at hr
 split at hr
 ·rename_i hg
  rw [if_pos (by simp [Region.wanted, hg])]
  exact sound_op hT hM h hr hl hlo hn
 ·rename_i j want hg
  split at hr
  ·rename_i t ht
   cases hr with
   | slot h1 h2 =>
    obtain ⟨v, h3, h4⟩ := h.slots t _ h1
    have skip : ∀ {rs : List Loc}, Runs E.P st (skipM o.dst) rs d → next (a.put o.dst undef) w := fun h5 => by
     unfold skipM at h5
     cases hd : o.dst with
     | none => rw [hd] at h5; cases h5; exact hn _ _ _ _ h
     | some dd =>
      rw [hd] at h5; cases h5
      exact hn _ _ _ _ (h.put (d := dd) (av := .tup []) (v := undef) (by rw [← h.len]; exact hl (dd, some (.tup [])) (by simp)) (.tup rfl (by simp)))
    dsimp only at h2
    split at h2
    ·cases h4 with
     | @tup _ vs hl0 _ =>
      have hvs : vs = #[] := Array.eq_empty_of_size_eq_zero (by simpa using hl0.symm)
      subst hvs
      have hy : yielded ops a.tmps j = none := by simp [yielded, ht, h3]
      simp only [Region.wanted, hg, hy]
      rw [if_neg (by simp)]
      exact skip h2
    obtain ⟨b, rfl, rfl, h5⟩ := asBool_runs h2 h4
    have hy : yielded ops a.tmps j = some b := by simp [yielded, ht, h3]
    simp only [Region.wanted, hg, hy]
    by_cases hb : b = want
    ·subst hb
     simp only [BEq.rfl, cond_true] at h5
     rw [if_pos (by simp)]
     exact sound_op hT hM h h5 hl hlo hn
    ·have hb2 : (b == want) = false := by simpa using hb
     rw [hb2] at h5
     rw [if_neg (by simp [hb])]
     simp only [cond_false] at h5
     exact skip h5
  ·cases hr
theorem go_inv {P : Program} {m : M} {K : St → Prop} (h : m.go P st K) : ∃ d rs, Runs P st m rs d ∧ (∀ p ∈ d.s, p.1 < st.s.length) ∧ (∀ p ∈ d.o, p.1 < st.o.length) ∧ K (st.app d) := by
 obtain ⟨d, rs, h1, h2⟩ := run_runs h
 obtain ⟨h3, h4⟩ := setsK_iff (setsA_eq _ _ _ ▸ h2)
 obtain ⟨h5, h6⟩ := setsK_iff (setsB_eq _ _ _ ▸ h4)
 exact ⟨d, rs, h1, h3, h5, setsC_iff h6⟩
theorem sound_runOps {ops : Array Oper} (hT : TOk E) (hM : MOk E) {K : St → Prop} : ∀ (l : List Oper) (st : St) (a : Act) (w : World) (L : Nat → Pl) (ow : Own), runOps E ops l st K → Rel E.P x st a w L ow →
  (∀ st' a' w' L' ow', K st' → Rel E.P x st' a' w' L' ow' → Q .normal a' w') → wpList E.P ops Q l a w := by
 intro l
 induction l with
 | nil => intro st a w L ow h hR hK; exact hK _ _ _ _ _ h hR
 | cons o l ih =>
  intro st a w L ow h hR hK
  obtain ⟨d, rs, h1, h2, h3, h4⟩ := go_inv h
  refine wpList_step fun K' hK' => ?_
  exact sound_oper hT hM hR h1 h2 h3 fun a' w' L' ow' hR' => hK' _ _ (ih _ _ _ _ _ h4 hR' hK)
end
end Ev

namespace Ev
open Go
set_option linter.unusedSimpArgs false
section
variable {E : Env} {x : Cx} {st : St} {a : Act} {w w' : World} {L L' : Nat → Pl} {ow ow' : Own} {rs : List Loc} {d : Delta} {o : Oper} {next : Act → World → Prop} {Q : Exit → Act → World → Prop}
inductive LV where
 | s (a : Option AV)
 | o (b : Ob)
 | h (b : Hd)
def St.get (st : St) : Loc → Option LV
 | .s n => (st.s[n]?).map .s
 | .o n => (st.o[n]?).map .o
 | .h n => (st.o[n]?).map fun b => .h b.hd
def SameLen (st st' : St) : Prop := st.s.length = st'.s.length ∧ st.o.length = st'.o.length
theorem St.get_ext {st st' : St} (h : ∀ l, st.get l = st'.get l) : st = st' := by
 have inj1 : ∀ a b : Option (Option AV), a.map LV.s = b.map LV.s → a = b := by
  intro a b h
  cases a <;> cases b <;> simp at h ⊢
  exact h
 have inj2 : ∀ a b : Option Ob, a.map LV.o = b.map LV.o → a = b := by
  intro a b h
  cases a <;> cases b <;> simp at h ⊢
  exact h
 cases st with | mk s o => cases st' with | mk s' o' =>
  have h1 : s = s' := List.ext_getElem? fun n => inj1 _ _ (h (.s n))
  have h2 : o = o' := List.ext_getElem? fun n => inj2 _ _ (h (.o n))
  rw [h1, h2]
theorem applyS_out {α : Type} {w : List (Nat × α)} {l : List α} {n : Nat} (h : ∀ p ∈ w, p.1 ≠ n) : (applyS w l)[n]? = l[n]? := by
 induction w with
 | nil => rfl
 | cons p w ih =>
  have : applyS (p :: w) l = (applyS w l).set p.1 p.2 := rfl
  rw [this, List.getElem?_set_ne (h p (by simp)), ih fun q hq => h q (by simp [hq])]
theorem applyS_in {α : Type} {w : List (Nat × α)} {l l' : List α} {n : Nat} (h : ∃ p ∈ w, p.1 = n) (hl : l.length = l'.length) : (applyS w l)[n]? = (applyS w l')[n]? := by
 induction w with
 | nil => obtain ⟨p, hp, _⟩ := h; simp at hp
 | cons p w ih =>
  have e1 : applyS (p :: w) l = (applyS w l).set p.1 p.2 := rfl
  have e2 : applyS (p :: w) l' = (applyS w l').set p.1 p.2 := rfl
  rw [e1, e2]
  by_cases hn : p.1 = n
  ·rw [hn, List.getElem?_set, List.getElem?_set]
   simp only [if_true, length_applyS, hl]
  ·rw [List.getElem?_set_ne hn, List.getElem?_set_ne hn]
   obtain ⟨q, hq, hqn⟩ := h
   rcases List.mem_cons.1 hq with rfl | hq
   ·exact absurd hqn hn
   ·exact ih ⟨q, hq, hqn⟩
theorem mem_locs {d : Delta} {l : Loc} : l ∈ locsOf d ↔ (match l with | .s n => ∃ p ∈ d.s, p.1 = n | .o n => (∃ p ∈ d.o, p.1 = n) ∨ ∃ p ∈ d.c, p.1 = n | .h n => ∃ p ∈ d.o, p.1 = n) := by
 cases l <;> simp [locsOf]
theorem upd_len {l : List Ob} {n : Nat} {f : Ob → Ob} : (upd l n f).length = l.length := by
 unfold upd; split <;> simp
theorem length_applyC (w : List (Nat × Nat × Nat × List C)) (l : List Ob) : (applyC w l).length = l.length := by
 induction w with
 | nil => rfl
 | cons p w ih => show (upd (applyC w l) _ _).length = _; rw [upd_len, ih]
theorem upd_get {l : List Ob} {n m : Nat} {f : Ob → Ob} : (upd l n f)[m]? = if n = m then (l[m]?).map f else l[m]? := by
 unfold upd
 split
 ·rename_i b hb
  by_cases h : n = m
  ·subst h
   rw [if_pos rfl, List.getElem?_set_self (List.getElem?_eq_some_iff.1 hb).1, hb]; rfl
  ·rw [if_neg h, List.getElem?_set_ne h]
 ·rename_i hb
  by_cases h : n = m
  ·subst h; rw [if_pos rfl, hb]; rfl
  ·rw [if_neg h]
theorem applyC_out {w : List (Nat × Nat × Nat × List C)} {l : List Ob} {n : Nat} (h : ∀ p ∈ w, p.1 ≠ n) : (applyC w l)[n]? = l[n]? := by
 induction w with
 | nil => rfl
 | cons p w ih =>
  show (upd (applyC w l) _ _)[n]? = _
  rw [upd_get, if_neg (h p (by simp)), ih fun q hq => h q (by simp [hq])]
theorem applyC_same {w : List (Nat × Nat × Nat × List C)} {l l' : List Ob} {n : Nat} (h : l[n]? = l'[n]?) : (applyC w l)[n]? = (applyC w l')[n]? := by
 induction w with
 | nil => exact h
 | cons p w ih =>
  show (upd (applyC w l) _ _)[n]? = (upd (applyC w l') _ _)[n]?
  rw [upd_get, upd_get, ih]
theorem hd_setElem {off i : Nat} {r : List C} {b : Ob} : (setElem off i r b).hd = b.hd := by
 unfold setElem
 split
 ·rename_i cs hcs
  split
  ·rename_i e rows hc0
   simp only [Ob.hd, hcs, Option.map_some, Hd.mk.injEq, true_and, Option.some.injEq]
   apply List.ext_getElem?
   intro k
   rw [List.getElem?_map, List.getElem?_map, List.getElem?_set]
   by_cases h : off = k
   ·subst h
    rw [if_pos rfl, if_pos (List.getElem?_eq_some_iff.1 hc0).1, hc0]
    simp [hc]
   ·rw [if_neg h]
  ·rfl
 ·rfl
theorem applyC_hd {w : List (Nat × Nat × Nat × List C)} {l : List Ob} {n : Nat} : ((applyC w l)[n]?).map Ob.hd = (l[n]?).map Ob.hd := by
 induction w with
 | nil => rfl
 | cons p w ih =>
  show ((upd (applyC w l) _ _)[n]?).map Ob.hd = _
  rw [upd_get, ← ih]
  split
  ·cases (applyC w l)[n]? with
   | none => rfl
   | some b => simp [hd_setElem]
  ·rfl
theorem applyS_same {α : Type} {w : List (Nat × α)} {l l' : List α} {n : Nat} (h : l[n]? = l'[n]?) (hl : l.length = l'.length) : (applyS w l)[n]? = (applyS w l')[n]? := by
 by_cases hm : ∃ p ∈ w, p.1 = n
 ·exact applyS_in hm hl
 ·rw [applyS_out fun p hp e => hm ⟨p, hp, e⟩, applyS_out fun p hp e => hm ⟨p, hp, e⟩, h]
theorem map_hd (o : Option Ob) : o.map (fun b => LV.h b.hd) = (o.map Ob.hd).map LV.h := by cases o <;> rfl
theorem get_app_out {l : Loc} (h : l ∉ locsOf d) : (st.app d).get l = st.get l := by
 cases l with
 | s n =>
  have : ∀ p ∈ d.s, p.1 ≠ n := fun p hp e => h (mem_locs.2 ⟨p, hp, e⟩)
  simp only [St.get, St.app, applyS_out this]
 | o n =>
  have h1 : ∀ p ∈ d.o, p.1 ≠ n := fun p hp e => h (mem_locs.2 (.inl ⟨p, hp, e⟩))
  have h2 : ∀ p ∈ d.c, p.1 ≠ n := fun p hp e => h (mem_locs.2 (.inr ⟨p, hp, e⟩))
  simp only [St.get, St.app, applyC_out h2, applyS_out h1]
 | h n =>
  have h1 : ∀ p ∈ d.o, p.1 ≠ n := fun p hp e => h (mem_locs.2 ⟨p, hp, e⟩)
  simp only [St.get, St.app, map_hd, applyC_hd, applyS_out h1]
theorem get_app {st' : St} {l : Loc} (h : st.get l = st'.get l) (hl : SameLen st st') : (st.app d).get l = (st'.app d).get l := by
 have inj1 : ∀ a b : Option (Option AV), a.map LV.s = b.map LV.s → a = b := by
  intro a b h
  cases a <;> cases b <;> simp at h ⊢
  exact h
 have inj2 : ∀ a b : Option Ob, a.map LV.o = b.map LV.o → a = b := by
  intro a b h
  cases a <;> cases b <;> simp at h ⊢
  exact h
 have inj3 : ∀ a b : Option Hd, a.map LV.h = b.map LV.h → a = b := by
  intro a b h
  cases a <;> cases b <;> simp at h ⊢
  exact h
 cases l with
 | s n => simp only [St.get, St.app] at h ⊢; rw [applyS_same (inj1 _ _ h) hl.1]
 | o n => simp only [St.get, St.app] at h ⊢; rw [applyC_same (applyS_same (inj2 _ _ h) hl.2)]
 | h n =>
  simp only [St.get, St.app, map_hd, applyC_hd] at h ⊢
  by_cases hm : ∃ p ∈ d.o, p.1 = n
  ·rw [applyS_in hm hl.2]
  ·rw [applyS_out fun p hp e => hm ⟨p, hp, e⟩, applyS_out fun p hp e => hm ⟨p, hp, e⟩]; exact h
theorem SameLen.app {st' : St} (h : SameLen st st') : SameLen (st.app d) st' := by
 simp only [SameLen, St.app, length_applyC, length_applyS]; exact h
theorem SameLen.refl : SameLen st st := ⟨rfl, rfl⟩
theorem SameLen.symm {st' : St} (h : SameLen st st') : SameLen st' st := ⟨h.1.symm, h.2.symm⟩
theorem SameLen.trans {st' st2 : St} (h : SameLen st st') (h' : SameLen st' st2) : SameLen st st2 := ⟨h.1.trans h'.1, h.2.trans h'.2⟩
def appM : List Delta → List Bool → St → St
 | d :: ds, b :: bs, st => appM ds bs (if b then st.app d else st)
 | _, _, st => st
theorem appM_len : ∀ (ds : List Delta) (bs : List Bool) (st : St), SameLen (appM ds bs st) st := by
 intro ds
 induction ds with
 | nil => intro bs st; exact .refl
 | cons d ds ih =>
  intro bs st
  cases bs with
  | nil => exact .refl
  | cons b bs =>
   refine (ih bs _).trans ?_
   cases b
   ·exact .refl
   ·exact SameLen.refl.app
theorem appM_agree {l : Loc} : ∀ (ds : List Delta) (bs bs' : List Bool) (st st' : St), bs.length = bs'.length → SameLen st st' → st.get l = st'.get l →
  (∀ (j : Nat) (d : Delta), ds[j]? = some d → bs[j]? ≠ bs'[j]? → l ∉ locsOf d) → (appM ds bs st).get l = (appM ds bs' st').get l := by
 intro ds
 induction ds with
 | nil => intro bs bs' st st' _ _ h _; exact h
 | cons d ds ih =>
  intro bs bs' st st' hl hs h hd
  cases bs with
  | nil => cases bs' with
   | nil => exact h
   | cons _ _ => simp at hl
  | cons b bs => cases bs' with
   | nil => simp at hl
   | cons b' bs' =>
    simp only [appM]
    refine ih bs bs' _ _ (by simpa using hl) ?_ ?_ fun j d' h1 h2 => hd (j + 1) d' (by simpa using h1) (by simpa using h2)
    ·cases b <;> cases b'
     ·exact hs
     ·exact (hs.symm.app).symm
     ·exact hs.app
     ·exact (hs.app.symm.app).symm
    ·by_cases hb : b = b'
     ·subst hb
      cases b with
      | false => exact h
      | true => exact get_app h hs
     ·have hm := hd 0 d rfl (by simp [hb])
      cases b <;> cases b'
      ·exact absurd rfl hb
      ·show st.get l = (st'.app d).get l
       rw [get_app_out hm]; exact h
      ·show (st.app d).get l = st'.get l
       rw [get_app_out hm]; exact h
      ·exact absurd rfl hb
theorem appM_false : ∀ (ds : List Delta) (n : Nat) (st : St), appM ds (List.replicate n false) st = st := by
 intro ds
 induction ds with
 | nil => intro n st; cases n <;> rfl
 | cons d ds ih => intro n st; cases n with
  | zero => rfl
  | succ n => simp only [List.replicate_succ, appM]; exact ih n st
theorem appM_still {l : Loc} (ds : List Delta) (bs : List Bool) (st : St) (h : ∀ (j : Nat) (d : Delta), ds[j]? = some d → bs[j]? = some true → l ∉ locsOf d) : (appM ds bs st).get l = st.get l := by
 have h1 := appM_agree (l := l) ds bs (List.replicate bs.length false) st st (by simp) .refl rfl fun j d' h1 h2 => by
  refine h j d' h1 ?_
  have hj : j < bs.length := by
   rcases Nat.lt_or_ge j bs.length with h | h
   ·exact h
   ·rw [List.getElem?_eq_none h, List.getElem?_eq_none (by simpa using h)] at h2; exact absurd rfl h2
  have : bs[j]? = some bs[j] := List.getElem?_eq_getElem hj
  rw [this] at h2
  simp [hj] at h2
  simp [hj, h2]
 rw [h1, appM_false]
theorem appM_last {l : Loc} : ∀ (ds : List Delta) (bs : List Bool) (i : Nat) (d : Delta) (st : St), ds[i]? = some d → i < bs.length → bs[i]? = some false →
  (∀ (j : Nat) (d' : Delta), i < j → ds[j]? = some d' → bs[j]? = some true → l ∉ locsOf d') → (appM ds (bs.set i true) st).get l = ((appM ds bs st).app d).get l := by
 intro ds
 induction ds with
 | nil => intro bs i d st h; simp at h
 | cons d0 ds ih =>
  intro bs i d st h hi hb hlast
  cases bs with
  | nil => simp at hi
  | cons b bs =>
   cases i with
   | zero =>
    simp at h hb; subst h; subst hb
    have hl : ∀ (j : Nat) (d : Delta), ds[j]? = some d → bs[j]? = some true → l ∉ locsOf d := fun j d' h1 h2 => hlast (j + 1) d' (by omega) (by simpa using h1) (by simpa using h2)
    simp only [List.set_cons_zero, appM, if_true, Bool.false_eq_true, if_false]
    rw [appM_still ds bs _ hl]
    exact get_app (appM_still ds bs st hl).symm (appM_len ds bs st).symm
   | succ i =>
    simp only [List.set_cons_succ, appM]
    exact ih bs i d _ (by simpa using h) (by simpa using hi) (by simpa using hb) fun j d' h1 h2 h3 => hlast (j + 1) d' (by omega) (by simpa using h2) (by simpa using h3)
end
end Ev

namespace Ev
open Go
set_option linter.unusedSimpArgs false
section
variable {E : Env} {x : Cx} {st : St} {a : Act} {w w' : World} {L L' : Nat → Pl} {ow ow' : Own} {rs : List Loc} {d : Delta} {o : Oper} {next : Act → World → Prop} {Q : Exit → Act → World → Prop}
inductive Trace (E : Env) (ops : Array Oper) : List Oper → St → List (List Loc × Delta) → St → Prop where
 | nil {st : St} : Trace E ops [] st [] st
 | cons {o : Oper} {os : List Oper} {st st' : St} {rs : List Loc} {d : Delta} {l : List (List Loc × Delta)} (h : Runs E.P st (operM E ops o) rs d) (h1 : ∀ p ∈ d.s, p.1 < st.s.length) (h2 : ∀ p ∈ d.o, p.1 < st.o.length)
   (ht : Trace E ops os (st.app d) l st') : Trace E ops (o :: os) st ((rs, d) :: l) st'
def fps (os : List Oper) (l : List (List Loc × Delta)) : List (Oper × Fp) := os.zip (l.map fun p => (p.1.reverse, locsOf p.2))
theorem runDraw_trace {ops : Array Oper} {K : St → Prop} : ∀ (os : List Oper) (tr : List (Oper × Fp)) (st : St), runDraw E ops os tr st K → ∃ l st', Trace E ops os st l st' ∧ K st' ∧ indepAll (tr.reverse ++ fps os l) = true := by
 intro os
 induction os with
 | nil =>
  intro tr st h
  cases h with
  | mk h1 h2 => exact ⟨[], st, .nil, h2, by simpa [fps] using h1⟩
 | cons o os ih =>
  intro tr st h
  obtain ⟨d, rs, h1, h2⟩ := run_runs h
  obtain ⟨h3, h4⟩ := setsK_iff (setsA_eq _ _ _ ▸ h2)
  obtain ⟨h5, h6⟩ := setsK_iff (setsB_eq _ _ _ ▸ h4)
  obtain ⟨l, st', g1, g2, g3⟩ := ih _ _ (setsC_iff h6)
  refine ⟨(rs, d) :: l, st', .cons h1 h3 h5 g1, g2, ?_⟩
  simpa [fps] using g3
theorem locMem_iff {l : List Loc} {y : Loc} : locMem l y = true ↔ y ∈ l := by
 induction l with
 | nil => simp [locMem]
 | cons z l ih =>
  cases z <;> cases y <;> simp [locMem, ih]
  ·constructor
   ·rintro (h | h)
    ·exact .inl (Nat.eq_of_beq_eq_true (by simpa using h)).symm
    ·exact .inr h
   ·rintro (h | h)
    ·exact .inl (by simp [h])
    ·exact .inr h
  ·constructor
   ·rintro (h | h)
    ·exact .inl (Nat.eq_of_beq_eq_true (by simpa using h)).symm
    ·exact .inr h
   ·rintro (h | h)
    ·exact .inl (by simp [h])
    ·exact .inr h
  ·constructor
   ·rintro (h | h)
    ·exact .inl (Nat.eq_of_beq_eq_true (by simpa using h)).symm
    ·exact .inr h
   ·rintro (h | h)
    ·exact .inl (by simp [h])
    ·exact .inr h
theorem locsMeet_false {l m : List Loc} (h : locsMeet l m = false) {y : Loc} (h1 : y ∈ l) (h2 : y ∈ m) : False := by
 induction l with
 | nil => simp at h1
 | cons z l ih =>
  simp only [locsMeet, Bool.or_eq_false_iff] at h
  rcases List.mem_cons.1 h1 with rfl | h1
  ·rw [locMem_iff.2 h2] at h; cases h.1
  ·exact ih h.2 h1
theorem reach_mono {all : List (Oper × Fp)} : ∀ {n : Nat} {o : Oper} {i : Nat}, reach all n o i = true → reach all (n + 1) o i = true := by
 intro n
 induction n with
 | zero => intro o i h; cases h
 | succ n ih =>
  intro o i h
  rw [reach, Bool.or_eq_true, List.any_eq_true] at h ⊢
  rcases h with h | ⟨e, he, hh⟩
  ·exact .inl h
  ·refine .inr ⟨e, he, ?_⟩
   rw [Bool.and_eq_true] at hh ⊢
   refine ⟨hh.1, ?_⟩
   have h2 := hh.2
   split at h2
   ·rename_i p hp; exact ih h2
   ·cases h2
theorem indepFrom_get {all : List (Oper × Fp)} {i : Nat} {f : Fp} : ∀ {l : List (Oper × Fp)}, indepFrom all i f l = true → ∀ (k : Nat) (o : Oper) (g : Fp), l[k]? = some (o, g) → reach all 9 o i = true ∨ indep f g = true := by
 intro l
 induction l with
 | nil => intro _ k o g h; simp at h
 | cons p l ih =>
  intro h k o g hk
  obtain ⟨o', g'⟩ := p
  simp only [indepFrom, Bool.and_eq_true, Bool.or_eq_true] at h
  cases k with
  | zero =>
   simp at hk; obtain ⟨rfl, rfl⟩ := hk
   rcases h.1 with h1 | h1 | h1
   ·exact .inl (by rw [reach, h1, Bool.true_or])
   ·exact .inr h1
   ·exact .inl (reach_mono h1)
  | succ k => exact ih h.2 k o g (by simpa using hk)
theorem indepAll_get {all : List (Oper × Fp)} : ∀ {l : List (Oper × Fp)} {n : Nat}, indepAll1 all n l = true → (∀ (i : Nat) (o : Oper) (f : Fp), l[i]? = some (o, f) → edgesOk (n + i) o = true) ∧
  ∀ (i j : Nat) (o o' : Oper) (f g : Fp), i < j → l[i]? = some (o, f) → l[j]? = some (o', g) → reach all 9 o' (n + i) = true ∨ indep f g = true := by
 intro l
 induction l with
 | nil => intro n _; exact ⟨by simp, by simp⟩
 | cons p l ih =>
  intro n h
  obtain ⟨o0, f0⟩ := p
  simp only [indepAll1, Bool.and_eq_true] at h
  obtain ⟨ih1, ih2⟩ := ih h.2
  refine ⟨fun i o f hi => ?_, fun i j o o' f g hij hi hj => ?_⟩
  ·cases i with
   | zero => simp at hi; obtain ⟨rfl, rfl⟩ := hi; exact h.1.1
   | succ i =>
    have := ih1 i o f (by simpa using hi)
    rw [show n + (i + 1) = n + 1 + i by omega]; exact this
  ·cases j with
   | zero => omega
   | succ j =>
    cases i with
    | zero => simp at hi; obtain ⟨rfl, rfl⟩ := hi; exact indepFrom_get h.1.2 j o' g (by simpa using hj)
    | succ i =>
     have := ih2 i j o o' f g (by omega) (by simpa using hi) (by simpa using hj)
     rw [show n + (i + 1) = n + 1 + i by omega]; exact this
theorem reach_listed {ops : Array Oper} {listed : Array Bool} {all : List (Oper × Fp)} (hall : ∀ (k : Nat) (p : Oper × Fp), all[k]? = some p → ops[k]? = some p.1)
  (hcl : ∀ (j : Nat) (o : Oper) (i : Nat), ops[j]? = some o → listed[j]? = some true → hasEdge o i = true → listed[i]? = some true) :
  ∀ (n : Nat) (o : Oper) (i : Nat), (∀ k, hasEdge o k = true → listed[k]? = some true) → reach all n o i = true → listed[i]? = some true := by
 intro n
 induction n with
 | zero => intro o i _ h; cases h
 | succ n ih =>
  intro o i h0 h
  simp only [reach, Bool.or_eq_true, List.any_eq_true, Bool.and_eq_true] at h
  rcases h with h | ⟨e, he, hb, hr⟩
  ·exact h0 i h
  ·split at hr
   ·rename_i p hp
    have hop := hall _ _ hp
    have hel : hasEdge o e.on = true := by
     simp only [hasEdge, List.any_eq_true, Bool.and_eq_true]
     exact ⟨e, he, by simp, hb⟩
    exact ih p.1 i (fun k hk => hcl e.on p.1 k hop (h0 _ hel) hk) hr
   ·cases hr
theorem Trace.length {ops : Array Oper} {os : List Oper} {l : List (List Loc × Delta)} {st st' : St} (h : Trace E ops os st l st') : l.length = os.length := by
 induction h with
 | nil => rfl
 | cons _ _ _ _ ih => simp [ih]
theorem Trace.all {ops : Array Oper} {os : List Oper} {l : List (List Loc × Delta)} {st st' : St} (h : Trace E ops os st l st') : st' = appM (l.map (·.2)) (List.replicate os.length true) st := by
 induction h with
 | nil => rfl
 | cons _ _ _ _ ih => simp only [List.map_cons, List.length_cons, List.replicate_succ, appM, if_true]; exact ih
theorem Trace.at {ops : Array Oper} {os : List Oper} {l : List (List Loc × Delta)} {st st' : St} (h : Trace E ops os st l st') : ∀ (i : Nat) (o : Oper) (rs : List Loc) (d : Delta), os[i]? = some o → l[i]? = some (rs, d) →
  Runs E.P (appM (l.map (·.2)) (List.replicate i true ++ List.replicate (os.length - i) false) st) (operM E ops o) rs d ∧ (∀ p ∈ d.s, p.1 < st.s.length) ∧ (∀ p ∈ d.o, p.1 < st.o.length) := by
 have hfalse : ∀ (ds : List Delta) (n : Nat) (st : St), appM ds (List.replicate n false) st = st := by
  intro ds
  induction ds with
  | nil => intro n st; cases n <;> rfl
  | cons d ds ih => intro n st; cases n with
   | zero => rfl
   | succ n => simp only [List.replicate_succ, appM]; exact ih n st
 induction h with
 | nil => intro i o rs d h; simp at h
 | @cons o0 os st0 st' rs0 d0 l h h1 h2 ht ih =>
  intro i o rs d hi hl
  cases i with
  | zero =>
   simp at hi hl
   obtain ⟨rfl, rfl⟩ := hl
   subst hi
   rw [List.replicate_zero, List.nil_append, hfalse]
   exact ⟨h, h1, h2⟩
  | succ i =>
   obtain ⟨k1, k2, k3⟩ := ih i o rs d (by simpa using hi) (by simpa using hl)
   simp only [List.map_cons, List.length_cons, List.replicate_succ, List.cons_append, appM, if_true, Nat.add_sub_add_right]
   refine ⟨k1, fun p hp => ?_, fun p hp => ?_⟩
   ·have := k2 p hp; simp only [St.app, length_applyS] at this; exact this
   ·have := k3 p hp; simp only [St.app, length_applyC, length_applyS] at this; exact this
theorem hasEdge_of {o : Oper} {e : Edge} (h : e ∈ o.after) (hb : Region.binds .any e = true) : hasEdge o e.on = true := by
 simp only [hasEdge, List.any_eq_true, Bool.and_eq_true]
 refine ⟨e, by simpa using h, by simp, ?_⟩
 unfold Region.binds at hb
 unfold bindsAny
 split at hb <;> simp_all
theorem binds_of {e : Edge} : Region.binds .any e = bindsAny e := by
 unfold Region.binds bindsAny
 cases e.ground <;> rfl
theorem get_loc {st2 : St} (hg : ∀ l ∈ rs, st2.get l = st.get l) : (∀ n, Loc.s n ∈ rs → st2.s[n]? = st.s[n]?) ∧ (∀ n, Loc.o n ∈ rs → st2.o[n]? = st.o[n]?) ∧ ∀ n, Loc.h n ∈ rs → (st2.o[n]?).map Ob.hd = (st.o[n]?).map Ob.hd := by
 refine ⟨fun n hn => ?_, fun n hn => ?_, fun n hn => ?_⟩
 ·have := hg _ hn
  simp only [St.get] at this
  cases h1 : st2.s[n]? <;> cases h2 : st.s[n]? <;> simp [h1, h2] at this ⊢
  exact this
 ·have := hg _ hn
  simp only [St.get] at this
  cases h1 : st2.o[n]? <;> cases h2 : st.o[n]? <;> simp [h1, h2] at this ⊢
  exact this
 ·have := hg _ hn
  simp only [St.get] at this
  cases h1 : st2.o[n]? <;> cases h2 : st.o[n]? <;> simp [h1, h2] at this ⊢
  exact this
theorem wpAny_ok {ops : Array Oper} {l : List (List Loc × Delta)} {st0 stf : St} (hT : TOk E) (hM : MOk E) (ht : Trace E ops ops.toList st0 l stf) (hi : indepAll (fps ops.toList l) = true)
  (hQ : ∀ a' w' L' ow', Rel E.P x stf a' w' L' ow' → Q .normal a' w') : ∀ (fuel : Nat) (listed : Array Bool) (a : Act) (w : World) (L : Nat → Pl) (ow : Own), listed.size = ops.size → listed.toList.count false = fuel →
  (∀ (j : Nat) (o : Oper) (i : Nat), ops[j]? = some o → listed[j]? = some true → hasEdge o i = true → listed[i]? = some true) → Rel E.P x (appM (l.map (·.2)) listed.toList st0) a w L ow → wpAny E.P .any ops Q fuel listed a w := by
 have hlen := ht.length
 obtain ⟨ie, ii⟩ := indepAll_get hi
 have hall : ∀ (k : Nat) (p : Oper × Fp), (fps ops.toList l)[k]? = some p → ops[k]? = some p.1 := by
  intro k p hk
  obtain ⟨p1, p2⟩ := p
  simp only [fps, List.getElem?_zip_eq_some] at hk
  simpa using hk.1
 have fget : ∀ (i : Nat) (o : Oper) (rs : List Loc) (d : Delta), ops[i]? = some o → l[i]? = some (rs, d) → (fps ops.toList l)[i]? = some (o, (rs.reverse, locsOf d)) := by
  intro i o rs d h1 h2
  simp only [fps, List.getElem?_zip_eq_some, List.getElem?_map]
  exact ⟨by simpa using h1, by rw [h2]; rfl⟩
 intro fuel
 have final : ∀ (listed : Array Bool) (a : Act) (w : World) (L : Nat → Pl) (ow : Own), listed.size = ops.size → (∀ i, i < ops.size → listed[i]? = some true) → Rel E.P x (appM (l.map (·.2)) listed.toList st0) a w L ow → Q .normal a w := by
  intro listed a w L ow hsz hall hR
  have : listed.toList = List.replicate ops.toList.length true := by
   apply List.ext_getElem?
   intro i
   by_cases h : i < ops.size
   ·rw [List.getElem?_replicate]; simp only [Array.length_toList, h, if_true]
    have := hall i h; simpa using this
   ·rw [List.getElem?_eq_none (by simpa using by omega), List.getElem?_eq_none (by simpa using by omega)]
  rw [this, ← ht.all] at hR
  exact hQ _ _ _ _ hR
 have ready_iff : ∀ (listed : Array Bool) (i : Nat), listed.size = ops.size → (i ∈ Region.ready .any ops listed ↔ ∃ o, ops[i]? = some o ∧ listed[i]? = some false ∧ ∀ k, hasEdge o k = true → listed[k]? = some true) := by
  intro listed i hsz
  simp only [Region.ready, List.mem_filter, List.mem_range, Bool.and_eq_true]
  constructor
  ·rintro ⟨h1, h2, h3⟩
   have ho : ops[i]? = some ops[i] := Array.getElem?_eq_getElem h1
   rw [ho] at h3
   simp only [Option.map_some, Option.getD_some, Array.all_eq_true_iff_forall_mem] at h3
   refine ⟨_, ho, ?_, fun k hk => ?_⟩
   ·have hl : listed[i]? = some listed[i] := Array.getElem?_eq_getElem (by omega)
    simp [Array.getD_eq_getD_getElem?, hl] at h2
    rw [hl, h2]
   ·simp only [hasEdge, List.any_eq_true, Bool.and_eq_true] at hk
    obtain ⟨e, he, hk1, hk2⟩ := hk
    have := h3 e (by simpa using he)
    rw [binds_of, hk2] at this
    simp at hk1
    subst hk1
    simp only [Bool.not_true, Bool.false_or, Array.getD_eq_getD_getElem?] at this
    cases hg : listed[e.on]? with
    | none => simp [hg] at this
    | some b => simp [hg] at this; rw [this]
  ·rintro ⟨o, h1, h2, h3⟩
   refine ⟨(Array.getElem?_eq_some_iff.1 h1).1, by simp [Array.getD_eq_getD_getElem?, h2], ?_⟩
   rw [h1]
   simp only [Option.map_some, Option.getD_some, Array.all_eq_true_iff_forall_mem]
   intro e he
   cases hb : Region.binds .any e with
   | false => rfl
   | true =>
    have := h3 _ (hasEdge_of he hb)
    simp [Array.getD_eq_getD_getElem?, this]
 induction fuel with
 | zero =>
  intro listed a w L ow hsz hc hcl hR
  have hall : ∀ i, i < ops.size → listed[i]? = some true := by
   intro i hi
   have hl : listed[i]? = some listed[i] := Array.getElem?_eq_getElem (by omega)
   cases hb : listed[i] with
   | true => rw [hl, hb]
   | false =>
    exfalso
    have : false ∈ listed.toList := by rw [← hb]; simp
    exact absurd hc (by have := List.count_pos_iff.2 this; omega)
  refine ⟨?_, final listed a w L ow hsz hall hR⟩
  cases hr : Region.ready .any ops listed with
  | nil => rfl
  | cons i _ =>
   obtain ⟨o, h1, h2, _⟩ := (ready_iff listed i hsz).1 (by rw [hr]; simp)
   rw [hall i (Array.getElem?_eq_some_iff.1 h1).1] at h2; cases h2
 | succ fuel ih =>
  intro listed a w L ow hsz hc hcl hR
  refine ⟨fun hr => final listed a w L ow hsz ?_ hR, fun i hir => ?_⟩
  ·have key : ∀ n, n ≤ ops.size → ∀ i, i < n → listed[i]? = some true := by
    intro n
    induction n with
    | zero => intro _ i h; omega
    | succ n ihn =>
     intro hn i hi
     by_cases hin : i < n
     ·exact ihn (by omega) i hin
     ·have : i = n := by omega
      subst this
      have hl : listed[i]? = some listed[i] := Array.getElem?_eq_getElem (by omega)
      cases hb : listed[i] with
      | true => rw [hl, hb]
      | false =>
       exfalso
       have ho : ops[i]? = some ops[i] := Array.getElem?_eq_getElem (by omega)
       have hll : l[i]? = some (l[i]'(by rw [hlen]; simpa using by omega)) := List.getElem?_eq_getElem _
       have hok := ie i _ _ (fget i _ _ _ ho (by rw [hll]))
       have : i ∈ Region.ready .any ops listed := (ready_iff listed i hsz).2 ⟨_, ho, by rw [hl, hb], fun k hk => by
        simp only [hasEdge, List.any_eq_true, Bool.and_eq_true] at hk
        obtain ⟨e, he, hk1, hk2⟩ := hk
        simp at hk1
        simp only [edgesOk, List.all_eq_true, Bool.or_eq_true] at hok
        have h5 := hok e he
        rw [hk2] at h5
        simp [Nat.blt_eq] at h5
        exact ihn (by omega) k (by omega)⟩
       rw [hr] at this; simp at this
   exact fun i hi => key ops.size (Nat.le_refl _) i hi
  ·obtain ⟨o, ho, hf, hed⟩ := (ready_iff listed i hsz).1 hir
   have hil := (Array.getElem?_eq_some_iff.1 ho).1
   have hll : l[i]? = some (l[i]'(by rw [hlen]; simpa using hil)) := List.getElem?_eq_getElem _
   generalize (l[i]'(by rw [hlen]; simpa using hil)) = p at hll
   obtain ⟨rs, d⟩ := p
   have hfi := fget i o rs d ho hll
   obtain ⟨k1, k2, k3⟩ := ht.at i o rs d (by simpa using ho) hll
   have hsame := appM_len (l.map (·.2)) listed.toList st0
   have later : ∀ (j : Nat) (d' : Delta), i < j → (l.map (·.2))[j]? = some d' → listed.toList[j]? = some true → ∃ rs', indep (rs.reverse, locsOf d) (rs', locsOf d') = true := by
    intro j d' hij hj hjt
    rw [List.getElem?_map] at hj
    cases hlj : l[j]? with
    | none => rw [hlj] at hj; cases hj
    | some q =>
     rw [hlj] at hj; simp at hj; subst hj
     have hjl : j < ops.size := by have := (List.getElem?_eq_some_iff.1 hlj).1; rw [hlen] at this; simpa using this
     have hoj : ops[j]? = some ops[j] := Array.getElem?_eq_getElem hjl
     rcases ii i j _ _ _ _ hij hfi (fget j _ q.1 q.2 hoj (by rw [hlj])) with h | h
     ·rw [Nat.zero_add] at h
      have := reach_listed hall hcl _ _ i (fun k hk => hcl j _ k hoj (by simpa using hjt) hk) h
      rw [hf] at this; cases this
     ·exact ⟨_, h⟩
   have before : ∀ (j : Nat) (d' : Delta), j < i → (l.map (·.2))[j]? = some d' → listed.toList[j]? ≠ some true → ∃ rs', indep (rs', locsOf d') (rs.reverse, locsOf d) = true := by
    intro j d' hij hj hjt
    rw [List.getElem?_map] at hj
    cases hlj : l[j]? with
    | none => rw [hlj] at hj; cases hj
    | some q =>
     rw [hlj] at hj; simp at hj; subst hj
     have hjl : j < ops.size := by omega
     have hoj : ops[j]? = some ops[j] := Array.getElem?_eq_getElem hjl
     rcases ii j i _ _ _ _ hij (fget j _ q.1 q.2 hoj (by rw [hlj])) hfi with h | h
     ·rw [Nat.zero_add] at h
      exact absurd (by simpa using reach_listed hall hcl _ _ j hed h) hjt
     ·exact ⟨_, h⟩
   have hpm : ∀ j, (List.replicate i true ++ List.replicate (ops.toList.length - i) false)[j]? = if j < i then some true else if j < ops.size then some false else none := by
    intro j
    by_cases h1 : j < i
    ·rw [List.getElem?_append_left (by simpa using h1)]; simp [h1]
    ·rw [List.getElem?_append_right (by simpa using h1)]
     simp only [List.length_replicate, List.getElem?_replicate, h1, if_false, Array.length_toList]
     by_cases h2 : j < ops.size
     ·rw [if_pos (by omega), if_pos h2]
     ·rw [if_neg (by omega), if_neg h2]
   have hruns : Runs E.P (appM (l.map (·.2)) listed.toList st0) (operM E ops o) rs d := by
    have hg : ∀ lo ∈ rs, (appM (l.map (·.2)) listed.toList st0).get lo = (appM (l.map (·.2)) (List.replicate i true ++ List.replicate (ops.toList.length - i) false) st0).get lo := by
     intro lo hlo
     refine appM_agree _ _ _ _ _ (by simp [hsz]; omega) .refl rfl fun j d' h1 h2 hm => ?_
     rw [hpm] at h2
     have hjl : j < ops.size := by have := (List.getElem?_eq_some_iff.1 h1).1; rw [List.length_map, hlen] at this; simpa using this
     have hlj : listed.toList[j]? = some listed[j] := by simp
     rcases Nat.lt_trichotomy j i with hji | hji | hji
     ·simp only [hji, if_true] at h2
      obtain ⟨rs', h⟩ := before j d' hji h1 h2
      simp only [indep, Bool.and_eq_true, Bool.not_eq_true'] at h
      exact locsMeet_false h.1.1 hm (by simpa using hlo)
     ·subst hji
      have : listed.toList[j]? = some false := by simpa using hf
      simp [this, hjl] at h2
     ·simp only [show ¬ j < i by omega, if_false, hjl, if_true] at h2
      have hjt : listed.toList[j]? = some true := by
       rw [hlj] at h2 ⊢
       cases hb : listed[j] with
       | true => rfl
       | false => rw [hb] at h2; exact absurd rfl h2
      obtain ⟨rs', h⟩ := later j d' hji h1 hjt
      simp only [indep, Bool.and_eq_true, Bool.not_eq_true'] at h
      exact locsMeet_false h.2 hm (by simpa using hlo)
    obtain ⟨g1, g2, g3⟩ := get_loc hg
    exact k1.local_ g1 g2 g3
   have happ : (appM (l.map (·.2)) listed.toList st0).app d = appM (l.map (·.2)) (listed.setIfInBounds i true).toList st0 := by
    apply St.get_ext
    intro lo
    have hd : (l.map (·.2))[i]? = some d := by rw [List.getElem?_map, hll]; rfl
    have hset : (listed.setIfInBounds i true).toList = listed.toList.set i true := by simp
    rw [hset]
    by_cases hm : lo ∈ locsOf d
    ·refine (appM_last _ _ i d _ hd (by simp; omega) (by simpa using hf) fun j d' hij h1 h2 hm' => ?_).symm
     obtain ⟨rs', h⟩ := later j d' hij h1 h2
     simp only [indep, Bool.and_eq_true, Bool.not_eq_true'] at h
     exact locsMeet_false h.1.2 hm hm'
    ·rw [get_app_out hm]
     refine appM_agree _ _ _ _ _ (by simp) .refl rfl fun j d' h1 h2 => ?_
     by_cases hji : j = i
     ·subst hji; rw [hd] at h1; injection h1 with h1; subst h1; exact hm
     ·rw [List.getElem?_set_ne (by omega)] at h2; exact absurd rfl h2
   have hso := sound_oper (Q := Q) (next := wpAny E.P .any ops Q fuel (listed.setIfInBounds i true)) hT hM hR hruns (fun p hp => by rw [hsame.1]; exact k2 p hp) (fun p hp => by rw [hsame.2]; exact k3 p hp) (fun a' w' L' ow' hR' => by
    rw [happ] at hR'
    refine ih _ a' w' L' ow' (by simp [hsz]) ?_ (fun j oj k hj hjt hjk => ?_) hR'
    ·have hset : (listed.setIfInBounds i true).toList = listed.toList.set i true := by simp
     have hfl : listed.toList[i]? = some false := by simpa using hf
     have hlt := (List.getElem?_eq_some_iff.1 hfl).1
     have hge : listed.toList[i] = false := (List.getElem?_eq_some_iff.1 hfl).2
     rw [hset, List.count_set hlt, hc, hge]
     simp
    ·rw [Array.getElem?_setIfInBounds] at hjt ⊢
     have hk : listed[k]? = some true ∨ k = i := by
      split at hjt
      ·rename_i hij
       subst hij
       rw [ho] at hj; injection hj with hj; subst hj
       exact .inl (hed k hjk)
      ·exact .inl (hcl j oj k hj hjt hjk)
     rcases hk with hk | hk
     ·split
      ·rename_i h1; subst h1; rw [hf] at hk; cases hk
      ·exact hk
     ·subst hk; rw [if_pos rfl, if_pos (by omega)])
   unfold wpOp
   rw [ho]
   simp only
   split
   ·rename_i hw; rw [if_pos hw] at hso; exact .inl hso
   ·rename_i hw; rw [if_neg hw] at hso; exact hso
theorem sound_runDraw {ops : Array Oper} {K : St → Prop} {id : Nat} (hT : TOk E) (hM : MOk E) (hm : E.P.follows .mixedOrders = true) (h : runDraw E ops ops.toList [] st K) (hR : Rel E.P x st a w L ow)
  (hK : ∀ st' a' w' L' ow', K st' → Rel E.P x st' a' w' L' ow' → Q .normal a' w') : (Code.region id ops true).wp E.P Q a w := by
 obtain ⟨l, st', h1, h2, h3⟩ := runDraw_trace _ _ _ h
 refine wp_region_any hm (wpAny_ok hT hM h1 (by simpa using h3) (fun a' w' L' ow' hR' => hK _ _ _ _ _ h2 hR') ops.size _ a _ L ow (by simp) (by simp) (fun j o i hj hjt _ => ?_) ?_)
 ·rw [Array.getElem?_replicate] at hjt
  split at hjt <;> simp at hjt
 ·have : ∀ (ds : List Delta) (n : Nat) (st : St), appM ds (List.replicate n false) st = st := by
   intro ds
   induction ds with
   | nil => intro n st; cases n <;> rfl
   | cons d ds ih => intro n st; cases n with
    | zero => rfl
    | succ n => simp only [List.replicate_succ, appM]; exact ih n st
  rw [Array.toList_replicate, this]
  exact hR.grow (Grow.drew w)
end
end Ev

namespace Ev
open Go
set_option linter.unusedSimpArgs false
structure EOk (E : Env) : Prop where
 tok : TOk E
 meth : MOk E
 mixed : E.P.follows .mixedOrders = true
section
variable {E : Env} {x : Cx}
theorem rounds_mono {P : Program} {c : Code} {Q : Exit → Act → World → Prop} : ∀ (n m : Nat) (a : Act) (w : World), n ≤ m → Code.rounds P c Q n a w → Code.rounds P c Q m a w := by
 intro n
 induction n with
 | zero => intro m a w _ h; exact h.elim
 | succ n ih =>
  intro m a w hm h
  cases m with
  | zero => omega
  | succ m =>
   rw [rounds_succ] at h ⊢
   refine wp_mono h fun e a' w' q => ?_
   cases e with
   | normal => exact ih m a' w' (by omega) q
   | _ => exact q
def Post (E : Env) (x : Cx) (K : Exit → St → Prop) : Exit → Act → World → Prop := fun e a w => ∃ st L ow, K e st ∧ Rel E.P x st a w L ow
theorem Post.mk {K : Exit → St → Prop} {e : Exit} {st : St} {a : Act} {w : World} {L : Nat → Pl} {ow : Own} (h : K e st) (hR : Rel E.P x st a w L ow) : Post E x K e a w := Exists.intro st (Exists.intro L (Exists.intro ow (And.intro h hR)))
theorem ev_sound (hE : EOk E) (hm : x.m = E.m) : ∀ (c : Code) (st : St) (K : Exit → St → Prop) (a : Act) (w : World) (L : Nat → Pl) (ow : Own), ev E c st K → Rel E.P x st a w L ow → c.wp E.P (Post E x K) a w := by
 intro c
 induction c with
 | skip => intro st K a w L ow h hR; exact Go.wp_skip (Q := Post E x K) (Post.mk h hR)
 | exit id => intro st K a w L ow h hR; exact wp_exit (Q := Post E x K) (Post.mk h hR)
 | ret => intro st K a w L ow h hR; exact wp_ret (Q := Post E x K) (Post.mk h hR)
 | region id ops draw =>
  intro st K a w L ow h hR
  cases draw with
  | false => exact wp_region_list (sound_runOps hE.tok hE.meth _ _ _ _ _ _ h hR fun st' a' w' L' ow' hk hr => ⟨st', L', ow', hk, hr⟩)
  | true => exact sound_runDraw hE.tok hE.meth hE.mixed h hR fun st' a' w' L' ow' hk hr => ⟨st', L', ow', hk, hr⟩
 | seq c1 c2 ih1 ih2 =>
  intro st K a w L ow h hR
  refine wp_seq (wp_mono (ih1 st _ a w L ow h hR) fun e a' w' q => ?_)
  obtain ⟨st', L', ow', hk, hr⟩ := q
  cases e with
  | normal => exact ih2 st' K a' w' L' ow' hk hr
  | _ => exact ⟨st', L', ow', hk, hr⟩
 | cond c0 c1 c2 ih1 ih2 =>
  intro st K a w L ow h hR
  obtain ⟨d, rs, h1, h2⟩ := run_runs h
  obtain ⟨b, rs1, h3, h4⟩ := opnd_runs hR h1
  obtain ⟨t, hv, rfl, h5⟩ := asBool_runs h3 h4
  cases h5
  refine wp_cond hv ?_
  cases t with
  | true => exact ih1 st K a w L ow h2 hR
  | false => exact ih2 st K a w L ow h2 hR
 | block id c ih =>
  intro st K a w L ow h hR
  refine wp_block (wp_mono (ih st _ a w L ow h hR) fun e a' w' q => ?_)
  obtain ⟨st', L', ow', hk, hr⟩ := q
  cases e with
  | exit id' =>
   simp only [Exit.inBlock]
   dsimp only at hk
   by_cases hid : id' = id
   ·subst hid
    rw [if_pos rfl]
    rw [show Nat.beq id' id' = true by simp] at hk
    exact ⟨st', L', ow', hk, hr⟩
   ·rw [if_neg hid]
    have : Nat.beq id' id = false := by
     cases hb : Nat.beq id' id with
     | false => rfl
     | true => exact absurd (Nat.eq_of_beq_eq_true hb) hid
    rw [this] at hk
    exact ⟨st', L', ow', hk, hr⟩
  | _ => exact ⟨st', L', ow', hk, hr⟩
 | loop c ih =>
  intro st K a w L ow h hR
  cases h with
  | mk I h0 round =>
   have key : ∀ n s a w L ow, I n s → Rel E.P x s a w L ow → Code.rounds E.P c (Post E x K) (n + 1) a w := by
    intro n
    induction n using Nat.strongRecOn with
    | _ n ihn =>
     intro s a w L ow hI hR
     rw [rounds_succ]
     refine wp_mono (ih s _ a w L ow (round n s hI) hR) fun e a' w' q => ?_
     obtain ⟨st', L', ow', hk, hr⟩ := q
     cases e with
     | normal =>
      obtain ⟨n', s'', hn, hw, hI'⟩ := hk
      obtain ⟨L2, ow2, hr2⟩ := hw x a' w' L' ow' hm hr
      exact rounds_mono (n' + 1) n a' w' (by omega) (ihn n' hn s'' a' w' L2 ow2 hI' hr2)
     | _ => exact ⟨st', L', ow', hk, hr⟩
   obtain ⟨n, st0, hw, hI⟩ := h0
   obtain ⟨L2, ow2, hr2⟩ := hw x a w L ow hm hR
   exact wp_loop_rounds (n + 1) (key n st0 a w L2 ow2 hI hr2)
 | _ => intro st K a w L ow h hR; exact h.elim
end
end Ev

namespace Ev
open Go
set_option linter.unusedSimpArgs false
def resM (E : Env) : List ResultVar → List AV → (List AV → M) → M
 | [], acc, k => k acc.reverse
 | .tmp t :: l, acc, k => .slot t fun a => resM E l (a :: acc) k
 | .cell t ty :: l, acc, k => .slot t fun x => typ E ty fun i => loadAV i x fun a => resM E l (a :: acc) k
def allSC : List AV → Option (List SC)
 | [] => some []
 | .one s :: l => match allSC l with
  | some m => some (s :: m)
  | none => none
 | .agg ss :: l => match allSC l with
  | some m => some (ss ++ m)
  | none => none
 | _ => none
def rvs : List AV → List C → List RV
 | [], _ => []
 | .one _ :: l, c :: cs => .one c :: rvs l cs
 | .agg ss :: l, cs => .agg (cs.take ss.length) :: rvs l (cs.drop ss.length)
 | _, _ => []
def rv1 : List RV → RV
 | [r] => r
 | l => .tup l
def objsM (pend : List (Nat × Ob)) : Nat → Nat → List (List C) → (List (List C) → M) → M
 | _, 0, acc, k => k acc.reverse
 | j, n + 1, acc, k => getOb pend j fun ob => cellsOf ob fun cells => objsM pend (j + 1) n (cells :: acc) k
inductive RetC (P : Program) : List Bool → List C → List C → Prop where
 | same {cs : List C} : RetC P [] cs cs
 | keep {b : List Bool} {c : C} {cs cs' : List C} (h : RetC P b cs cs') : RetC P (false :: b) (c :: cs) (c :: cs')
 | frz {b : List Bool} {c c' : C} {cs cs' : List C} (hz : Frz c c') (h : RetC P b cs cs') : RetC P (true :: b) (c :: cs) (c' :: cs')
 | nil {b : List Bool} {e : TypeId} {cs cs' : List C} (hp : 0 < P.cellsOf e) (h : RetC P b cs cs') : RetC P (false :: b) (.v nilV :: cs) (.us e [] :: cs')
def retV (E : Env) (avs : List AV) (res : RV) (objs' : List (List C)) : M := match avs with
 | [.bx id 0] => (match res with
  | .bx cells => bif Nat.ble E.m id then .obj id fun ob => cellsOf ob fun cs => objsM [] 0 E.m [] fun os => .need (cs = cells ∧ os = objs') (.ret ⟨[], [], []⟩) else .fail
  | _ => .fail)
 | [.ifc t (.agg ss)] => (match res with
  | .ifc t' l => bif Nat.beq t t' then absM ss [] [] fun cs pend => objsM pend 0 E.m [] fun os => .need (∃ (b : List Bool) (cs' : List C), RetC E.P b cs cs' ∧ cs' = l ∧ os = objs') (.ret ⟨[], [], []⟩) else .fail
  | .one .x => objsM [] 0 E.m [] fun os => .need (os = objs') (.ret ⟨[], [], []⟩)
  | _ => .fail)
 | avs => match allSC avs with
  | some scl => absM scl [] [] fun cs pend => objsM pend 0 E.m [] fun os => .need (∃ (b : List Bool) (cs' : List C), RetC E.P b cs cs' ∧ rv1 (rvs avs cs') = res ∧ os = objs') (.ret ⟨[], [], []⟩)
  | none => .fail
def retM (E : Env) (rv : List ResultVar) (res : RV) (objs' : List (List C)) : M := resM E rv [] fun avs => retV E avs res objs'
section
variable {E : Env} {x : Cx} {st : St} {a : Act} {w w' : World} {L L' : Nat → Pl} {ow ow' : Own} {rs : List Loc} {d : Delta}
def resSem (tmps : Array Value) : ResultVar → Sem Value
 | .tmp t => pure (tmps.getD t undef)
 | .cell a t => do loadVar t (← asAddr (tmps.getD a undef))
theorem resM_runs (hT : TOk E) : ∀ (l : List ResultVar) (acc : List AV) (k : List AV → M) (rs : List Loc), Rel E.P x st a w L ow → Runs E.P st (resM E l acc k) rs d →
  ∃ bs rs' vs, Runs E.P st (k (acc.reverse ++ bs)) rs' d ∧ bs.length = vs.length ∧ vs.length = l.length ∧ (∀ (i : Nat) (b : AV) (v : Value), bs[i]? = some b → vs[i]? = some v → AVR E.P w (x.F w ow) L st.o b v) ∧ (l.mapM (resSem a.tmps)).run E.P w = .ok vs w := by
 intro l
 induction l with
 | nil => intro acc k rs h hr; exact ⟨[], rs, [], by simpa [resM] using hr, rfl, rfl, by simp, by simp⟩
 | cons r l ih =>
  intro acc k rs h hr
  have hd : ∃ b v rs1, Runs E.P st (resM E l (b :: acc) k) rs1 d ∧ AVR E.P w (x.F w ow) L st.o b v ∧ (resSem a.tmps r).run E.P w = .ok v w := by
   cases r with
   | tmp t =>
    cases hr with
    | slot h1 h2 =>
     obtain ⟨v, h3, h4⟩ := h.slots t _ h1
     exact ⟨_, v, _, h2, h4, by simp [resSem, Array.getD_eq_getD_getElem?, h3]⟩
   | cell t ty =>
    cases hr with
    | slot h1 h2 =>
     obtain ⟨v, h3, h4⟩ := h.slots t _ h1
     obtain ⟨i, hi, _, h5⟩ := typ_runs hT h2
     obtain ⟨c, rs', ad, u, h6, rfl, h8, h9⟩ := loadAV_runs h hi h5 h4
     exact ⟨c, u, _, h6, h9, by simp [resSem, Array.getD_eq_getD_getElem?, h3, asAddr, h8]⟩
  obtain ⟨b, v, rs1, h1, h2, h3⟩ := hd
  obtain ⟨bs, rs2, vs, h4, h5, h6, h7, h8⟩ := ih (b :: acc) k rs1 h h1
  refine ⟨b :: bs, rs2, v :: vs, by simpa using h4, by simp [h5], by simp [h6], fun i c u hc hu => ?_, by rw [List.mapM_cons]; simp [h3, h8]⟩
  cases i with
  | zero => simp at hc hu; subst hc; subst hu; exact h2
  | succ i => exact h7 i c u (by simpa using hc) (by simpa using hu)
theorem objsM_runs {P : Program} {pend : List (Nat × Ob)} (hl : ∀ p ∈ pend, p.1 < st.o.length) : ∀ (n j : Nat) (acc : List (List C)) (k : List (List C) → M) (rs : List Loc), Runs P st (objsM pend j n acc k) rs d →
  ∃ os rs', Runs P st (k (acc.reverse ++ os)) rs' d ∧ os.length = n ∧ ∀ (i : Nat) (cells : List C), os[i]? = some cells → ∃ ob, (st.pend pend).o[j + i]? = some ob ∧ ob.cells = some cells := by
 intro n
 induction n with
 | zero => intro j acc k rs hr; exact ⟨[], rs, by simpa [objsM] using hr, rfl, by simp⟩
 | succ n ih =>
  intro j acc k rs hr
  obtain ⟨ob, rs1, h1, h2⟩ := getOb_runs hr hl
  obtain ⟨cells, h3, h4⟩ := cellsOf_runs h2
  obtain ⟨os, rs2, h5, h6, h7⟩ := ih (j + 1) (cells :: acc) k rs1 h4
  refine ⟨cells :: os, rs2, by simpa using h5, by simp [h6], fun i c hi => ?_⟩
  cases i with
  | zero => simp at hi; subst hi; exact ⟨ob, h1, h3⟩
  | succ i =>
   obtain ⟨ob', q1, q2⟩ := h7 i c (by simpa using hi)
   exact ⟨ob', by rw [show j + (i + 1) = j + 1 + i by omega]; exact q1, q2⟩
theorem allSC_vals {P : Program} {F : Frs} {o : List Ob} : ∀ (bs : List AV) (vs : List Value) (l : List SC), allSC bs = some l → bs.length = vs.length → (∀ (i : Nat) (b : AV) (v : Value), bs[i]? = some b → vs[i]? = some v → AVR P w F L o b v) →
  ∃ us : List Value, us.length = l.length ∧ (∀ (i : Nat) (s : SC) (u : Value), l[i]? = some s → us[i]? = some u → SCR P w F L o s u) ∧
  ∀ (w' : World) (F' : Frs) (ow' : Own) (m k : Nat) (cs : List C), cs.length = l.length → (∀ (i : Nat) (c : C) (u : Value), cs[i]? = some c → us[i]? = some u → OC P w' F' ow' [m, k + i] c u) → RVR P w' F' ow' m k (.tup (rvs bs cs)) (.tuple vs.toArray) ∧
   ∀ v r, vs = [v] → rvs bs cs = [r] → RVR P w' F' ow' m k r v := by
 intro bs
 induction bs with
 | nil =>
  intro vs l h hl _
  have : vs = [] := List.eq_nil_of_length_eq_zero hl.symm
  subst this
  simp [allSC] at h; subst h
  exact ⟨[], rfl, by simp, fun w' F' ow' m k cs _ _ => ⟨.tnil, by simp⟩⟩
 | cons b bs ih =>
  intro vs l h hl hv
  cases vs with
  | nil => simp at hl
  | cons v vs =>
   have hb := hv 0 b v rfl rfl
   have hv' : ∀ (i : Nat) (b : AV) (v : Value), bs[i]? = some b → vs[i]? = some v → AVR P w F L o b v := fun i c u h1 h2 => hv (i + 1) c u (by simpa using h1) (by simpa using h2)
   cases b with
   | one s =>
    simp only [allSC] at h
    cases hm : allSC bs with
    | none => rw [hm] at h; cases h
    | some m0 =>
     rw [hm] at h; simp at h; subst h
     obtain ⟨us, h1, h2, h3⟩ := ih vs m0 hm (by simpa using hl) hv'
     cases hb with
     | one hs =>
      refine ⟨v :: us, by simp [h1], fun i s' u hi hu => ?_, fun w' F' ow' m k cs hcl hcs => ?_⟩
      ·cases i with
       | zero => simp at hi hu; subst hi; subst hu; exact hs
       | succ i => exact h2 i s' u (by simpa using hi) (by simpa using hu)
      ·cases cs with
       | nil => simp at hcl
       | cons c cs =>
        have e0 := hcs 0 c v rfl rfl
        obtain ⟨e1, e2⟩ := h3 w' F' ow' m (k + 1) cs (by simpa using hcl) fun i c' u hi hu => by
         have := hcs (i + 1) c' u (by simpa using hi) (by simpa using hu)
         rw [show k + (i + 1) = k + 1 + i by omega] at this; exact this
        refine ⟨.tone e0 e1, fun v' r h5 h6 => ?_⟩
        simp only [rvs, List.cons.injEq] at h5 h6
        rw [← h6.1, ← h5.1]
        exact .one e0
   | agg ss =>
    simp only [allSC] at h
    cases hm : allSC bs with
    | none => rw [hm] at h; cases h
    | some m0 =>
     rw [hm] at h; simp at h; subst h
     obtain ⟨us, h1, h2, h3⟩ := ih vs m0 hm (by simpa using hl) hv'
     cases hb with
     | @agg _ vs0 hl0 hs =>
      refine ⟨vs0.toList ++ us, by simp [h1, hl0], fun i s' u hi hu => ?_, fun w' F' ow' m k cs hcl hcs => ?_⟩
      ·by_cases hi2 : i < ss.length
       ·rw [List.getElem?_append_left hi2] at hi
        rw [List.getElem?_append_left (by simpa [← hl0] using hi2)] at hu
        exact hs i s' u hi (by simpa using hu)
       ·rw [List.getElem?_append_right (by omega)] at hi
        rw [List.getElem?_append_right (by simp; omega)] at hu
        refine h2 _ s' u hi ?_
        rw [← hu]; simp [hl0]
      ·rw [List.length_append] at hcl
       have hlen : (cs.take ss.length).length = ss.length := by rw [List.length_take]; omega
       have e0 : RVR P w' F' ow' m k (.agg (cs.take ss.length)) (.agg vs0) := by
        refine .agg (by rw [hlen, hl0]) fun i c u hi hu => ?_
        rw [List.getElem?_take] at hi
        split at hi
        ·rename_i hil
         exact hcs i c u hi (by rw [List.getElem?_append_left (by simpa [← hl0] using hil)]; simpa using hu)
        ·cases hi
       obtain ⟨e1, e2⟩ := h3 w' F' ow' m (k + ss.length) (cs.drop ss.length) (by rw [List.length_drop]; omega) fun i c' u hi hu => by
        rw [List.getElem?_drop] at hi
        have := hcs (ss.length + i) c' u hi (by rw [List.getElem?_append_right (by simp [hl0])]; rw [← hu]; simp [hl0])
        rw [show k + (ss.length + i) = k + ss.length + i by omega] at this; exact this
       refine ⟨.tagg e0 (by rw [hlen]; exact e1), fun v' r h5 h6 => ?_⟩
       simp only [rvs, List.cons.injEq] at h5 h6
       rw [← h6.1, ← h5.1]
       exact e0
   | _ => simp [allSC] at h
end
end Ev

namespace Ev
open Go
set_option linter.unusedSimpArgs false
section
variable {E : Env} {x : Cx} {st : St} {a : Act} {w w' : World} {L L' : Nat → Pl} {ow ow' : Own} {rs : List Loc} {d : Delta}
def owFin (m hid : Nat) (b : List Bool) (ow : Own) : Own := fun k => match ow k with
 | some (h :: r) => if h = hid then (match r with
   | i :: s => if b.getD i false then none else some (m :: i :: s)
   | [] => none) else if h < m then some (h :: r) else none
 | _ => none
theorem owFin_sub {m hid k : Nat} {b : List Bool} {r : List Nat} (h : owFin m hid b ow k = some r) : ∃ r', ow k = some r' := by
 cases ho : ow k with
 | none => simp [owFin, ho] at h
 | some r' => exact ⟨r', rfl⟩
theorem RetC.get {P : Program} {b : List Bool} {cs cs' : List C} (h : RetC P b cs cs') : cs'.length = cs.length ∧ ∀ (i : Nat) (c' : C), cs'[i]? = some c' → ∃ c, cs[i]? = some c ∧ ((c = c' ∧ b.getD i false = false) ∨ (Frz c c' ∧ b.getD i false = true) ∨ (∃ e, c = .v nilV ∧ c' = .us e [] ∧ 0 < P.cellsOf e)) := by
 induction h with
 | same => exact ⟨rfl, fun i c' hi => ⟨c', hi, .inl ⟨rfl, by simp⟩⟩⟩
 | keep _ ih =>
  refine ⟨by simp [ih.1], fun i c' hi => ?_⟩
  cases i with
  | zero => simp at hi; subst hi; exact ⟨_, rfl, .inl ⟨rfl, rfl⟩⟩
  | succ i => obtain ⟨c, h1, h2⟩ := ih.2 i c' (by simpa using hi); exact ⟨c, by simpa using h1, by simpa using h2⟩
 | frz hz _ ih =>
  refine ⟨by simp [ih.1], fun i c' hi => ?_⟩
  cases i with
  | zero => simp at hi; subst hi; exact ⟨_, rfl, .inr (.inl ⟨hz, rfl⟩)⟩
  | succ i => obtain ⟨c, h1, h2⟩ := ih.2 i c' (by simpa using hi); exact ⟨c, by simpa using h1, by simpa using h2⟩
 | nil hp _ ih =>
  refine ⟨by simp [ih.1], fun i c' hi => ?_⟩
  cases i with
  | zero => simp at hi; subst hi; exact ⟨_, rfl, .inr (.inr ⟨_, rfl, rfl, hp⟩)⟩
  | succ i => obtain ⟨c, h1, h2⟩ := ih.2 i c' (by simpa using hi); exact ⟨c, by simpa using h1, by simpa using h2⟩
theorem oc_nilOwn {P : Program} {F : Frs} {p : List Nat} {e : TypeId} {u : Value} (hp : 0 < P.cellsOf e) (h : u = nilV) : OC P w F ow p (.us e []) u := by
 subst h
 exact .us (inner := []) ⟨by simp, .inl ⟨rfl, rfl⟩⟩ hp (by simp) (fun g hg => by simp [nilV, Value.ownBlock] at hg) (by simp)
theorem RVR.tup_len {P : Program} {F : Frs} {m : Nat} : ∀ {l : List RV} {k : Nat} {vs : List Value}, RVR P w F ow m k (.tup l) (.tuple vs.toArray) → l.length = vs.length := by
 intro l
 induction l with
 | nil =>
  intro k vs h
  generalize hv : Value.tuple vs.toArray = v at h
  cases h with
  | tnil => injection hv with hv; have := congrArg Array.size hv; simp at this; simp [this]
 | cons r l ih =>
  intro k vs h
  generalize hv : Value.tuple vs.toArray = v at h
  cases h with
  | tone h1 h2 =>
   injection hv with hv
   have := congrArg Array.toList hv
   simp at this
   rw [this]; simp [ih h2]
  | tagg h1 h2 =>
   injection hv with hv
   have := congrArg Array.toList hv
   simp at this
   rw [this]; simp [ih h2]
theorem ret_core {us : List Value} {cs cs' : List C} {pend : List (Nat × Ob)} {ow1 : Own} {b : List Bool} {objs' : List (List C)}
  (h : Rel E.P x st a w L ow) (hm : x.m = E.m)
  (p2 : Rel E.P x (st.pend pend) a w L ow1) (p4 : Hand E.P w (x.F w ow1) ow1 st.o.length cs us) (p5 : ∀ k, x.F w ow k → w.heap[k]? = w.heap[k]? ∧ x.F w ow1 k)
  (e1 : RetC E.P b cs cs') (g2 : objs'.length = E.m) (g3 : ∀ (i : Nat) (cells : List C), objs'[i]? = some cells → ∃ ob, (st.pend pend).o[0 + i]? = some ob ∧ ob.cells = some cells) :
  ∃ ow2 : Own, (∀ k p, ow2 k = some p → ∃ p', ow k = some p') ∧ cs'.length = us.length ∧
   (∀ (i : Nat) (c : C) (u : Value), cs'[i]? = some c → us[i]? = some u → OC E.P w (x.F w ow2) ow2 [E.m, 0 + i] c u) ∧
   ∀ (id : Nat) (cells : List C), objs'[id]? = some cells → id < E.m ∧ ObjR E.P w (x.F w ow2) ow2 id (L id) cells := by
 obtain ⟨r1, r2⟩ := e1.get
 let ow2 := owFin E.m st.o.length b ow1
 have hsub : ∀ k r, ow2 k = some r → ∃ r', ow1 k = some r' := fun k r hk => owFin_sub hk
 have hF : FStep w w (x.F w ow1) (x.F w ow2) := fun k hk => ⟨rfl, FF_grow (Nat.le_refl _) hk (by
  cases ho : ow2 k with
  | none => rfl
  | some r => obtain ⟨r', hr'⟩ := hsub k r ho; rw [p2.F_own hk] at hr'; cases hr')⟩
 have hlen := p4.1
 refine ⟨ow2, fun k p hk => ?_, by rw [r1, hlen], fun i c u hc hu => ?_, fun id cells hid => ?_⟩
 ·obtain ⟨r', hr'⟩ := hsub k p hk
  cases ho : ow k with
  | some q => exact ⟨q, rfl⟩
  | none =>
   exfalso
   have hlt := (p2.owOk k r' hr').1
   have h8 := (p2.owOk k r' hr').2
   have : x.F w ow k := .inr ⟨hlt, ho, h8⟩
   have h9 := (p5 k this).2
   rw [p2.F_own h9] at hr'; cases hr'
 ·obtain ⟨c0, k1, k2⟩ := r2 i c hc
  have k3 := p4.2.1 i c0 u k1 hu
  rw [Nat.zero_add]
  rcases k2 with ⟨rfl, hb⟩ | ⟨hz, hb⟩ | ⟨e, rfl, rfl, hp⟩
  ·exact k3.move hF fun k r hk => ⟨rfl, by
    show owFin E.m st.o.length b ow1 k = _
    simp only [owFin, hk, List.cons_append, List.nil_append, if_true, hb]; rfl⟩
  ·have hfr : FR w (x.F w ow2) c u := k3.freeze hz hF fun k r hk => by
    refine ⟨rfl, .inr ⟨(p2.owOk k _ hk).1, ?_, (p2.owOk k _ hk).2⟩⟩
    show owFin E.m st.o.length b ow1 k = _
    simp only [owFin, hk, List.cons_append, List.nil_append, if_true, hb]
   cases hz with
   | v => exact plain_oc hfr _
   | nil => exact .sl hfr
   | sl => exact .sl hfr
   | ex => exact .sl hfr
   | us => exact .sl hfr
  ·exact oc_nilOwn hp (by cases k3; rfl)
 ·have hidl := (List.getElem?_eq_some_iff.1 hid).1
  rw [g2] at hidl
  obtain ⟨ob, k1, k2⟩ := g3 id cells hid
  rw [Nat.zero_add] at k1
  have hne : id ≠ st.o.length := by
   obtain ⟨⟨ob0, cells0, k3, _⟩, _⟩ := h.pass id (by rw [hm]; exact hidl)
   have := (List.getElem?_eq_some_iff.1 k3).1
   omega
  refine ⟨hidl, (p2.objs id ob cells k1 k2).move hF fun k r hk => ⟨rfl, ?_⟩⟩
  show owFin E.m st.o.length b ow1 k = _
  simp only [owFin, hk, hne, if_false, hidl, if_true]
def owBx (m hid : Nat) (ow : Own) : Own := fun k => match ow k with
 | some (h :: r) => if h = hid then some (m :: r) else if h < m then some (h :: r) else none
 | _ => none
theorem owBx_sub {m hid k : Nat} {r : List Nat} (h : owBx m hid ow k = some r) : ∃ r', ow k = some r' := by
 cases ho : ow k with
 | none => simp [owBx, ho] at h
 | some r' => exact ⟨r', rfl⟩
theorem run_results {fn : Func} {vs : List Value} (h5 : (fn.results.toList.mapM (resSem a.tmps)).run E.P w = .ok vs w) :
  (results fn a.tmps).run E.P w = .ok (if h : vs.toArray.size = 1 then vs.toArray[0] else .tuple vs.toArray) w := by
 have hf : results fn a.tmps = (fn.results.mapM (resSem a.tmps) >>= fun vs => pure (if h : vs.size = 1 then vs[0] else .tuple vs)) := by
  unfold results
  congr 2
 rw [hf]
 rw [Sem.run_bind, Array.mapM_eq_mapM_toList, Sem.run_map, h5]
 simp
theorem retM_sound (hE : EOk E) {fn : Func} {res : RV} {objs' : List (List C)} (h : Rel E.P x st a w L ow) (hm : x.m = E.m) (hr : Runs E.P st (retM E fn.results.toList res objs') rs d) :
  ∃ v ow2, (results fn a.tmps).run E.P w = .ok v w ∧ (∀ k p, ow2 k = some p → ∃ p', ow k = some p') ∧ RVR E.P w (x.F w ow2) ow2 E.m 0 res v ∧ objs'.length = E.m ∧
   ∀ (id : Nat) (cells : List C), objs'[id]? = some cells → id < E.m ∧ ObjR E.P w (x.F w ow2) ow2 id (L id) cells := by
 obtain ⟨bs, rs1, vs, h1, h2, h3, h4, h5⟩ := resM_runs hE.tok _ [] _ rs h hr
 simp only [List.reverse_nil, List.nil_append] at h1
 have hres := run_results h5
 unfold retV at h1
 split at h1
 ·rename_i id
  match vs, h2 with
  | [v], _ =>
  have hav := h4 0 _ v rfl rfl
  split at h1
  ·rename_i cells
   obtain ⟨hle, h6⟩ := runs_cond h1
   have hle := Nat.le_of_ble_eq_true hle
   cases h6 with
   | @obj _ _ ob rs2 _ ho h7 =>
   obtain ⟨cs, hcs, h8⟩ := cellsOf_runs h7
   obtain ⟨os, rs3, g1, g2, g3⟩ := objsM_runs (pend := []) (by simp) E.m 0 [] _ rs2 h8
   cases g1 with
   | need hp _ =>
   obtain ⟨rfl, e3⟩ := hp
   simp only [List.reverse_nil, List.nil_append] at e3
   subst e3
   generalize hu : v = u at hav
   cases hav with
   | @bx _ _ g ob2 cells2 k1 k2 k3 =>
   have hR := h.objs id ob cs ho hcs
   rw [k3] at hR
   let ow2 := owBx E.m id ow
   have hF : FStep w w (x.F w ow) (x.F w ow2) := fun k hk => ⟨rfl, FF_grow (Nat.le_refl _) hk (by
    cases ho : ow2 k with
    | none => rfl
    | some r => obtain ⟨r', hr'⟩ := owBx_sub ho; rw [h.F_own hk] at hr'; cases hr')⟩
   have hown : ∀ k r, ow k = some (id :: r) → ow2 k = some (E.m :: r) := fun k r hk => by
    show owBx E.m id ow k = _
    simp only [owBx, hk, if_true]
   refine ⟨_, ow2, hres, fun k p hk => owBx_sub hk, ?_, g2, fun id' cells hid => ?_⟩
   ·simp only [List.size_toArray, List.length_cons, List.length_nil, Nat.zero_add, dite_true, hu]
    refine .bx ⟨fun g' hg => ?_, fun j c hj => ?_, hR.me⟩
    ·injection hg with hg; subst hg
     obtain ⟨e1, e2⟩ := hR.blk g rfl
     exact ⟨hown g [] e1, e2⟩
    ·obtain ⟨u, e1, e2⟩ := hR.cell j c hj
     exact ⟨u, e1, e2.move hF fun k r hk => ⟨rfl, hown k (j :: r) hk⟩⟩
   ·have hidl := (List.getElem?_eq_some_iff.1 hid).1
    rw [g2] at hidl
    obtain ⟨ob', k1, k2⟩ := g3 id' cells hid
    rw [Nat.zero_add] at k1
    refine ⟨hidl, (h.objs id' ob' cells k1 k2).move hF fun k r hk => ⟨rfl, ?_⟩⟩
    show owBx E.m id ow k = _
    have hne : id' ≠ id := by omega
    simp only [owBx, hk, hne, if_false, hidl, if_true]
  ·cases h1
 ·rename_i t ss
  match vs, h2 with
  | [v], _ =>
  have hav := h4 0 _ v rfl rfl
  generalize hu : v = u at hav
  cases hav with
  | @ifc _ _ u0 hav =>
  split at h1
  ·rename_i t' l
   obtain ⟨hbt, h6⟩ := runs_cond h1
   have hbt := Nat.eq_of_beq_eq_true hbt
   subst hbt
   cases hav with
   | @agg _ us0 hl0 hs0 =>
   have q1 : us0.toList.length = ss.length := by simpa using hl0.symm
   have q2 : ∀ (i : Nat) (s : SC) (u : Value), ss[i]? = some s → us0.toList[i]? = some u → SCR E.P w (x.F w ow) L st.o s u := fun i s u hi hu => hs0 i s u hi (by simpa using hu)
   obtain ⟨cs, pend, rs2, ow1, p1, p2, p3, p4, p5, p6, p7⟩ := absM_sound (hid := st.o.length) ss us0.toList [] [] [] _ _ ow h h6 (by simp) st_len_none q1 q2 (notUs_of q1 q2) Hand.nil
   simp only [List.nil_append] at p4
   obtain ⟨os, rs3, g1, g2, g3⟩ := objsM_runs p3 E.m 0 [] _ rs2 p1
   cases g1 with
   | need hp _ =>
   obtain ⟨b, cs', e1, e2, e3⟩ := hp
   simp only [List.reverse_nil, List.nil_append] at e3
   subst e3; subst e2
   obtain ⟨ow2, f1, f2, f3, f4⟩ := ret_core h hm p2 p4 p5 e1 g2 g3
   refine ⟨_, ow2, hres, f1, ?_, g2, f4⟩
   simp only [List.size_toArray, List.length_cons, List.length_nil, Nat.zero_add, dite_true, hu]
   exact .ifc (.agg (by rw [f2]; simp) fun i c u hc hu => by
    have := f3 i c u hc (by simpa using hu)
    exact this)
  ·obtain ⟨os, rs3, g1, g2, g3⟩ := objsM_runs (pend := []) (by simp) E.m 0 [] _ _ h1
   cases g1 with
   | need hp _ =>
   simp only [List.reverse_nil, List.nil_append] at hp
   subst hp
   refine ⟨_, ow, hres, fun k p hk => ⟨p, hk⟩, ?_, g2, fun id' cells hid => ?_⟩
   ·simp only [List.size_toArray, List.length_cons, List.length_nil, Nat.zero_add, dite_true, hu]
    exact .one (.x rfl)
   ·have hidl := (List.getElem?_eq_some_iff.1 hid).1
    rw [g2] at hidl
    obtain ⟨ob', k1, k2⟩ := g3 id' cells hid
    rw [Nat.zero_add] at k1
    exact ⟨hidl, h.objs id' ob' cells k1 k2⟩
  ·cases h1
 ·split at h1
  ·rename_i scl hscl
   obtain ⟨us, q1, q2, q3⟩ := allSC_vals bs vs scl hscl h2 h4
   obtain ⟨cs, pend, rs2, ow1, p1, p2, p3, p4, p5, p6, p7⟩ := absM_sound (hid := st.o.length) scl us [] [] [] _ rs1 ow h h1 (by simp) st_len_none q1 q2 (notUs_of q1 q2) Hand.nil
   simp only [List.nil_append] at p4
   obtain ⟨os, rs3, g1, g2, g3⟩ := objsM_runs p3 E.m 0 [] _ rs2 p1
   cases g1 with
   | need hp _ =>
    obtain ⟨b, cs', e1, e2, e3⟩ := hp
    simp only [List.reverse_nil, List.nil_append] at e3
    subst e3
    obtain ⟨ow2, f1, f2, f3, f4⟩ := ret_core h hm p2 p4 p5 e1 g2 g3
    obtain ⟨t1, t2⟩ := q3 w (x.F w ow2) ow2 E.m 0 cs' (by rw [f2, q1]) f3
    have htl := t1.tup_len
    refine ⟨_, ow2, hres, f1, ?_, g2, f4⟩
    rw [← e2]
    match hvs : vs, hrv : rvs bs cs' with
    | [v], [r] =>
     subst hvs
     simp only [List.size_toArray, List.length_cons, List.length_nil, Nat.zero_add, dite_true, rv1]
     exact t2 v r rfl hrv
    | [], [] =>
     subst hvs
     simp only [rv1]
     rw [hrv] at t1
     simpa using t1
    | v :: v2 :: vs', r :: r2 :: l =>
     subst hvs
     rw [hrv] at t1
     simpa [rv1] using t1
    | [], r :: l => subst hvs; rw [hrv] at htl; simp at htl
    | [v], [] => subst hvs; rw [hrv] at htl; simp at htl
    | [v], r :: r2 :: l => subst hvs; rw [hrv] at htl; simp at htl
    | v :: v2 :: vs', [] => subst hvs; rw [hrv] at htl; simp at htl
    | v :: v2 :: vs', [r] => subst hvs; rw [hrv] at htl; simp at htl
  ·cases h1
def obListK : List (List C) → List Nat → List Ob
 | c :: l, k :: ks => ⟨0, k, some c⟩ :: obListK l ks
 | c :: l, [] => ⟨0, 0, some c⟩ :: obListK l []
 | [], _ => []
theorem obListK_get : ∀ {objs : List (List C)} {ks : List Nat} {j : Nat}, (obListK objs ks)[j]? = (objs[j]?).map fun c => ⟨0, (ks[j]?).getD 0, some c⟩ := by
 intro objs
 induction objs with
 | nil => intro ks j; cases ks <;> simp [obListK]
 | cons c l ih =>
  intro ks j
  cases ks with
  | nil => cases j with
   | zero => simp [obListK]
   | succ j => simp [obListK, ih]
  | cons k ks => cases j with
   | zero => simp [obListK]
   | succ j => simp [obListK, ih]
theorem obListK_len {objs : List (List C)} {ks : List Nat} : (obListK objs ks).length = objs.length := by
 induction objs generalizing ks with
 | nil => cases ks <;> rfl
 | cons c l ih => cases ks <;> simp [obListK, ih]
def entry (n : Nat) (args : List AV) (objs : List (List C)) (ks : List Nat) : St := ⟨args.map some ++ List.replicate (n - args.length) none, obListK objs ks ++ List.replicate n ⟨0, 0, none⟩⟩
def Ends (E : Env) (fn : Func) (res : RV) (objs' : List (List C)) : Exit → St → Prop
 | .normal, st => (retM E fn.results.toList res objs').run E.P st [] fun _ _ => True
 | .ret, st => (retM E fn.results.toList res objs').run E.P st [] fun _ _ => True
 | _, _ => False
inductive Small : C → Prop where
 | v {x : Value} : Small (.v x)
 | x : Small .x
 | sl {rows : List (List C)} (h : rows.length ≤ maxLen) (ih : ∀ r ∈ rows, ∀ c ∈ r, Small c) : Small (.sl rows)
 | us {e : TypeId} {rows : List (List C)} (h : rows.length ≤ maxLen) (ih : ∀ r ∈ rows, ∀ c ∈ r, Small c) : Small (.us e rows)
 | mp {es : List (ByteArray × Int)} : Small (.mp es)
 | ex {x : Value} {rows : List (List C)} : Small (.ex x rows)
 | me {T : TypeId} : Small (.me T)
def SmallA : AV → Prop
 | .one (.c c) => Small c
 | .agg l => ∀ c, SC.c c ∈ l → Small c
 | _ => True
theorem FR.small {F : Frs} {c : C} {v : Value} (h : FR w F c v) : Small c := by
 induction h with
 | v => exact .v
 | x => exact .x
 | sl val hn hc hm hsz hcell _ ih =>
  refine .sl (by omega) fun r hr c hcr => ?_
  obtain ⟨i, hi⟩ := List.mem_iff_getElem?.1 hr
  obtain ⟨j, hj⟩ := List.mem_iff_getElem?.1 hcr
  exact ih i r j c hi hj
 | ex => exact .ex
theorem OC.small {P : Program} {F : Frs} {p : List Nat} {c : C} {v : Value} (h : OC P w F ow p c v) : Small c := by
 induction h with
 | v => exact .v
 | x => exact .x
 | sl hf => exact hf.small
 | ex hf => exact .ex
 | me => exact .me
 | us hown hp hsz how _ ih =>
  refine .us ?_ fun r hr c hcr => ?_
  ·rcases hown.2 with ⟨_, hn⟩ | ⟨_, _, _, _, _, _, hc, hm, _⟩
   ·omega
   ·omega
  ·obtain ⟨i, hi⟩ := List.mem_iff_getElem?.1 hr
   obtain ⟨j, hj⟩ := List.mem_iff_getElem?.1 hcr
   exact ih i r j c hi hj
 | mp => exact .mp
theorem AVR.small {P : Program} {F : Frs} {o : List Ob} {b : AV} {v : Value} (h : AVR P w F L o b v) : SmallA b := by
 cases h with
 | one h => cases h with
  | c h => exact h.small
  | _ => trivial
 | agg hl hs =>
  intro c hc
  obtain ⟨i, hi⟩ := List.mem_iff_getElem?.1 hc
  have hlt := (List.getElem?_eq_some_iff.1 hi).1
  have := hs i _ _ hi (Array.getElem?_eq_getElem (by omega))
  cases this with
  | c h => exact h.small
 | _ => trivial
theorem AFnK.intro {f : FuncId} {fn : Func} {c : Code} {args : List AV} {objs objs' : List (List C)} {ks : List Nat} {res : RV} (hE : EOk E) (hf : E.P.funcs[f]? = some fn) (hname : (fn.name == "runtime.NumGoroutine") = false) (hb : fn.body = some c) (hm : E.m = objs.length)
  (h : (∀ a ∈ args, SmallA a) → (∀ cs ∈ objs, ∀ c ∈ cs, Small c) → ev E c (entry fn.ntmps args objs ks) (Ends E fn res objs')) : AFnK E.P f args objs ks res objs' := by
 refine ⟨Go.Proofs.enters_of hf hname hb, fun w F0 ow0 L vs h1 h2 h3 hks h4 h5 => calls_of_wp hf hb ?_⟩
 have h := h (fun b hb => by
  obtain ⟨i, hi⟩ := List.mem_iff_getElem?.1 hb
  have hlt := (List.getElem?_eq_some_iff.1 hi).1
  exact (h5 i b _ hi (List.getElem?_eq_getElem (by omega))).small) (fun cs hcs c hc => by
  obtain ⟨i, hi⟩ := List.mem_iff_getElem?.1 hcs
  obtain ⟨j, hj⟩ := List.mem_iff_getElem?.1 hc
  obtain ⟨u, _, hoc⟩ := (h3 i cs hi).cell j c hj
  exact hoc.small)
 let x : Cx := ⟨w, F0, ow0, E.m, L, []⟩
 have hF : FStep w w F0 (x.F w ow0) := fun k hk => ⟨rfl, .inl hk⟩
 have hO : OStep E.P w w L L (obList objs) (entry fn.ntmps args objs ks).o := by
  intro id ob cells k1 k2
  have hid : id < objs.length := by have := (List.getElem?_eq_some_iff.1 k1).1; simpa [obList] using this
  rw [obList_get] at k1
  cases ho : objs[id]? with
  | none => rw [ho] at k1; cases k1
  | some c0 =>
  rw [ho] at k1
  simp at k1
  subst k1
  refine ⟨⟨0, (ks[id]?).getD 0, some c0⟩, cells, ?_, k2, Nat.le_refl _, rfl, fun _ off e rows' hc => ⟨rows', hc, rfl, rfl, fun i r' j e2 rows2' hr hj => ⟨r', rows2', hr, hj, fun _ _ _ _ => rfl⟩⟩⟩
  show (obListK objs ks ++ _)[id]? = _
  rw [List.getElem?_append_left (by rw [obListK_len]; exact hid), obListK_get, ho]; rfl
 have hget : ∀ (id : Nat) (ob : Ob) (cells : List C), (entry fn.ntmps args objs ks).o[id]? = some ob → ob.cells = some cells → objs[id]? = some cells ∧ ob = ⟨0, (ks[id]?).getD 0, some cells⟩ := by
  intro id ob cells k1 k2
  have k1 : (obListK objs ks ++ List.replicate fn.ntmps ⟨0, 0, none⟩)[id]? = some ob := k1
  by_cases hid : id < objs.length
  ·rw [List.getElem?_append_left (by rw [obListK_len]; exact hid), obListK_get] at k1
   cases ho : objs[id]? with
   | none => rw [ho] at k1; cases k1
   | some c => rw [ho] at k1; simp at k1; subst k1; injection k2 with k2; subst k2; exact ⟨rfl, rfl⟩
  ·rw [List.getElem?_append_right (by rw [obListK_len]; omega), List.getElem?_replicate] at k1
   split at k1
   ·injection k1 with k1; subst k1; cases k2
   ·cases k1
 have hR : Rel E.P x (entry fn.ntmps args objs ks) { tmps := vs.toArray ++ Array.replicate (fn.ntmps - vs.toArray.size) undef, defers := [] } w L ow0 := by
  refine ⟨h1, ⟨rfl, rfl, rfl, Nat.le_refl _, fun _ _ _ => rfl⟩, fun k p hk => ⟨h2 k p hk, .inl (by show ow0 k ≠ none; rw [hk]; simp)⟩, fun n av hn => ?_, fun id ob cells k1 k2 => ?_, fun id ob cells k1 k2 k3 => ?_, rfl, ?_, fun id hid => ?_⟩
  ·have hn : (args.map some ++ List.replicate (fn.ntmps - args.length) none)[n]? = some (some av) := hn
   by_cases hna : n < args.length
   ·rw [List.getElem?_append_left (by simpa using hna)] at hn
    have hn2 : args[n]? = some av := by simpa using hn
    have hv : vs[n]? = some (vs[n]'(by omega)) := List.getElem?_eq_getElem _
    refine ⟨_, ?_, (h5 n av _ hn2 hv).step hF hO⟩
    rw [Array.getElem?_append_left (by simp; omega)]; simp [hv]
   ·rw [List.getElem?_append_right (by simpa using by omega), List.getElem?_replicate] at hn
    split at hn <;> simp at hn
  ·obtain ⟨q1, _⟩ := hget id ob cells k1 k2
   exact (h3 id cells q1).move hF fun k r hk => ⟨rfl, hk⟩
  ·obtain ⟨_, q2⟩ := hget id ob cells k1 k2
   rw [q2] at k3
   cases hk : ks[id]? with
   | none => simp [hk] at k3
   | some k => exact hks id k hk (by simpa [hk] using k3)
  ·show (args.map some ++ List.replicate (fn.ntmps - args.length) none).length = _
   simp [h4]
  ·have hid : id < E.m := hid
   rw [hm] at hid
   refine ⟨⟨⟨0, (ks[id]?).getD 0, some objs[id]⟩, objs[id], ?_, rfl⟩, rfl⟩
   show (obListK objs ks ++ _)[id]? = _
   rw [List.getElem?_append_left (by rw [obListK_len]; exact hid), obListK_get, List.getElem?_eq_getElem hid]; rfl
 refine wp_mono (ev_sound hE (x := x) rfl c _ _ _ w L ow0 h hR) fun e a' w' q => ?_
 obtain ⟨st', L', ow', hk, hR'⟩ := q
 have fin : (retM E fn.results.toList res objs').run E.P st' [] (fun _ _ => True) → a'.defers = [] ∧ ∃ v, (results fn a'.tmps).run E.P w' = .ok v w' ∧ (∃ v' ow2, Ending.returned v = .returned v' ∧ Keeps w w' ow0 ∧ (∀ k p, ow2 k = some p → k < w'.heap.size ∧ (ow0 k ≠ none ∨ w.heap.size ≤ k)) ∧
   RVR E.P w' (FF w F0 ow0 w' ow2) ow2 objs.length 0 res v' ∧ objs'.length = objs.length ∧ ∀ (id : Nat) (cells : List C), objs'[id]? = some cells → ObjR E.P w' (FF w F0 ow0 w' ow2) ow2 id (L id) cells) := by
  intro hrun
  obtain ⟨d, rs, k1, _⟩ := run_runs hrun
  obtain ⟨v, ow2, g1, g2, g3, g4, g5⟩ := retM_sound hE hR' rfl k1
  refine ⟨hR'.defers, v, g1, v, ow2, rfl, hR'.keeps, fun k p hk => ?_, by rw [← hm]; exact g3, by rw [← hm]; exact g4, fun id cells hid => ?_⟩
  ·obtain ⟨p', hp'⟩ := g2 k p hk
   exact hR'.owOk k p' hp'
  ·obtain ⟨q1, q2⟩ := g5 id cells hid
   have := (hR'.pass id q1).2
   rw [this] at q2; exact q2
 cases e with
 | normal => exact fin hk
 | ret => exact fin hk
 | _ => exact hk.elim
end
end Ev

namespace Ev
open Go
set_option linter.unusedSimpArgs false
def findN : List (Nat × Nat) → Nat → Option Nat
 | (a, b) :: l, i => bif Nat.beq a i then some b else findN l i
 | [], _ => none
def findI : List (Nat × Nat) → Nat → Option Nat
 | (a, b) :: l, i => bif Nat.beq b i then some a else findI l i
 | [], _ => none
def getO : List Ob → Nat → Option Ob
 | b :: _, 0 => some b
 | _ :: l, n + 1 => getO l n
 | [], _ => none
def rnSC (ρ : List (Nat × Nat)) (o : List Ob) : SC → Option SC
 | .c c => some (.c c)
 | .ref id g p => match findN ρ id, getO o id with
  | some id', some ob => bif Nat.beq ob.g g || (p.isCell && Nat.blt 0 ob.kind) then some (.ref id' 0 p) else none
  | _, _ => none
 | .view id g off lo n => match findN ρ id, getO o id with
  | some id', some ob => bif Nat.beq ob.g g then some (.view id' 0 off lo n) else none
  | _, _ => none
def rnSCs (ρ : List (Nat × Nat)) (o : List Ob) : List SC → Option (List SC)
 | [] => some []
 | s :: l => match rnSC ρ o s, rnSCs ρ o l with
  | some s', some l' => some (s' :: l')
  | _, _ => none
def rnAV1 (ρ : List (Nat × Nat)) (o : List Ob) : AV → Option AV
 | .one s => (rnSC ρ o s).map .one
 | .agg l => (rnSCs ρ o l).map .agg
 | .bx id off => (findN ρ id).map fun id' => .bx id' off
 | .ep row off ad => some (.ep row off ad)
 | .cp l off => (rnSCs ρ o l).map fun l' => .cp l' off
 | _ => none
def rnAVs (ρ : List (Nat × Nat)) (o : List Ob) : List AV → Option (List AV)
 | [] => some []
 | s :: l => match rnAV1 ρ o s, rnAVs ρ o l with
  | some s', some l' => some (s' :: l')
  | _, _ => none
def rnAV (ρ : List (Nat × Nat)) (o : List Ob) : AV → Option AV
 | .clo f l => (rnAVs ρ o l).map (.clo f)
 | .ifc t a => (rnAV1 ρ o a).map (.ifc t)
 | a => rnAV1 ρ o a
def nrmS (ρ : List (Nat × Nat)) (o : List Ob) : List Bool → List (Option AV) → List (Option AV)
 | true :: k, some a :: l => rnAV ρ o a :: nrmS ρ o k l
 | _ :: k, _ :: l => none :: nrmS ρ o k l
 | [], _ :: l => none :: nrmS ρ o [] l
 | _, [] => []
def nrmB (ρ : List (Nat × Nat)) (o : List Ob) (i : Nat) : Ob := match findI ρ i with
 | some id => (match getO o id with
  | some ob => ⟨0, ob.kind, ob.cells⟩
  | none => ⟨0, 0, none⟩)
 | none => ⟨0, 0, none⟩
def nrmO (ρ : List (Nat × Nat)) (o : List Ob) : Nat → Nat → List Ob
 | _, 0 => []
 | i, n + 1 => nrmB ρ o i :: nrmO ρ o (i + 1) n
def len {α : Type} : List α → Nat
 | [] => 0
 | _ :: l => len l + 1
def nrm (k : List Bool) (ρ : List (Nat × Nat)) (st : St) : St := ⟨nrmS ρ st.o k st.s, nrmO ρ st.o 0 (len st.o)⟩
def bij (ρ : List (Nat × Nat)) : Bool := ρ.all fun p => (match findN ρ p.1 with | some b => Nat.beq b p.2 | none => false) && (match findI ρ p.2 with | some a => Nat.beq a p.1 | none => false)
def idOn (ρ : List (Nat × Nat)) : Nat → Bool
 | 0 => true
 | n + 1 => (match findN ρ n with | some b => Nat.beq b n | none => false) && idOn ρ n
section
variable {E : Env} {x : Cx} {st : St} {a : Act} {w w' : World} {L L' : Nat → Pl} {ow ow' : Own}
theorem findN_mem {ρ : List (Nat × Nat)} {i b : Nat} (h : findN ρ i = some b) : (i, b) ∈ ρ := by
 induction ρ with
 | nil => cases h
 | cons p ρ ih =>
  obtain ⟨a, b'⟩ := p
  simp only [findN] at h
  cases hb : Nat.beq a i with
  | true => rw [hb] at h; simp at h; subst h; rw [Nat.eq_of_beq_eq_true hb]; simp
  | false => rw [hb] at h; exact List.mem_cons_of_mem _ (ih h)
theorem findI_mem {ρ : List (Nat × Nat)} {i b : Nat} (h : findI ρ i = some b) : (b, i) ∈ ρ := by
 induction ρ with
 | nil => cases h
 | cons p ρ ih =>
  obtain ⟨a, b'⟩ := p
  simp only [findI] at h
  cases hb : Nat.beq b' i with
  | true => rw [hb] at h; simp at h; subst h; rw [Nat.eq_of_beq_eq_true hb]; simp
  | false => rw [hb] at h; exact List.mem_cons_of_mem _ (ih h)
theorem bij_iff {ρ : List (Nat × Nat)} (h : bij ρ = true) {a b : Nat} : findN ρ a = some b ↔ findI ρ b = some a := by
 simp only [bij, List.all_eq_true, Bool.and_eq_true] at h
 constructor
 ·intro h1
  have := (h _ (findN_mem h1)).2
  cases h2 : findI ρ b with
  | none => simp [h2] at this
  | some c => simp [h2] at this; rw [this]
 ·intro h1
  have := (h _ (findI_mem h1)).1
  cases h2 : findN ρ a with
  | none => simp [h2] at this
  | some c => simp [h2] at this; rw [this]
theorem idOn_at {ρ : List (Nat × Nat)} : ∀ {m : Nat}, idOn ρ m = true → ∀ id, id < m → findN ρ id = some id := by
 intro m
 induction m with
 | zero => intro _ id h; omega
 | succ m ih =>
  intro h id hid
  simp only [idOn, Bool.and_eq_true] at h
  by_cases he : id = m
  ·subst he
   have := h.1
   cases h2 : findN ρ id with
   | none => simp [h2] at this
   | some c => simp [h2] at this; rw [this]
  ·exact ih h.2 id (by omega)
theorem getO_iff {o : List Ob} : ∀ {i : Nat}, getO o i = o[i]? := by
 induction o with
 | nil => intro i; cases i <;> rfl
 | cons b l ih => intro i; cases i with
  | zero => rfl
  | succ i => simpa [getO] using ih
theorem len_iff {α : Type} {l : List α} : len l = l.length := by
 induction l with
 | nil => rfl
 | cons a l ih => simp [len, ih]
theorem nrmO_get {ρ : List (Nat × Nat)} {o : List Ob} : ∀ (n i j : Nat), (nrmO ρ o i n)[j]? = if j < n then some (nrmB ρ o (i + j)) else none := by
 intro n
 induction n with
 | zero => intro i j; simp [nrmO]
 | succ n ih =>
  intro i j
  cases j with
  | zero => simp [nrmO]
  | succ j => simp only [nrmO, List.getElem?_cons_succ, ih]; simp [Nat.add_assoc, Nat.add_comm 1 j]
theorem nrmS_get {ρ : List (Nat × Nat)} {o : List Ob} : ∀ (l : List (Option AV)) (k : List Bool) (n : Nat) (b : AV), (nrmS ρ o k l)[n]? = some (some b) → ∃ b0, l[n]? = some (some b0) ∧ rnAV ρ o b0 = some b := by
 intro l
 induction l with
 | nil => intro k n b h; cases k with
  | nil => simp [nrmS] at h
  | cons c k => cases c <;> simp [nrmS] at h
 | cons s l ih =>
  intro k n b h
  cases n with
  | zero =>
   cases k with
   | nil => simp [nrmS] at h
   | cons c k => cases c with
    | false => cases s <;> simp [nrmS] at h
    | true => cases s with
     | none => simp [nrmS] at h
     | some b0 => simp [nrmS] at h; exact ⟨b0, rfl, h⟩
  | succ n =>
   cases k with
   | nil => obtain ⟨b0, h1, h2⟩ := ih [] n b (by simpa [nrmS] using h); exact ⟨b0, by simpa using h1, h2⟩
   | cons c k =>
    obtain ⟨b0, h1, h2⟩ := ih k n b (by cases c <;> cases s <;> simpa [nrmS] using h)
    exact ⟨b0, by simpa using h1, h2⟩
theorem nrmS_len {ρ : List (Nat × Nat)} {o : List Ob} : ∀ (l : List (Option AV)) (k : List Bool), (nrmS ρ o k l).length = l.length := by
 intro l
 induction l with
 | nil => intro k; cases k with
  | nil => simp [nrmS]
  | cons c k => cases c <;> simp [nrmS]
 | cons s l ih =>
  intro k
  cases k with
  | nil => simp [nrmS, ih]
  | cons c k => cases c <;> cases s <;> simp [nrmS, ih]
def owR (ρ : List (Nat × Nat)) (ow : Own) : Own := fun k => match ow k with
 | some (id :: r) => match findN ρ id with
  | some id' => some (id' :: r)
  | none => none
 | _ => none
def lR (ρ : List (Nat × Nat)) (L : Nat → Pl) : Nat → Pl := fun i => match findI ρ i with
 | some id => L id
 | none => L i
theorem owR_sub {ρ : List (Nat × Nat)} {k : Nat} {r : List Nat} (h : owR ρ ow k = some r) : ∃ r', ow k = some r' := by
 cases ho : ow k with
 | none => simp [owR, ho] at h
 | some r' => exact ⟨r', rfl⟩
theorem rnSC_sound {ρ : List (Nat × Nat)} {F F' : Frs} {s s' : SC} {v : Value} (h : Rel E.P x st a w L ow) (hb : bij ρ = true) (hlen : ∀ p ∈ ρ, p.2 < st.o.length) (hF : FStep w w F F') (hs : SCR E.P w F L st.o s v) (hr : rnSC ρ st.o s = some s') : SCR E.P w F' (lR ρ L) (nrmO ρ st.o 0 (len st.o)) s' v := by
 have ob_get : ∀ id id' ob, findN ρ id = some id' → st.o[id]? = some ob → (nrmO ρ st.o 0 (len st.o))[id']? = some ⟨0, ob.kind, ob.cells⟩ ∧ lR ρ L id' = L id := by
  intro id id' ob h1 h2
  have h3 := (bij_iff hb).1 h1
  rw [nrmO_get, len_iff, if_pos (hlen _ (findN_mem h1)), Nat.zero_add]
  simp [nrmB, h3, getO_iff, h2, lR]
 cases hs with
 | c hf => simp [rnSC] at hr; subst hr; exact .c (hf.move hF)
 | @ref id g p _ ob cells h1 h2 h3 h4 h5 h6 =>
  simp only [rnSC, getO_iff, h2] at hr
  split at hr
  ·rename_i id' ob' q1 q2
   injection q2 with q2; subst q2
   obtain ⟨g1, g2⟩ := ob_get _ _ _ q1 h2
   cases hc : (Nat.beq ob.g g || (p.isCell && Nat.blt 0 ob.kind)) with
   | false => rw [hc] at hr; cases hr
   | true =>
    rw [hc] at hr
    simp at hr; subst hr
    refine .ref h1 g1 h3 (Nat.le_refl _) (fun _ e rows hg => ?_) (fun l off hl hp => h6 l off (g2 ▸ hl) hp)
    rw [g2]
    rw [Bool.or_eq_true] at hc
    rcases hc with hc | hc
    ·exact h5 (Nat.eq_of_beq_eq_true hc) e rows hg
    ·rw [Bool.and_eq_true] at hc
     cases p with
     | elem _ _ _ => simp [Pth.isCell] at hc
     | cell off =>
      have hk : ob.kind ≠ 0 := by have := hc.2; simp [Nat.blt_eq] at this; omega
      obtain ⟨l, hlv⟩ := h.kinds id ob cells h2 h3 hk
      show (L id).val w off = some v
      rw [hlv]; exact h6 l off hlv rfl
  ·cases hr
 | @view id g off lo n _ ob cells h1 h2 h3 h4 h5 =>
  simp only [rnSC, getO_iff, h2] at hr
  split at hr
  ·rename_i id' ob' q1 q2
   injection q2 with q2; subst q2
   obtain ⟨g1, g2⟩ := ob_get _ _ _ q1 h2
   cases hc : Nat.beq ob.g g with
   | false => rw [hc] at hr; cases hr
   | true =>
    rw [hc] at hr
    simp at hr; subst hr
    refine .view h1 g1 h3 (Nat.le_refl _) (fun _ e rows hg => ?_)
    rw [g2]
    exact h5 (Nat.eq_of_beq_eq_true hc) e rows hg
  ·cases hr
theorem rnSCs_sound {ρ : List (Nat × Nat)} {F F' : Frs} (h : Rel E.P x st a w L ow) (hb : bij ρ = true) (hlen : ∀ p ∈ ρ, p.2 < st.o.length) (hF : FStep w w F F') : ∀ (l l' : List SC), rnSCs ρ st.o l = some l' → l'.length = l.length ∧
  ∀ (i : Nat) (s' : SC), l'[i]? = some s' → ∃ s, l[i]? = some s ∧ ∀ v, SCR E.P w F L st.o s v → SCR E.P w F' (lR ρ L) (nrmO ρ st.o 0 (len st.o)) s' v := by
 intro l
 induction l with
 | nil => intro l' h; simp [rnSCs] at h; subst h; exact ⟨rfl, by simp⟩
 | cons s l ih =>
  intro l' hr
  simp only [rnSCs] at hr
  split at hr
  ·rename_i s' l2 h1 h2
   injection hr with hr; subst hr
   obtain ⟨k1, k2⟩ := ih l2 h2
   refine ⟨by simp [k1], fun i t hi => ?_⟩
   cases i with
   | zero => simp at hi; subst hi; exact ⟨s, rfl, fun v hv => rnSC_sound h hb hlen hF hv h1⟩
   | succ i => obtain ⟨s0, q1, q2⟩ := k2 i t (by simpa using hi); exact ⟨s0, by simpa using q1, q2⟩
  ·cases hr
theorem rnAV1_sound {ρ : List (Nat × Nat)} {F F' : Frs} {b b' : AV} {v : Value} (h : Rel E.P x st a w L ow) (hb : bij ρ = true) (hlen : ∀ p ∈ ρ, p.2 < st.o.length) (hF : FStep w w F F') (hs : AVR E.P w F L st.o b v) (hr : rnAV1 ρ st.o b = some b') : AVR E.P w F' (lR ρ L) (nrmO ρ st.o 0 (len st.o)) b' v := by
 cases hs with
 | @one s _ hs =>
  simp only [rnAV1] at hr
  cases h1 : rnSC ρ st.o s with
  | none => rw [h1] at hr; cases hr
  | some s' => rw [h1] at hr; simp at hr; subst hr; exact .one (rnSC_sound h hb hlen hF hs h1)
 | @agg l vs hl hs =>
  simp only [rnAV1] at hr
  cases h1 : rnSCs ρ st.o l with
  | none => rw [h1] at hr; cases hr
  | some l' =>
   rw [h1] at hr; simp at hr; subst hr
   obtain ⟨k1, k2⟩ := rnSCs_sound h hb hlen hF l l' h1
   refine .agg (by rw [k1]; exact hl) fun i s u hi hu => ?_
   obtain ⟨s0, q1, q2⟩ := k2 i s hi
   exact q2 u (hs i s0 u q1 hu)
 | @bx id off g ob cells h2 h3 h4 =>
  simp only [rnAV1] at hr
  cases h1 : findN ρ id with
  | none => rw [h1] at hr; cases hr
  | some id' =>
   rw [h1] at hr; simp at hr; subst hr
   have h5 := (bij_iff hb).1 h1
   refine .bx (ob := ⟨0, ob.kind, ob.cells⟩) ?_ h3 (by simp [lR, h5, h4])
   rw [nrmO_get, len_iff, if_pos (hlen _ (findN_mem h1)), Nat.zero_add]
   simp [nrmB, h5, getO_iff, h2]
 | ep had hh =>
  simp only [rnAV1] at hr
  injection hr with hr; subst hr
  exact .ep had fun j c hj => ⟨(hF _ (hh j c hj).1).2, by obtain ⟨hbk, u, hu, hf⟩ := hh j c hj; exact ⟨u, hu, hf.move hF⟩⟩
 | @cp l off b vs hl hb2 hv hs =>
  simp only [rnAV1] at hr
  cases h1 : rnSCs ρ st.o l with
  | none => rw [h1] at hr; cases hr
  | some l' =>
   rw [h1] at hr; simp at hr; subst hr
   obtain ⟨k1, k2⟩ := rnSCs_sound h hb hlen hF l l' h1
   refine .cp (by rw [k1]; exact hl) (hF _ hb2).2 hv fun i s u hi hu => ?_
   obtain ⟨s0, q1, q2⟩ := k2 i s hi
   exact q2 u (hs i s0 u q1 hu)
 | tup => cases hr
 | bs => cases hr
 | dp => cases hr
 | clo => cases hr
 | ifc => cases hr
theorem rnAVs_sound {ρ : List (Nat × Nat)} {F F' : Frs} (h : Rel E.P x st a w L ow) (hb : bij ρ = true) (hlen : ∀ p ∈ ρ, p.2 < st.o.length) (hF : FStep w w F F') : ∀ (l l' : List AV), rnAVs ρ st.o l = some l' → l'.length = l.length ∧
  ∀ (i : Nat) (s' : AV), l'[i]? = some s' → ∃ s, l[i]? = some s ∧ ∀ v, AVR E.P w F L st.o s v → AVR E.P w F' (lR ρ L) (nrmO ρ st.o 0 (len st.o)) s' v := by
 intro l
 induction l with
 | nil => intro l' h; simp [rnAVs] at h; subst h; exact ⟨rfl, by simp⟩
 | cons s l ih =>
  intro l' hr
  simp only [rnAVs] at hr
  split at hr
  ·rename_i s' l2 h1 h2
   injection hr with hr; subst hr
   obtain ⟨k1, k2⟩ := ih l2 h2
   refine ⟨by simp [k1], fun i t hi => ?_⟩
   cases i with
   | zero => simp at hi; subst hi; exact ⟨s, rfl, fun v hv => rnAV1_sound h hb hlen hF hv h1⟩
   | succ i => obtain ⟨s0, q1, q2⟩ := k2 i t (by simpa using hi); exact ⟨s0, by simpa using q1, q2⟩
  ·cases hr
theorem rnAV_sound {ρ : List (Nat × Nat)} {F F' : Frs} {b b' : AV} {v : Value} (h : Rel E.P x st a w L ow) (hb : bij ρ = true) (hlen : ∀ p ∈ ρ, p.2 < st.o.length) (hF : FStep w w F F') (hs : AVR E.P w F L st.o b v) (hr : rnAV ρ st.o b = some b') : AVR E.P w F' (lR ρ L) (nrmO ρ st.o 0 (len st.o)) b' v := by
 cases b with
 | clo f l =>
  cases hs with
  | @clo _ _ vs hl hs =>
   simp only [rnAV] at hr
   cases h1 : rnAVs ρ st.o l with
   | none => rw [h1] at hr; cases hr
   | some l' =>
    rw [h1] at hr; simp at hr; subst hr
    obtain ⟨k1, k2⟩ := rnAVs_sound h hb hlen hF l l' h1
    refine .clo (by rw [k1]; exact hl) fun i s u hi hu => ?_
    obtain ⟨s0, q1, q2⟩ := k2 i s hi
    exact q2 u (hs i s0 u q1 hu)
 | ifc t c =>
  cases hs with
  | ifc hs =>
   simp only [rnAV] at hr
   cases h1 : rnAV1 ρ st.o c with
   | none => rw [h1] at hr; cases hr
   | some l' => rw [h1] at hr; simp at hr; subst hr; exact .ifc (rnAV1_sound h hb hlen hF hs h1)
 | one s => exact rnAV1_sound h hb hlen hF hs hr
 | agg s => exact rnAV1_sound h hb hlen hF hs hr
 | tup s => exact rnAV1_sound h hb hlen hF hs hr
 | bx _ _ => exact rnAV1_sound h hb hlen hF hs hr
 | bs _ _ _ _ => exact rnAV1_sound h hb hlen hF hs hr
 | dp _ _ _ _ _ => exact rnAV1_sound h hb hlen hF hs hr
 | ep _ _ _ => exact rnAV1_sound h hb hlen hF hs hr
 | cp _ _ => exact rnAV1_sound h hb hlen hF hs hr
theorem Weak.nrm {P : Program} {m : Nat} {st : St} (k : List Bool) (ρ : List (Nat × Nat)) (hb : bij ρ = true) (hlen : (ρ.all fun p => Nat.blt p.2 (len st.o)) = true) (hid : idOn ρ m = true) : Weak P m st (nrm k ρ st) := by
 intro x a w L ow hm h
 have hlen' : ∀ p ∈ ρ, p.2 < st.o.length := by
  intro p hp
  have := List.all_eq_true.1 hlen p hp
  rw [len_iff] at this
  simpa [Nat.blt_eq] using this
 have hF : FStep w w (x.F w ow) (x.F w (owR ρ ow)) := fun k hk => ⟨rfl, FF_grow (Nat.le_refl _) hk (by
  cases ho : owR ρ ow k with
  | none => rfl
  | some r => obtain ⟨r', hr'⟩ := owR_sub ho; rw [h.F_own hk] at hr'; cases hr')⟩
 have back : ∀ (i : Nat) (ob : Ob) (cells : List C), (nrmO ρ st.o 0 (len st.o))[i]? = some ob → ob.cells = some cells → ∃ id ob0, findN ρ id = some i ∧ findI ρ i = some id ∧ st.o[id]? = some ob0 ∧ ob0.cells = some cells ∧ ob.kind = ob0.kind := by
  intro i ob cells h1 h2
  rw [nrmO_get] at h1
  split at h1
  ·rw [Nat.zero_add] at h1
   injection h1 with h1
   simp only [nrmB] at h1
   split at h1
   ·rename_i id hi
    split at h1
    ·rename_i ob0 ho
     subst h1
     rw [getO_iff] at ho
     exact ⟨id, ob0, (bij_iff hb).2 hi, hi, ho, h2, rfl⟩
    ·subst h1; cases h2
   ·subst h1; cases h2
  ·cases h1
 refine ⟨lR ρ L, owR ρ ow, h.cx, h.keeps, fun k p hk => by obtain ⟨r', hr'⟩ := owR_sub hk; exact h.owOk k r' hr', fun n b hn => ?_, fun i ob cells h1 h2 => ?_, fun i ob cells h1 h2 h3 => ?_, h.defers, by rw [← h.len]; exact nrmS_len _ _, fun id hid' => ?_⟩
 ·obtain ⟨b0, h1, h2⟩ := nrmS_get _ _ _ _ hn
  obtain ⟨v, h3, h4⟩ := h.slots n b0 h1
  exact ⟨v, h3, rnAV_sound (E := ⟨P, fun _ => none, fun _ => 0, 0, [], [], [], [], [], [], none⟩) h hb hlen' hF h4 h2⟩
 ·obtain ⟨id, ob0, q1, q2, q3, q4, q5⟩ := back i ob cells h1 h2
  have hR := h.objs id ob0 cells q3 q4
  have hl : lR ρ L i = L id := by simp [lR, q2]
  rw [hl]
  have hO : ∀ k r, ow k = some (id :: r) → owR ρ ow k = some (i :: r) := fun k r hk => by simp [owR, hk, q1]
  refine ⟨fun g hg => ?_, fun j c hj => ?_, hR.me⟩
  ·obtain ⟨e1, e2⟩ := hR.blk g hg
   exact ⟨hO g _ e1, e2⟩
  ·obtain ⟨u, e1, e2⟩ := hR.cell j c hj
   exact ⟨u, e1, e2.move hF fun k r hk => ⟨rfl, hO k _ hk⟩⟩
 ·obtain ⟨id, ob0, q1, q2, q3, q4, q5⟩ := back i ob cells h1 h2
  have hl : lR ρ L i = L id := by simp [lR, q2]
  rw [hl]
  exact h.kinds id ob0 cells q3 q4 (by rw [← q5]; exact h3)
 ·obtain ⟨⟨ob, cells, h1, h2⟩, h3⟩ := h.pass id hid'
  have q1 := idOn_at hid id (by rw [← hm]; exact hid')
  have q2 := (bij_iff hb).1 q1
  refine ⟨⟨⟨0, ob.kind, ob.cells⟩, cells, ?_, h2⟩, by simp [lR, q2, h3]⟩
  show (nrmO ρ st.o 0 (len st.o))[id]? = _
  rw [nrmO_get, len_iff, if_pos (hlen' _ (findN_mem q1)), Nat.zero_add]
  simp [nrmB, q2, getO_iff, h1]
theorem Weak.refl {P : Program} {m : Nat} {st : St} : Weak P m st st := fun _ _ _ L ow _ h => ⟨L, ow, h⟩
theorem Weak.trans {P : Program} {m : Nat} {st1 st2 st3 : St} (h : Weak P m st1 st2) (h' : Weak P m st2 st3) : Weak P m st1 st3 := fun x a w L ow hm hr => by
 obtain ⟨L1, ow1, h1⟩ := h x a w L ow hm hr
 exact h' x a w L1 ow1 hm h1
theorem Weak.nilOwn {P : Program} {m : Nat} {st : St} (n i : Nat) (e : TypeId) (hs : st.s[n]? = some (some (.one (.c (.v nilV))))) (ho : st.o[i]? = some ⟨0, 0, none⟩) (hp : 0 < P.cellsOf e) : Weak P m st ⟨st.s.set n (some (.one (.ref i 0 (.cell 0)))), st.o.set i ⟨0, 1, some [.us e []]⟩⟩ := by
 intro x a w L ow hm h
 have hil := (List.getElem?_eq_some_iff.1 ho).1
 have hnl := (List.getElem?_eq_some_iff.1 hs).1
 have hR := h.newObj (d := i) (ob := ⟨0, 0, none⟩) (ob' := ⟨0, 1, some [.us e []]⟩) (cs := [.us e []]) (pl := .vals [nilV]) (w' := w) (ow' := ow) ho rfl rfl h.keeps h.owOk (fun k hk => ⟨rfl, hk⟩) (fun _ _ _ _ hk => ⟨rfl, hk⟩)
  ⟨(fun _ hg => nomatch hg), fun j c hj => by
   cases j with
   | zero => simp at hj; subst hj; exact ⟨nilV, rfl, .us (inner := []) (World.ownsRow_nil w 0 e _) hp (by simp) (fun g hg => nomatch hg) (by simp)⟩
   | succ j => simp at hj, fun _ _ hg => nomatch hg⟩ (fun _ => ⟨_, rfl⟩)
 obtain ⟨v, h1, h2⟩ := h.slots n _ hs
 have hv := avr_one_v h2
 subst hv
 have hput := hR.put (d := n) (av := .one (.ref i 0 (.cell 0))) (v := nilV) (by rw [← h.len]; exact hnl) (.one (.ref rfl (List.getElem?_set_self hil) rfl (Nat.le_refl _) (fun _ e rows _ => by simp only [if_true]; rfl) (fun l off hl hp => by simp only [if_true] at hl; injection hl with hl; subst hl; injection hp with hp; subst hp; rfl)))
 have ha : a.put (some n) nilV = a := by
  simp only [Act.put]
  have : a.tmps.setIfInBounds n nilV = a.tmps := by
   apply Array.ext_getElem?
   intro j
   rw [Array.getElem?_setIfInBounds]
   split
   ·rename_i hj; subst hj
    split
    ·exact h1.symm
    ·rename_i hlt; rw [← h.len] at hlt; exact absurd hnl hlt
   ·rfl
  rw [this]
 rw [ha] at hput
 exact ⟨_, _, hput⟩
end
end Ev
