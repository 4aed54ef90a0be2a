/-
  An abstract machine, sound for the model: part 4.
-/
import Derived.Test.YtcnongahanmclaaGreatEvC
import Derived.Shelf.Spec.SlicesGrow
import Derived.RangeFuncBox
import Derived.RangeFuncNested
import Derived.RangeFuncBound
import Derived.RangeFuncCalls
import Derived.RangeFuncLeaves
import Derived.Shelf.RegionOpen
import Derived.WalkKit
import Derived.OwnWalkIn
import Derived.TacticsInMore
import Derived.LoopNIn
import Derived.LoopIn
import Derived.Maps.AppendAt
import Derived.Deep.RegionHeld3
/-! What is squashed tells what it told, plain. -/
namespace Ev
open Go
theorem wrap_mod (z : Int) : ∃ k : Int, IntKind.i64.wrap z = z + k * 18446744073709551616 ∧ -9223372036854775808 ≤ IntKind.i64.wrap z ∧ IntKind.i64.wrap z ≤ 9223372036854775807 := by
  have hm : z % 18446744073709551616 = z - 18446744073709551616 * (z / 18446744073709551616) := Int.emod_def ..
  have h1 := Int.emod_nonneg z (show (18446744073709551616 : Int) ≠ 0 by decide)
  have h2 := Int.emod_lt_of_pos z (show (0 : Int) < 18446744073709551616 by decide)
  by_cases h : z % 18446744073709551616 ≥ 9223372036854775808
  · have e : IntKind.i64.wrap z = z % 18446744073709551616 - 18446744073709551616 := by simp [IntKind.wrap, IntKind.bits, IntKind.signed]; omega
    exact ⟨-(z / 18446744073709551616) - 1, by rw [e]; omega, by rw [e]; omega, by rw [e]; omega⟩
  · have e : IntKind.i64.wrap z = z % 18446744073709551616 := by simp [IntKind.wrap, IntKind.bits, IntKind.signed]; omega
    exact ⟨-(z / 18446744073709551616), by rw [e]; omega, by rw [e]; omega, by rw [e]; omega⟩
theorem wrap_uniq {a b k : Int} (h : a = b + k * 18446744073709551616) : IntKind.i64.wrap a = IntKind.i64.wrap b := by
  obtain ⟨i, h1, h2, h3⟩ := wrap_mod a
  obtain ⟨j, g1, g2, g3⟩ := wrap_mod b
  omega
theorem wrap_add (a b : Int) : IntKind.i64.wrap (IntKind.i64.wrap a + b) = IntKind.i64.wrap (a + b) := by
  obtain ⟨i, h1, _, _⟩ := wrap_mod a
  exact wrap_uniq (k := i) (by omega)
/-- What a cell has behind entries, the newest first. -/
def runC (c : Cel) (l : List Ent) : Cel := l.foldr (fun e c => cellDo c e) c
theorem runC_cons (c : Cel) (e : Ent) (l : List Ent) : runC c (e :: l) = cellDo (runC c l) e := rfl
theorem runC_app (c : Cel) (a b : List Ent) : runC c (a ++ b) = runC (runC c b) a := List.foldr_append ..
/-- All the entries are of these kinds. -/
def KindOk (l : List Ent) : Prop := ∀ e ∈ l, e.kind = 1 ∨ e.kind = 2 ∨ e.kind = 3
theorem oneFrom_run {c1 : Cel} : ∀ {l : List Ent} {acc : Ent}, KindOk l → acc.kind = 3 → acc.text = ⟨#[]⟩ → sumOk (oneFrom false acc l).n = true → cellDo c1 (oneFrom false acc l) = cellDo (runC c1 l) acc ∨ (oneFrom false acc l).kind = 1 ∧ ∀ c, cellDo c (oneFrom false acc l) = cellDo (runC c1 l) acc := by
  intro l
  induction l with
  | nil => intro acc _ _ _ _; exact .inl rfl
  | cons e l ih =>
    intro acc hk h3 ht hs
    rcases hk e (List.mem_cons_self ..) with h | h | h
    · rw [oneFrom_1 h] at hs ⊢
      refine .inr ⟨rfl, fun c => ?_⟩
      rw [runC_cons]
      simp only [cellDo, h, h3]
      simp only [sumOk, Bool.and_eq_true, decide_eq_true_eq] at hs
      simp only [show ¬ (3 : Int) = 1 by decide, show ¬ (3 : Int) = 2 by decide, if_false, if_true]
      rw [Int.add_comm, wrapI (by omega) (by omega), Int.add_comm]
    · rw [oneFrom_2 h] at hs ⊢
      refine .inr ⟨by simp, fun c => ?_⟩
      rw [runC_cons]
      simp only [sumOk, Bool.and_eq_true, decide_eq_true_eq] at hs
      simp [cellDo, h, h3, ht, cel0]
      rw [wrapI (by omega) (by omega)]
    · rw [oneFrom_3 h] at hs ⊢
      have hstep : cellDo (runC c1 l) { acc with n := acc.n + e.n } = cellDo (runC c1 (e :: l)) acc := by
        rw [runC_cons]
        simp [cellDo, h, h3]
        rw [wrap_add]
        congr 1; omega
      have := ih (acc := { acc with n := acc.n + e.n }) (fun x hx => hk x (List.mem_cons_of_mem _ hx)) h3 ht hs
      rw [hstep] at this
      exact this
theorem oneE_run {c1 : Cel} {c : List Ent} (hk : KindOk c) (hne : 0 < c.length) (hs : sumOk (oneE c).n = true) : cellDo c1 (oneE c) = runC c1 c := by
  cases c with
  | nil => simp at hne
  | cons e l =>
    have hk2 : KindOk l := fun x hx => hk x (List.mem_cons_of_mem _ hx)
    simp only [oneE] at hs ⊢
    rcases hk e (List.mem_cons_self ..) with h | h | h
    · rw [oneFrom_1 h, runC_cons]
      simp [cellDo, h]
    · rw [oneFrom_2 h, runC_cons]
      simp [cellDo, h]
    · rw [oneFrom_3 h] at hs ⊢
      have := oneFrom_run (c1 := c1) (acc := ⟨e.key, e.seq, 3, ⟨#[]⟩, 0 + e.n⟩) hk2 rfl rfl hs
      have hst : cellDo (runC c1 l) ⟨e.key, e.seq, 3, ⟨#[]⟩, 0 + e.n⟩ = runC c1 (e :: l) := by
        rw [runC_cons]; simp [cellDo, h]
      rw [hst] at this
      rcases this with h | ⟨_, h⟩
      · exact h
      · exact h c1
theorem oneFrom_kind {b : Bool} : ∀ {l : List Ent} {acc : Ent}, acc.text = ⟨#[]⟩ → acc.kind = 3 → (oneFrom b acc l).kind = 3 → (oneFrom b acc l).text = ⟨#[]⟩ := by
  intro l
  induction l generalizing b with
  | nil => intro acc h _ _; exact h
  | cons e l ih =>
    intro acc h h3 hk
    unfold oneFrom at hk ⊢
    split
    · rename_i he
      rw [if_pos he] at hk
      exact ih (acc := { acc with n := acc.n + e.n }) h h3 hk
    · rename_i he
      rw [if_neg he] at hk
      split
      · rename_i h1
        rw [if_pos h1] at hk
        simp at hk
      · exact h
theorem oneFrom_kinds {b : Bool} : ∀ {l : List Ent} {acc : Ent}, acc.kind = 3 → (oneFrom b acc l).kind = 1 ∨ (oneFrom b acc l).kind = 2 ∨ (oneFrom b acc l).kind = 3 := by
  intro l
  induction l generalizing b with
  | nil => intro acc h; exact .inr (.inr h)
  | cons e l ih =>
    intro acc h3
    unfold oneFrom
    split
    · exact ih (acc := { acc with n := acc.n + e.n }) h3
    · split
      · exact .inl rfl
      · show (if b = true then (2 : Int) else 1) = 1 ∨ _
        split
        · exact .inr (.inl rfl)
        · exact .inl rfl
theorem oneE_text {c : List Ent} (h : (oneE c).kind = 3) : (oneE c).text = ⟨#[]⟩ := by
  cases c with
  | nil => rfl
  | cons e l => exact oneFrom_kind (acc := ⟨e.key, e.seq, 3, ⟨#[]⟩, 0⟩) rfl rfl h
theorem classE_run {c1 : Cel} {c : List Ent} {b : Bool} (hk : KindOk c) (hne : 0 < c.length) (hb : b = true → c1 = cel0) : runC c1 (classE c b) = runC c1 c := by
  unfold classE
  split
  · rename_i hs
    have h := oneE_run (c1 := c1) hk hne hs
    split
    · rename_i hd
      rw [Bool.and_eq_true, decide_eq_true_iff] at hd
      rw [← h, hb hd.1]
      simp [cellDo, hd.2, runC]
    · split
      · rename_i hd
        rw [Bool.and_eq_true, decide_eq_true_iff] at hd
        rw [← h, hb hd.1]
        simp only [sumOk, Bool.and_eq_true, decide_eq_true_eq] at hs
        simp only [runC, List.foldr_cons, List.foldr_nil]
        simp [cellDo, hd.2, oneE_text hd.2, cel0]
        rw [wrapI (by omega) (by omega)]
      · exact h
  · rfl
theorem leftE_run {c0 : Cel} {last : Bool} (hl : last = true → c0 = cel0) : ∀ {cs : List (List Ent)}, (∀ c ∈ cs, 0 < c.length ∧ KindOk c) → runC c0 (leftE last cs).1 = runC c0 cs.flatten ∧ ((leftE last cs).2 = true → runC c0 (leftE last cs).1 = cel0) := by
  intro cs
  induction cs with
  | nil => intro _; exact ⟨rfl, fun h => hl h⟩
  | cons c cs ih =>
    intro hc
    obtain ⟨h1, h2⟩ := ih fun x hx => hc x (List.mem_cons_of_mem _ hx)
    obtain ⟨k1, k2⟩ := hc c (List.mem_cons_self ..)
    rw [leftE_cons, List.flatten_cons, runC_app, runC_app, h1]
    refine ⟨classE_run k2 k1 fun hb => by rw [← h1]; exact h2 hb, fun hb => ?_⟩
    rw [Bool.and_eq_true] at hb
    rw [List.isEmpty_iff.1 hb.2]
    show runC c0 cs.flatten = cel0
    rw [← h1]; exact h2 hb.1

/-! ## By times -/
/-- No time that is kept, this one too, parts two that follow one another. -/
def Whole (t : Int) (c : List Ent) : Prop := ∀ j (h1 : j + 1 < c.length), ¬ (c[j + 1].seq ≤ t ∧ t < (c[j]'(by omega)).seq)
def Desc (l : List Ent) : Prop := l.Pairwise fun x y => y.seq < x.seq
theorem whole_le {t : Int} {c : List Ent} (h : Desc c) (hne : 0 < c.length) (h0 : c[0].seq ≤ t) : ∀ e ∈ c, e.seq ≤ t := by
  intro e he
  obtain ⟨i, hi, rfl⟩ := List.getElem_of_mem he
  cases i with
  | zero => exact h0
  | succ i =>
    have := List.pairwise_iff_getElem.1 h 0 (i + 1) hne hi (by omega)
    omega
theorem whole_gt {t : Int} {c : List Ent} (hw : Whole t c) (hne : 0 < c.length) (h0 : t < c[0].seq) : ∀ e ∈ c, ¬ e.seq ≤ t := by
  intro e he
  obtain ⟨i, hi, rfl⟩ := List.getElem_of_mem he
  induction i with
  | zero => omega
  | succ i ih =>
    have h1 := ih (by omega) (List.getElem_mem _)
    have h2 := hw i hi
    intro h3
    exact h2 ⟨h3, by omega⟩
def upTo (t : Int) (l : List Ent) : List Ent := l.filter fun e => decide (e.seq ≤ t)
theorem upTo_app (t : Int) (a b : List Ent) : upTo t (a ++ b) = upTo t a ++ upTo t b := List.filter_append ..
theorem upTo_all {t : Int} {l : List Ent} (h : ∀ e ∈ l, e.seq ≤ t) : upTo t l = l := List.filter_eq_self.2 fun e he => decide_eq_true (h e he)
theorem upTo_none {t : Int} {l : List Ent} (h : ∀ e ∈ l, ¬ e.seq ≤ t) : upTo t l = [] := List.filter_eq_nil_iff.2 fun e he => by simpa using h e he
theorem oneFrom_seq {b : Bool} : ∀ {l : List Ent} {acc : Ent}, (oneFrom b acc l).seq = acc.seq ∧ (oneFrom b acc l).key = acc.key := by
  intro l
  induction l generalizing b with
  | nil => intro acc; exact ⟨rfl, rfl⟩
  | cons e l ih =>
    intro acc
    unfold oneFrom
    split
    · exact ih (acc := { acc with n := acc.n + e.n })
    · split <;> exact ⟨rfl, rfl⟩
theorem oneE_seq {e : Ent} {l : List Ent} : (oneE (e :: l)).seq = e.seq ∧ (oneE (e :: l)).key = e.key := oneFrom_seq (acc := ⟨e.key, e.seq, 3, ⟨#[]⟩, 0⟩)
/-- What is left of a class has its times, or the first of them alone. -/
theorem classE_mem {c : List Ent} {b : Bool} (hne : 0 < c.length) {x : Ent} (hx : x ∈ classE c b) : (∃ e ∈ c, x.seq = e.seq ∧ x.key = e.key) ∧ (x ∈ c ∨ x.seq = c[0].seq) := by
  cases c with
  | nil => simp at hne
  | cons e l =>
    obtain ⟨h1, h2⟩ := oneE_seq (e := e) (l := l)
    have key : ∀ y : Ent, y.seq = e.seq → y.key = e.key → (∃ e' ∈ e :: l, y.seq = e'.seq ∧ y.key = e'.key) ∧ (y ∈ e :: l ∨ y.seq = (e :: l)[0].seq) := fun y h h' => ⟨⟨e, List.mem_cons_self .., h, h'⟩, .inr h⟩
    unfold classE at hx
    split at hx
    · split at hx
      · cases hx
      · split at hx
        · rw [List.mem_singleton.1 hx]; exact key _ h1 h2
        · rw [List.mem_singleton.1 hx]; exact key _ h1 h2
    · exact ⟨⟨x, hx, rfl, rfl⟩, .inl hx⟩
theorem classE_upTo {t : Int} {c : List Ent} {b : Bool} (hd : Desc c) (hw : Whole t c) (hne : 0 < c.length) : upTo t (classE c b) = if c[0].seq ≤ t then classE c b else [] := by
  split
  · rename_i h0
    refine upTo_all fun x hx => ?_
    obtain ⟨⟨e, he, h1, _⟩, _⟩ := classE_mem hne hx
    rw [h1]; exact whole_le hd hne h0 e he
  · rename_i h0
    refine upTo_none fun x hx => ?_
    obtain ⟨⟨e, he, h1, _⟩, _⟩ := classE_mem hne hx
    rw [h1]; exact whole_gt hw hne (by omega) e he
theorem upTo_class {t : Int} {c : List Ent} (hd : Desc c) (hw : Whole t c) (hne : 0 < c.length) : upTo t c = if c[0].seq ≤ t then c else [] := by
  split
  · rename_i h0; exact upTo_all (whole_le hd hne h0)
  · rename_i h0; exact upTo_none (whole_gt hw hne (by omega))
theorem leftE_upTo {t : Int} {c0 : Cel} {last : Bool} (hl : last = true → c0 = cel0) : ∀ {cs : List (List Ent)}, (∀ c ∈ cs, 0 < c.length ∧ KindOk c ∧ Whole t c) → Desc cs.flatten →
    runC c0 (upTo t (leftE last cs).1) = runC c0 (upTo t cs.flatten) := by
  intro cs
  induction cs with
  | nil => intro _ _; rfl
  | cons c cs ih =>
    intro hc hd
    obtain ⟨k1, k2, k3⟩ := hc c (List.mem_cons_self ..)
    rw [List.flatten_cons] at hd ⊢
    obtain ⟨d1, d2, d3⟩ := List.pairwise_append.1 hd
    rw [leftE_cons, upTo_app, upTo_app, runC_app, runC_app, classE_upTo d1 k3 k1, upTo_class d1 k3 k1]
    split
    · rename_i h0
      have hle := whole_le d1 k1 h0
      have hall : ∀ e ∈ cs.flatten, e.seq ≤ t := fun e he => by
        have := d3 c[0] (List.getElem_mem _) e he
        omega
      have hall2 : ∀ e ∈ (leftE last cs).1, e.seq ≤ t := fun e he => by
        have : ∀ {cs : List (List Ent)}, (∀ c ∈ cs, 0 < c.length) → ∀ e ∈ (leftE last cs).1, ∃ e' ∈ cs.flatten, e.seq = e'.seq := by
          intro cs
          induction cs with
          | nil => intro _ e he; cases he
          | cons c cs ih =>
            intro hc e he
            rw [leftE_cons] at he
            rcases List.mem_append.1 he with he | he
            · obtain ⟨⟨e', h1, h2, _⟩, _⟩ := classE_mem (hc c (List.mem_cons_self ..)) he
              exact ⟨e', by rw [List.flatten_cons]; exact List.mem_append_left _ h1, h2⟩
            · obtain ⟨e', h1, h2⟩ := ih (fun x hx => hc x (List.mem_cons_of_mem _ hx)) e he
              exact ⟨e', by rw [List.flatten_cons]; exact List.mem_append_right _ h1, h2⟩
        obtain ⟨e', h1, h2⟩ := this (fun x hx => (hc x (List.mem_cons_of_mem _ hx)).1) e he
        rw [h2]; exact hall e' h1
      rw [upTo_all hall, upTo_all hall2]
      obtain ⟨h1, h2⟩ := leftE_run hl (cs := cs) fun x hx => ⟨(hc x (List.mem_cons_of_mem _ hx)).1, (hc x (List.mem_cons_of_mem _ hx)).2.1⟩
      rw [h1]
      exact classE_run k2 k1 fun hb => by rw [← h1]; exact h2 hb
    · rw [ih (fun x hx => hc x (List.mem_cons_of_mem _ hx)) d2]
/-! ## Classes -/
theorem groups_whole {α : Type} {br : α → α → Bool} : ∀ {l : List α}, ∀ c ∈ groups br l, ∀ j (h : j + 1 < c.length), br (c[j]'(by omega)) c[j + 1] = false := by
  intro l
  induction l with
  | nil => intro c hc; cases hc
  | cons x l ih =>
    cases l with
    | nil =>
      intro c hc j h
      have hc : c ∈ [[x]] := hc
      rw [List.mem_singleton.1 hc] at h
      simp at h
    | cons y l =>
      obtain ⟨c0, cs, h0⟩ := groups_ne (br := br) (x := y) (l := l)
      rw [groups_cons h0]
      rw [h0] at ih
      cases hb : br x y with
      | true =>
        rw [if_pos rfl]
        intro c hc j h
        rcases List.mem_cons.1 hc with rfl | hc
        · simp at h
        · exact ih c hc j h
      | false =>
        rw [if_neg (by simp)]
        intro c hc j h
        rcases List.mem_cons.1 hc with rfl | hc
        · cases j with
          | zero =>
            have hh : ∃ z c1, c0 = z :: c1 ∧ z = y := by
              cases l with
              | nil =>
                have : [[y]] = c0 :: cs := h0
                injection this with h1 _
                exact ⟨y, [], h1.symm, rfl⟩
              | cons z l =>
                obtain ⟨d, ds, hd⟩ := groups_ne (br := br) (x := z) (l := l)
                have := (groups_cons hd (x := y) (br := br)).symm.trans h0
                split at this
                · injection this with h1 _; exact ⟨y, [], h1.symm, rfl⟩
                · injection this with h1 _; exact ⟨y, d, h1.symm, rfl⟩
            obtain ⟨z, c1, rfl, rfl⟩ := hh
            exact hb
          | succ j => exact ih c0 (List.mem_cons_self ..) j (by simpa using h)
        · exact ih c (List.mem_cons_of_mem _ hc) j h
theorem groups_sub {α : Type} {br : α → α → Bool} {l c : List α} (hc : c ∈ groups br l) : c.Sublist l := by
  rw [← groups_flat (br := br) l]
  exact List.sublist_flatten_of_mem hc
/-- What is squashed of one key tells what it told, at every time that is kept, and behind all. -/
theorem squashK_run {t : Int} {c0 : Cel} {snaps : List Int} {last : Bool} {g : List Ent} (hl : last = true → c0 = cel0) (hk : KindOk g) (hd : Desc g) (ht : t ∈ snaps ∨ ∀ e ∈ g, e.seq ≤ t) :
    runC c0 (upTo t (squashK snaps last g)) = runC c0 (upTo t g) := by
  have h := leftE_upTo (t := t) hl (cs := groups (brS snaps) g) (fun c hc => ⟨groups_pos c hc, fun e he => hk e (groups_mem hc he), fun j hj h => ?_⟩) (by rw [groups_flat]; exact hd)
  · rw [groups_flat] at h; exact h
  · rcases ht with ht | ht
    · have hw := groups_whole c hc j hj
      simp only [brS] at hw
      obtain ⟨i, hi, rfl⟩ := List.getElem_of_mem ht
      have := partS_true hi h.1 h.2
      rw [this] at hw; cases hw
    · have := ht _ (groups_mem hc (List.getElem_mem (show j < c.length by omega)))
      omega

/-! ## By keys -/
/-- Parts of one key each, and no two of the same. -/
structure ByKey (gs : List (List Ent)) : Prop where
  one : ∀ g ∈ gs, ∀ e ∈ g, ∀ e' ∈ g, e.key = e'.key
  two : gs.Pairwise fun g g' => ∀ e ∈ g, ∀ e' ∈ g', e.key ≠ e'.key
theorem byKey_groups : ∀ {l : List Ent}, (l.Pairwise fun x y => eLess x y = true) → ByKey (groups brK l) := by
  intro l
  induction l with
  | nil => intro _; exact ⟨fun g hg => (nomatch hg), .nil⟩
  | cons x l ih =>
    intro hp
    obtain ⟨hx, hp⟩ := List.pairwise_cons.1 hp
    have ih := ih hp
    cases l with
    | nil =>
      refine ⟨fun g hg e he e' he' => ?_, by show [[x]].Pairwise _; simp⟩
      have hg : g ∈ [[x]] := hg
      rw [List.mem_singleton.1 hg] at he he'
      rw [List.mem_singleton.1 he, List.mem_singleton.1 he']
    | cons y l =>
      obtain ⟨c, cs, h0⟩ := groups_ne (br := brK) (x := y) (l := l)
      have hflat := groups_flat (br := brK) (y :: l)
      rw [groups_cons h0]
      rw [h0] at ih hflat
      have hxy := hx y (List.mem_cons_self ..)
      cases hb : brK x y with
      | true =>
        rw [if_pos rfl]
        have hne : y.key ≠ x.key := by simpa [brK] using hb
        have hs : slt x.key y.key = true := by
          simp only [eLess, Bool.or_eq_true, Bool.and_eq_true, decide_eq_true_eq] at hxy
          rcases hxy with h | ⟨h, _⟩
          · exact h
          · exact absurd h.symm hne
        refine ⟨fun g hg => ?_, List.pairwise_cons.2 ⟨fun g hg e he e' he' heq => ?_, ih.two⟩⟩
        · rcases List.mem_cons.1 hg with rfl | hg
          · intro e he e' he'
            rw [List.mem_singleton.1 he, List.mem_singleton.1 he']
          · exact ih.one g hg
        · rw [List.mem_singleton.1 he] at heq
          have hm : e' ∈ y :: l := by rw [← hflat]; exact List.mem_flatten.2 ⟨g, hg, he'⟩
          rcases List.mem_cons.1 hm with rfl | hm
          · exact hne heq.symm
          · have := eLess_key ((List.pairwise_cons.1 hp).1 e' hm)
            rw [← heq, hs] at this; cases this
      | false =>
        rw [if_neg (by simp)]
        have hne : y.key = x.key := by simpa [brK] using hb
        have hy : y ∈ c := by
          cases c with
          | nil => exact absurd (groups_pos [] (show [] ∈ groups brK (y :: l) by rw [h0]; exact List.mem_cons_self ..)) (by simp)
          | cons z c =>
            have : z :: (c ++ cs.flatten) = y :: l := by simpa using hflat
            injection this with h1 _
            rw [h1]; exact List.mem_cons_self ..
        obtain ⟨t1, t2⟩ := List.pairwise_cons.1 ih.two
        have hall : ∀ e ∈ c, e.key = x.key := fun e he => (ih.one c (List.mem_cons_self ..) e he y hy).trans hne
        refine ⟨fun g hg => ?_, List.pairwise_cons.2 ⟨fun g hg e he e' he' => ?_, t2⟩⟩
        · rcases List.mem_cons.1 hg with rfl | hg
          · have h2 : ∀ e ∈ x :: c, e.key = x.key := fun e he => by
              rcases List.mem_cons.1 he with rfl | he
              · rfl
              · exact hall e he
            intro e he e' he'
            rw [h2 e he, h2 e' he']
          · exact ih.one g (List.mem_cons_of_mem _ hg)
        · have hk : e.key = y.key := by
            rcases List.mem_cons.1 he with rfl | he
            · exact hne.symm
            · rw [hall e he, hne]
          rw [hk]; exact t1 g hg y hy e' he'
theorem findE_upTo {key : ByteArray} {t : Int} {l : List Ent} (h : ∀ e ∈ l, e.key = key) : findE l key t = upTo t l := by
  unfold findE upTo
  refine List.filter_congr fun e he => ?_
  rw [decide_eq_true (h e he), Bool.true_and]
theorem findE_none {key : ByteArray} {t : Int} {l : List Ent} (h : ∀ e ∈ l, e.key ≠ key) : findE l key t = [] :=
  List.filter_eq_nil_iff.2 fun e he => by simp [h e he]
theorem leftE_mem {last : Bool} : ∀ {cs : List (List Ent)}, (∀ c ∈ cs, 0 < c.length) → ∀ e ∈ (leftE last cs).1, ∃ e' ∈ cs.flatten, e.seq = e'.seq ∧ e.key = e'.key := by
  intro cs
  induction cs with
  | nil => intro _ e he; cases he
  | cons c cs ih =>
    intro hc e he
    rw [leftE_cons] at he
    rcases List.mem_append.1 he with he | he
    · obtain ⟨⟨e', h1, h2⟩, _⟩ := classE_mem (hc c (List.mem_cons_self ..)) he
      exact ⟨e', by rw [List.flatten_cons]; exact List.mem_append_left _ h1, h2⟩
    · obtain ⟨e', h1, h2⟩ := ih (fun x hx => hc x (List.mem_cons_of_mem _ hx)) e he
      exact ⟨e', by rw [List.flatten_cons]; exact List.mem_append_right _ h1, h2⟩
theorem squashK_mem {snaps : List Int} {last : Bool} {g : List Ent} {e : Ent} (h : e ∈ squashK snaps last g) : ∃ e' ∈ g, e.seq = e'.seq ∧ e.key = e'.key := by
  have := leftE_mem (cs := groups (brS snaps) g) (fun c hc => groups_pos c hc) e h
  rw [groups_flat] at this; exact this
theorem parts_run {t : Int} {c0 : Cel} {snaps : List Int} {last : Bool} {key : ByteArray} (hl : last = true → c0 = cel0) : ∀ {gs : List (List Ent)}, ByKey gs → (∀ g ∈ gs, KindOk g ∧ Desc g) → (t ∈ snaps ∨ ∀ g ∈ gs, ∀ e ∈ g, e.seq ≤ t) →
    runC c0 (findE (gs.flatMap (squashK snaps last)) key t) = runC c0 (findE gs.flatten key t) := by
  intro gs
  induction gs with
  | nil => intro _ _ _; rfl
  | cons g gs ih =>
    intro hb hk ht
    obtain ⟨t1, t2⟩ := List.pairwise_cons.1 hb.two
    have ih := ih ⟨fun g h => hb.one g (List.mem_cons_of_mem _ h), t2⟩ (fun g h => hk g (List.mem_cons_of_mem _ h)) (ht.imp_right fun h g hg => h g (List.mem_cons_of_mem _ hg))
    rw [List.flatMap_cons, List.flatten_cons, findE_app, findE_app]
    by_cases hkey : ∃ e ∈ g, e.key = key
    · obtain ⟨e0, he0, hkey⟩ := hkey
      have h1 : ∀ e ∈ g, e.key = key := fun e he => (hb.one g (List.mem_cons_self ..) e he e0 he0).trans hkey
      have h2 : ∀ e ∈ squashK snaps last g, e.key = key := fun e he => by
        obtain ⟨e', q1, _, q3⟩ := squashK_mem he
        rw [q3]; exact h1 e' q1
      have h3 : ∀ e ∈ gs.flatten, e.key ≠ key := fun e he => by
        obtain ⟨g', q1, q2⟩ := List.mem_flatten.1 he
        rw [← hkey]; exact (t1 g' q1 e0 he0 e q2).symm
      have h4 : ∀ e ∈ gs.flatMap (squashK snaps last), e.key ≠ key := fun e he => by
        obtain ⟨g', q1, q2⟩ := List.mem_flatMap.1 he
        obtain ⟨e', r1, _, r3⟩ := squashK_mem q2
        rw [r3]; exact h3 e' (List.mem_flatten.2 ⟨g', q1, r1⟩)
      rw [findE_upTo h1, findE_upTo h2, findE_none h3, findE_none h4, List.append_nil, List.append_nil]
      exact squashK_run hl (hk g (List.mem_cons_self ..)).1 (hk g (List.mem_cons_self ..)).2 (ht.imp_right fun h => h g (List.mem_cons_self ..))
    · have h1 : ∀ e ∈ g, e.key ≠ key := fun e he h => hkey ⟨e, he, h⟩
      have h2 : ∀ e ∈ squashK snaps last g, e.key ≠ key := fun e he => by
        obtain ⟨e', q1, _, q3⟩ := squashK_mem he
        rw [q3]; exact h1 e' q1
      rw [findE_none h1, findE_none h2, List.nil_append, List.nil_append]
      exact ih
theorem kindOk_ord {l : List Ent} (h : ∀ e ∈ l, entOk e = true) : KindOk l := fun e he => by
  obtain ⟨_, h2⟩ := entOk_kind (h e he)
  rcases h2 with h | ⟨h, _⟩ | h
  · exact .inl h
  · exact .inr (.inl h)
  · exact .inr (.inr h)
theorem byKey_desc {l : List Ent} (hp : l.Pairwise fun x y => eLess x y = true) : ∀ g ∈ groups brK l, Desc g := fun g hg => by
  have h1 := (byKey_groups hp).one g hg
  have h2 := hp.sublist (groups_sub hg)
  refine List.pairwise_iff_getElem.2 fun i j hi hj hij => ?_
  have h3 := List.pairwise_iff_getElem.1 h2 i j hi hj hij
  have h4 := h1 _ (List.getElem_mem hi) _ (List.getElem_mem hj)
  simp only [eLess, Bool.or_eq_true, Bool.and_eq_true, decide_eq_true_eq] at h3
  rcases h3 with h | ⟨_, h⟩
  · rw [h4, slt_irr] at h; cases h
  · exact h
theorem squash_run {t : Int} {c0 : Cel} {snaps : List Int} {last : Bool} {key : ByteArray} {l : List Ent} (hl : last = true → c0 = cel0) (ho : ordOk l = true) (ht : t ∈ snaps ∨ ∀ e ∈ l, e.seq ≤ t) :
    runC c0 (findE (squash l snaps last) key t) = runC c0 (findE l key t) := by
  have hp := pw_of_ord ho
  have h := parts_run (t := t) (key := key) (snaps := snaps) hl (byKey_groups hp) (fun g hg => ⟨kindOk_ord fun e he => ordOk_all ho e (groups_mem hg he), byKey_desc hp g hg⟩) (ht.imp_right fun h g hg e he => h e (groups_mem hg he))
  rw [groups_flat] at h
  exact h
/-! ## Cells of lists in order -/
theorem isort_desc {l : List Ent} (h : Desc l) : isort sLess l = l.reverse := by
  refine srt_uniq ((isort_perm _ _).trans (List.reverse_perm l).symm) (srt_isort sLess_wk _) ?_ fun x hx y hy h1 h2 => ?_
  · refine (List.pairwise_reverse.2 h).imp fun {x y} h => ?_
    simp only [sLess, decide_eq_false_iff_not]; omega
  · have hx := (isort_perm _ _).mem_iff.1 hx
    have hy := (isort_perm _ _).mem_iff.1 hy
    simp only [sLess, decide_eq_false_iff_not] at h1 h2
    obtain ⟨i, hi, rfl⟩ := List.getElem_of_mem hx
    obtain ⟨j, hj, rfl⟩ := List.getElem_of_mem hy
    by_cases hij : i = j
    · subst hij; rfl
    · by_cases hlt : i < j
      · have := List.pairwise_iff_getElem.1 h i j hi hj hlt; omega
      · have := List.pairwise_iff_getElem.1 h j i hj hi (by omega); omega
theorem cellAll_run {l : List Ent} {key : ByteArray} {t : Int} (h : Desc (findE l key t)) : cellAll l key t = runC cel0 (findE l key t) := by
  unfold cellAll mine
  rw [isort_desc h, List.foldl_reverse]; rfl
theorem cellAll_ord {l : List Ent} {key : ByteArray} {t : Int} (h : l.Pairwise fun x y => eLess x y = true) : cellAll l key t = runC cel0 (findE l key t) := cellAll_run (findE_desc h key t)
/-! ## In order -/
theorem classE_pw {c : List Ent} {b : Bool} (h : c.Pairwise fun x y => eLess x y = true) : (classE c b).Pairwise fun x y => eLess x y = true := by
  unfold classE
  split
  · split
    · exact .nil
    · split <;> simp
  · exact h
theorem eLess_like {a a' b b' : Ent} (h : eLess a b = true) (h1 : a'.seq = a.seq) (h2 : a'.key = a.key) (h3 : b'.seq = b.seq) (h4 : b'.key = b.key) : eLess a' b' = true := by
  unfold eLess at h ⊢
  rw [h1, h2, h3, h4]; exact h
theorem leftE_pw {last : Bool} : ∀ {cs : List (List Ent)}, (∀ c ∈ cs, 0 < c.length) → (cs.flatten.Pairwise fun x y => eLess x y = true) → ((leftE last cs).1.Pairwise fun x y => eLess x y = true) := by
  intro cs
  induction cs with
  | nil => intro _ _; exact .nil
  | cons c cs ih =>
    intro hc hp
    rw [List.flatten_cons] at hp
    obtain ⟨p1, p2, p3⟩ := List.pairwise_append.1 hp
    rw [leftE_cons]
    refine List.pairwise_append.2 ⟨classE_pw p1, ih (fun x hx => hc x (List.mem_cons_of_mem _ hx)) p2, fun a ha b hb => ?_⟩
    obtain ⟨⟨a', q1, q2, q3⟩, _⟩ := classE_mem (hc c (List.mem_cons_self ..)) ha
    obtain ⟨b', r1, r2, r3⟩ := leftE_mem (fun x hx => hc x (List.mem_cons_of_mem _ hx)) b hb
    exact eLess_like (p3 a' q1 b' r1) q2 q3 r2 r3
theorem squash_mem {l : List Ent} {snaps : List Int} {last : Bool} {e : Ent} (h : e ∈ squash l snaps last) : ∃ e' ∈ l, e.seq = e'.seq ∧ e.key = e'.key := by
  obtain ⟨g, hg, he⟩ := List.mem_flatMap.1 h
  obtain ⟨e', h1, h2⟩ := squashK_mem he
  exact ⟨e', groups_mem hg h1, h2⟩
theorem squash_pw {l : List Ent} {snaps : List Int} {last : Bool} (h : l.Pairwise fun x y => eLess x y = true) : (squash l snaps last).Pairwise fun x y => eLess x y = true := by
  have key : ∀ {gs : List (List Ent)}, (gs.flatten.Pairwise fun x y => eLess x y = true) → (gs.flatMap (squashK snaps last)).Pairwise fun x y => eLess x y = true := by
    intro gs
    induction gs with
    | nil => intro _; exact .nil
    | cons g gs ih =>
      intro hp
      rw [List.flatten_cons] at hp
      obtain ⟨p1, p2, p3⟩ := List.pairwise_append.1 hp
      rw [List.flatMap_cons]
      refine List.pairwise_append.2 ⟨leftE_pw (fun c hc => groups_pos c hc) (by rw [classesE, groups_flat]; exact p1), ih p2, fun a ha b hb => ?_⟩
      obtain ⟨a', q1, q2, q3⟩ := squashK_mem ha
      obtain ⟨g', r0, hb⟩ := List.mem_flatMap.1 hb
      obtain ⟨b', r1, r2, r3⟩ := squashK_mem hb
      exact eLess_like (p3 a' q1 b' (List.mem_flatten.2 ⟨g', r0, r1⟩)) q2 q3 r2 r3
  exact key (by rw [groups_flat]; exact h)

theorem oneFrom_ok {b : Bool} : ∀ {l : List Ent} {acc : Ent}, (∀ e ∈ l, entOk e = true) → acc.text = ⟨#[]⟩ → acc.kind = 3 → (b = true → acc.n = 0) →
    (oneFrom b acc l).text.size ≤ 60 ∧ ((oneFrom b acc l).kind = 1 ∨ ((oneFrom b acc l).kind = 2 ∧ (oneFrom b acc l).text = ⟨#[]⟩ ∧ (oneFrom b acc l).n = 0) ∨ ((oneFrom b acc l).kind = 3 ∧ (oneFrom b acc l).text = ⟨#[]⟩)) := by
  intro l
  induction l generalizing b with
  | nil => intro acc _ h1 h2 _; exact ⟨by rw [oneFrom, h1]; exact Nat.zero_le _, .inr (.inr ⟨h2, h1⟩)⟩
  | cons e l ih =>
    intro acc hk h1 h2 h3
    have he := hk e (List.mem_cons_self ..)
    unfold oneFrom
    split
    · exact ih (b := false) (acc := { acc with n := acc.n + e.n }) (fun x hx => hk x (List.mem_cons_of_mem _ hx)) h1 h2 (fun h => nomatch h)
    · split
      · refine ⟨?_, .inl rfl⟩
        simp only [entOk, Bool.and_eq_true, decide_eq_true_eq] at he
        exact he.2.2.2.1
      · refine ⟨by show acc.text.size ≤ 60; rw [h1]; exact Nat.zero_le _, ?_⟩
        cases b with
        | true => exact .inr (.inl ⟨rfl, h1, h3 rfl⟩)
        | false => exact .inl rfl
theorem oneE_ok {c : List Ent} (hne : 0 < c.length) (hk : ∀ e ∈ c, entOk e = true) (hs : sumOk (oneE c).n = true) : entOk (oneE c) = true ∧ ((oneE c).kind = 3 → entOk { oneE c with kind := 1 } = true) := by
  cases c with
  | nil => simp at hne
  | cons e l =>
    obtain ⟨h1, h2⟩ := oneE_seq (e := e) (l := l)
    obtain ⟨h3, h4⟩ := oneFrom_ok (b := true) (acc := ⟨e.key, e.seq, 3, ⟨#[]⟩, 0⟩) hk rfl rfl fun _ => rfl
    have he := hk e (List.mem_cons_self ..)
    simp only [entOk, Bool.and_eq_true, decide_eq_true_eq] at he
    obtain ⟨q1, q2, q3, _⟩ := he
    have h3 : (oneE (e :: l)).text.size ≤ 60 := h3
    have h4 : (oneE (e :: l)).kind = 1 ∨ ((oneE (e :: l)).kind = 2 ∧ (oneE (e :: l)).text = ⟨#[]⟩ ∧ (oneE (e :: l)).n = 0) ∨ ((oneE (e :: l)).kind = 3 ∧ (oneE (e :: l)).text = ⟨#[]⟩) := h4
    generalize oneE (e :: l) = r at *
    simp only [entOk, Bool.and_eq_true, Bool.or_eq_true, decide_eq_true_eq]
    rw [h1, h2]
    refine ⟨⟨q1, q2, q3, h3, hs, ?_⟩, fun _ => ⟨q1, q2, q3, h3, hs, .inl (.inl trivial)⟩⟩
    rcases h4 with h | h | h
    · exact .inl (.inl h)
    · exact .inl (.inr h)
    · exact .inr h
theorem classE_ok {c : List Ent} {b : Bool} (hne : 0 < c.length) (hk : ∀ e ∈ c, entOk e = true) : ∀ e ∈ classE c b, entOk e = true := by
  unfold classE
  split
  · rename_i hs
    obtain ⟨h1, h2⟩ := oneE_ok hne hk hs
    split
    · intro e he; cases he
    · split
      · rename_i hd
        rw [Bool.and_eq_true, decide_eq_true_iff] at hd
        intro e he
        rw [List.mem_singleton.1 he]; exact h2 hd.2
      · intro e he
        rw [List.mem_singleton.1 he]; exact h1
  · exact hk
theorem leftE_ok {last : Bool} : ∀ {cs : List (List Ent)}, (∀ c ∈ cs, 0 < c.length ∧ ∀ e ∈ c, entOk e = true) → ∀ e ∈ (leftE last cs).1, entOk e = true := by
  intro cs
  induction cs with
  | nil => intro _ e he; cases he
  | cons c cs ih =>
    intro hc e he
    rw [leftE_cons] at he
    rcases List.mem_append.1 he with he | he
    · exact classE_ok (hc c (List.mem_cons_self ..)).1 (hc c (List.mem_cons_self ..)).2 e he
    · exact ih (fun x hx => hc x (List.mem_cons_of_mem _ hx)) e he
theorem squash_ok {l : List Ent} {snaps : List Int} {last : Bool} (h : ordOk l = true) : ordOk (squash l snaps last) = true := by
  refine ord_of_pw (squash_pw (pw_of_ord h)) fun e he => ?_
  obtain ⟨g, hg, he⟩ := List.mem_flatMap.1 he
  exact leftE_ok (cs := groups (brS snaps) g) (fun c hc => ⟨groups_pos c hc, fun e he => ordOk_all h e (groups_mem hg (groups_mem hc he))⟩) e he
theorem squash_len {l : List Ent} {snaps : List Int} {last : Bool} : (squash l snaps last).length ≤ l.length := by
  have key : ∀ {gs : List (List Ent)}, (gs.flatMap (squashK snaps last)).length ≤ gs.flatten.length := by
    intro gs
    induction gs with
    | nil => exact Nat.le_refl _
    | cons g gs ih =>
      rw [List.flatMap_cons, List.flatten_cons, List.length_append, List.length_append]
      have := squashK_len (snaps := snaps) (last := last) (l := g)
      omega
  have := key (gs := groups brK l)
  rw [groups_flat] at this; exact this
theorem squash_nil {snaps : List Int} {last : Bool} : squash [] snaps last = [] := rfl
/-- The view of what is squashed. -/
theorem squash_cell {l : List Ent} {snaps : List Int} {last : Bool} {key : ByteArray} {t : Int} (h : ordOk l = true) (ht : t ∈ snaps ∨ ∀ e ∈ l, e.seq ≤ t) : cellAll (squash l snaps last) key t = cellAll l key t := by
  rw [cellAll_ord (squash_pw (pw_of_ord h)), cellAll_ord (pw_of_ord h)]
  exact squash_run (fun _ => rfl) h ht
end Ev

/-! Trees that are written to, and flushed, plain. -/
namespace Ev
open Go
def stampE (seq : Int) (i : Nat) (e : Ent) : Ent := { e with seq := seq + 1 + i }
/-- A batch with its times, up to the first entry that is refused. -/
def stampP (seq : Int) : Nat → List Ent → List Ent × Bool
  | _, [] => ([], true)
  | i, e :: l => if e.seq = 0 ∧ entOk (stampE seq i e) = true then (stampE seq i e :: (stampP seq (i + 1) l).1, (stampP seq (i + 1) l).2) else ([], false)
def stampB (seq : Int) (batch : List Ent) : Bool := (stampP seq 0 batch).2 && (decide (1 ≤ batch.length) && decide (batch.length ≤ 12))
theorem stampP_cons {seq : Int} {i : Nat} {e : Ent} {l : List Ent} : stampP seq i (e :: l) = if e.seq = 0 ∧ entOk (stampE seq i e) = true then (stampE seq i e :: (stampP seq (i + 1) l).1, (stampP seq (i + 1) l).2) else ([], false) := rfl
def stampT (seq : Int) (i : Nat) (l : List Ent) : List Ent := (l.zipIdx i).map fun p => stampE seq p.2 p.1
theorem stampT_snoc {seq : Int} {l : List Ent} {k : Nat} (h : k < l.length) : stampT seq 0 (l.take (k + 1)) = stampT seq 0 (l.take k) ++ [stampE seq k l[k]] := by
  unfold stampT
  rw [List.take_succ_eq_append_getElem h, List.zipIdx_append, List.map_append]
  simp [Nat.min_eq_left (Nat.le_of_lt h)]
theorem stampT_len {seq : Int} {i : Nat} {l : List Ent} : (stampT seq i l).length = l.length := by simp [stampT]
theorem stampP_ok {seq : Int} : ∀ {l : List Ent} {i : Nat}, (∀ j (h : j < l.length), l[j].seq = 0 ∧ entOk (stampE seq (i + j) l[j]) = true) → stampP seq i l = (stampT seq i l, true) := by
  intro l
  induction l with
  | nil => intro i _; rfl
  | cons e l ih =>
    intro i h
    have h0 := h 0 (by simp)
    have h1 := ih (i := i + 1) fun j hj => by
      have := h (j + 1) (by simpa using hj)
      simpa [Nat.add_assoc, Nat.add_comm 1 j] using this
    rw [stampP_cons, if_pos (by simpa using h0), h1]
    simp [stampT, List.zipIdx_cons]
theorem stampP_bad {seq : Int} : ∀ {l : List Ent} {i k : Nat} (hk : k < l.length), (∀ j (h : j < k), (l[j]'(by omega)).seq = 0 ∧ entOk (stampE seq (i + j) (l[j]'(by omega))) = true) → ¬ (l[k].seq = 0 ∧ entOk (stampE seq (i + k) l[k]) = true) →
    stampP seq i l = (stampT seq i (l.take k), false) := by
  intro l
  induction l with
  | nil => intro i k hk; simp at hk
  | cons e l ih =>
    intro i k hk h hb
    cases k with
    | zero =>
      rw [stampP_cons, if_neg (by simpa using hb)]; rfl
    | succ k =>
      have h0 := h 0 (by omega)
      have h1 := ih (i := i + 1) (k := k) (by simpa using hk) (fun j hj => by
        have := h (j + 1) (by omega)
        simpa [Nat.add_assoc, Nat.add_comm 1 j] using this) (by simpa [Nat.add_assoc, Nat.add_comm 1 k] using hb)
      rw [stampP_cons, if_pos (by simpa using h0), h1]
      simp [stampT, List.zipIdx_cons]
theorem stampP_inv {seq : Int} : ∀ {l : List Ent} {i : Nat}, (stampP seq i l).2 = true → ∀ j (h : j < l.length), l[j].seq = 0 ∧ entOk (stampE seq (i + j) l[j]) = true := by
  intro l
  induction l with
  | nil => intro i _ j h; simp at h
  | cons e l ih =>
    intro i hb j hj
    rw [stampP_cons] at hb
    split at hb
    · rename_i h0
      cases j with
      | zero => simpa using h0
      | succ j =>
        have := ih hb j (by simpa using hj)
        simpa [Nat.add_assoc, Nat.add_comm 1 j] using this
    · cases hb
theorem stampT_mem {seq : Int} {i : Nat} {l : List Ent} {e : Ent} (h : e ∈ stampT seq i l) : ∃ j, ∃ hj : j < l.length, e = stampE seq (i + j) l[j] := by
  unfold stampT at h
  obtain ⟨p, hp, rfl⟩ := List.mem_map.1 h
  obtain ⟨j, hj, he⟩ := List.getElem_of_mem hp
  have hj' : j < l.length := by simpa using hj
  refine ⟨j, hj', ?_⟩
  rw [← he, List.getElem_zipIdx]
theorem stampT_desc {seq : Int} {i : Nat} {l : List Ent} : (stampT seq i l).Pairwise fun x y => x.seq < y.seq := by
  unfold stampT
  rw [List.pairwise_map]
  refine List.pairwise_iff_getElem.2 fun a b ha hb hab => ?_
  rw [List.getElem_zipIdx, List.getElem_zipIdx]
  show seq + 1 + ((i + a : Nat) : Int) < seq + 1 + ((i + b : Nat) : Int)
  omega
/-- Written to. -/
def writeD (batch : List Ent) (t : Tre) : Tre × Bool :=
  if stampB t.seq batch = true ∧ t.mem.length + batch.length ≤ 60 then ({ t with mem := isort eLess (t.mem ++ stampT t.seq 0 batch), seq := t.seq + batch.length }, true) else (t, false)
theorem stampB_iff {seq : Int} {batch : List Ent} : stampB seq batch = true ↔ (stampP seq 0 batch).2 = true ∧ 1 ≤ batch.length ∧ batch.length ≤ 12 := by
  unfold stampB
  rw [Bool.and_eq_true, Bool.and_eq_true, decide_eq_true_iff, decide_eq_true_iff]
/-- A run of entries in order. -/
def mkRun (l : List Ent) : Rn := ⟨l, (rmask l : Nat)⟩
/-- Flushed. -/
def flushD (t : Tre) : Tre × Bool := match t.levels with
  | l0 :: ls => if t.mem.length = 0 ∨ 4 ≤ l0.length then (t, false) else ({ t with mem := [], levels := (l0 ++ [mkRun (squash t.mem t.snaps false)]) :: ls }, true)
  | [] => (t, false)
theorem isort_ord {l : List Ent} (h : ordOk l = true) : isort eLess l = l := by
  have := isort_uniq (List.Perm.refl l) (ord_dif h)
  exact srt_uniq (isort_perm _ _) (srt_isort eLess_wk l) (ordOk_srt h) fun x hx y hy h1 h2 => dif_inj (ord_dif h) x ((isort_perm _ _).mem_iff.1 hx) y ((isort_perm _ _).mem_iff.1 hy) h1 h2
theorem good_ord {l : List Ent} (h : ordOk l = true) (h1 : 1 ≤ l.length) (h2 : l.length ≤ 150) : good l = true := by
  simp only [good, Bool.and_eq_true, decide_eq_true_eq]
  rw [isort_ord h]
  exact ⟨h1, h2, h⟩
theorem classE_pos {c : List Ent} (h : 0 < c.length) : 0 < (classE c false).length := by
  unfold classE
  split
  · simp
  · exact h
theorem leftE_false {cs : List (List Ent)} : (leftE false cs).2 = false := by
  induction cs with
  | nil => rfl
  | cons c cs ih => rw [leftE_cons, ih]; rfl
theorem squash_pos {l : List Ent} {snaps : List Int} (h : 0 < l.length) : 0 < (squash l snaps false).length := by
  cases l with
  | nil => simp at h
  | cons x l =>
    obtain ⟨g, gs, hg⟩ := groups_ne (br := brK) (x := x) (l := l)
    have hgp := groups_pos g (show g ∈ groups brK (x :: l) by rw [hg]; exact List.mem_cons_self ..)
    unfold squash
    rw [hg, List.flatMap_cons, List.length_append]
    cases g with
    | nil => simp at hgp
    | cons y g =>
      obtain ⟨c, cs, hc⟩ := groups_ne (br := brS snaps) (x := y) (l := g)
      have hcp := groups_pos c (show c ∈ groups (brS snaps) (y :: g) by rw [hc]; exact List.mem_cons_self ..)
      have : squashK snaps false (y :: g) = classE c false ++ (leftE false cs).1 := by
        unfold squashK classesE
        rw [hc, leftE_cons, leftE_false]
      rw [this, List.length_append]
      have := classE_pos hcp
      omega
end Ev
namespace Ev
open Go
theorem cellAll_permD {l D : List Ent} {key : ByteArray} {t : Int} (hp : (findE l key t).Perm D) (hD : Desc D) : cellAll l key t = runC cel0 D := by
  have hm : isort sLess (findE l key t) = D.reverse := by
    refine srt_uniq ((isort_perm _ _).trans (hp.trans (List.reverse_perm _).symm)) (srt_isort sLess_wk _) ((List.pairwise_reverse.2 hD).imp fun {x y} h => ?_) fun x hx y hy h1 h2 => ?_
    · simp only [sLess, decide_eq_false_iff_not]; omega
    · have hx := hp.mem_iff.1 ((isort_perm _ _).mem_iff.1 hx)
      have hy := hp.mem_iff.1 ((isort_perm _ _).mem_iff.1 hy)
      simp only [sLess, decide_eq_false_iff_not] at h1 h2
      obtain ⟨i, hi, rfl⟩ := List.getElem_of_mem hx
      obtain ⟨j, hj, rfl⟩ := List.getElem_of_mem hy
      by_cases hij : i = j
      · subst hij; rfl
      · by_cases hlt : i < j
        · have := List.pairwise_iff_getElem.1 hD i j hi hj hlt; omega
        · have := List.pairwise_iff_getElem.1 hD j i hj hi (by omega); omega
  unfold cellAll mine
  rw [hm, List.foldl_reverse]; rfl
/-- Where no two stand at one place, the order is strict. -/
theorem dif_pw {l : List Ent} (h : l.Pairwise Dif) : (isort eLess l).Pairwise fun x y => eLess x y = true := by
  have hp := isort_perm eLess l
  have hs := srt_isort eLess_wk l
  have hd2 : (isort eLess l).Pairwise Dif := (hp.symm.pairwise_iff (fun {x y} h => h.symm)).1 h
  refine List.pairwise_iff_getElem.2 fun i j hi hj hij => ?_
  have a := List.pairwise_iff_getElem.1 hd2 i j hi hj hij
  have b := List.pairwise_iff_getElem.1 hs i j hi hj hij
  rcases a with a | a
  · exact a
  · rw [b] at a; cases a
theorem dif_ord {l : List Ent} (h : l.Pairwise Dif) (he : ∀ e ∈ l, entOk e = true) : ordOk (isort eLess l) = true :=
  ord_of_pw (dif_pw h) fun e h => he e ((isort_perm _ _).mem_iff.1 h)
theorem dif_seq {x y : Ent} (h : Dif x y) (hk : x.key = y.key) : x.seq ≠ y.seq := by
  intro hs
  have : ∀ {a b : Ent}, a.key = b.key → a.seq = b.seq → eLess a b = false := fun {a b} h1 h2 => by
    unfold eLess
    rw [h1, slt_irr, h2]
    simp
  rcases h with h | h
  · rw [this hk hs] at h; cases h
  · rw [this hk.symm hs.symm] at h; cases h
/-- The cells of entries above others. -/
theorem cell_top {B M : List Ent} {key : ByteArray} {s : Int} (hB : B.Pairwise Dif) (hM : M.Pairwise fun x y => eLess x y = true) (hA : Above B M) : cellAll (B ++ M) key s = runC (cellAll B key s) (findE M key s) := by
  have hp : (findE (B ++ M) key s).Perm (findE M key s ++ findE (isort eLess B) key s) := by
    rw [findE_app]
    exact List.perm_append_comm.trans (((isort_perm eLess B).symm.filter _).append_left _)
  have hd1 := findE_desc hM key s
  have hd2 := findE_desc (dif_pw hB) key s
  have hD : Desc (findE M key s ++ findE (isort eLess B) key s) := List.pairwise_append.2 ⟨hd1, hd2, fun x hx y hy => by
    have h1 := findE_mem hx
    have h2 := findE_mem hy
    exact hA x (findE_sub hx) y ((isort_perm _ _).mem_iff.1 (findE_sub hy)) (h1.1.trans h2.1.symm)⟩
  rw [cellAll_permD hp hD, runC_app, cellAll_permD (l := B) (D := findE (isort eLess B) key s) ((isort_perm eLess B).symm.filter _) hd2]
/-- What is squashed beneath nothing but other keys, or kept open, tells what it told. -/
theorem cell_squash {B M : List Ent} {snaps : List Int} {last : Bool} {key : ByteArray} {s : Int} (hB : B.Pairwise Dif) (hM : ordOk M = true) (hA : Above B M) (hl : last = true → ∀ x ∈ M, ∀ y ∈ B, x.key ≠ y.key) (hs : s ∈ snaps ∨ ∀ e ∈ M, e.seq ≤ s) :
    cellAll (B ++ squash M snaps last) key s = cellAll (B ++ M) key s := by
  have hp := pw_of_ord hM
  have hA2 : Above B (squash M snaps last) := fun x hx y hy hk => by
    obtain ⟨x', h1, h2, h3⟩ := squash_mem hx
    rw [h2]; exact hA x' h1 y hy (h3 ▸ hk)
  rw [cell_top hB hp hA, cell_top hB (squash_pw hp) hA2]
  by_cases hk : ∃ x ∈ M, x.key = key
  · obtain ⟨x, hx, hk⟩ := hk
    refine squash_run (fun hlt => ?_) hM hs
    have : findE B key s = [] := findE_none fun y hy h => hl hlt x hx y hy (hk.trans h.symm)
    unfold cellAll mine
    rw [this]; rfl
  · have h1 : findE M key s = [] := findE_none fun x hx h => hk ⟨x, hx, h⟩
    have h2 : findE (squash M snaps last) key s = [] := findE_none fun x hx h => by
      obtain ⟨x', q1, _, q3⟩ := squash_mem hx
      exact hk ⟨x', q1, q3 ▸ h⟩
    rw [h1, h2]
/-! ## Right trees -/
theorem treeP {seq : Int} {mem : List Ent} {l0 l1 l2 : List Rn} {snaps : List Int} : treeOk3 seq mem l0 l1 l2 snaps = true ↔
    (0 ≤ seq ∧ seq ≤ 100000 ∧ mem.length ≤ 60 ∧ ordOk mem = true ∧ snapsB snaps seq = true) ∧ (levB l0 4 false = true ∧ levB l1 8 true = true ∧ levB l2 8 true = true) ∧ (∀ l ∈ layers l0 l1 l2 mem, ∀ e ∈ l, e.seq ≤ seq) ∧ (layers l0 l1 l2 mem).Pairwise Above := by
  rw [treeOk3_iff]
  constructor
  · rintro ⟨a1, a2, a3, a4, a5, a6, a7, a8, a9⟩
    obtain ⟨b1, b2⟩ := (newer_iff _ _ _).1 a9
    exact ⟨⟨a1, a2, a3, a4, a5⟩, ⟨a6, a7, a8⟩, fun l hl e he => (b1 l hl e he).1, b2⟩
  · rintro ⟨⟨a1, a2, a3, a4, a5⟩, ⟨a6, a7, a8⟩, b1, b2⟩
    refine ⟨a1, a2, a3, a4, a5, a6, a7, a8, (newer_iff _ _ _).2 ⟨fun l hl e he => ⟨b1 l hl e he, ?_⟩, b2⟩⟩
    have hok : ordOk l = true := by
      rcases layers_mem hl with h | ⟨r, hr, h⟩
      · subst h; exact a4
      · subst h
        have hr : runOk r = true := by
          rcases hr with hr | hr | hr
          · exact (levB_ok a6).2 r hr
          · exact (levB_ok a7).2 r hr
          · exact (levB_ok a8).2 r hr
        exact (runOk_len hr).2.2.1
    have := ordOk_all hok e he
    simp only [entOk, Bool.and_eq_true, decide_eq_true_eq] at this
    show (0 : Int) < e.seq
    omega
theorem snapsB_mono {l : List Int} {s s' : Int} (h : snapsB l s = true) (hs : s ≤ s') : snapsB l s' = true := by
  rw [snaps_iff] at h ⊢
  exact ⟨h.1, fun i hi => ⟨(h.2 i hi).1, by have := (h.2 i hi).2.1; omega, (h.2 i hi).2.2⟩⟩
/-- The layers but the topmost. -/
def baseE (l0 l1 l2 : List Rn) : List (List Ent) := l2.map Rn.ents ++ (l1.map Rn.ents ++ l0.map Rn.ents)
theorem layers_base (l0 l1 l2 : List Rn) (mem : List Ent) : layers l0 l1 l2 mem = baseE l0 l1 l2 ++ [mem] := by
  unfold layers baseE; simp only [List.append_assoc]
theorem allE_base (l0 l1 l2 : List Rn) (mem : List Ent) : allE l0 l1 l2 mem = (baseE l0 l1 l2).flatten ++ mem := by
  unfold allE; rw [layers_base]; simp
theorem above_flat1 {a : List (List Ent)} {m : List Ent} : (∀ x ∈ a, Above x m) ↔ Above a.flatten m := by
  have := above_flat (a := a) (b := [m])
  simpa using this
theorem stamp_seq {seq : Int} {batch : List Ent} (h : stampB seq batch = true) : ∀ e ∈ stampT seq 0 batch, entOk e = true ∧ seq < e.seq ∧ e.seq ≤ seq + batch.length := by
  obtain ⟨h1, h2, h3⟩ := stampB_iff.1 h
  intro e he
  obtain ⟨j, hj, rfl⟩ := stampT_mem he
  refine ⟨(stampP_inv h1 j hj).2, ?_, ?_⟩
  · show seq < seq + 1 + ((0 + j : Nat) : Int); omega
  · show seq + 1 + ((0 + j : Nat) : Int) ≤ _; omega
theorem stamp_last {seq : Int} {batch : List Ent} (h : stampB seq batch = true) : seq + batch.length ≤ 100000 := by
  obtain ⟨h1, h2, h3⟩ := stampB_iff.1 h
  have h4 := (stampP_inv h1 (batch.length - 1) (by omega)).2
  simp only [entOk, Bool.and_eq_true, decide_eq_true_eq] at h4
  have h5 : seq + 1 + ((0 + (batch.length - 1) : Nat) : Int) ≤ 100000 := h4.2.2.1
  omega
theorem stamp_dif {seq : Int} {batch mem : List Ent} (h : stampB seq batch = true) (hm : ordOk mem = true) (hs : ∀ e ∈ mem, e.seq ≤ seq) : (mem ++ stampT seq 0 batch).Pairwise Dif :=
  List.pairwise_append.2 ⟨ord_dif hm, stampT_desc.imp fun h => eLess_seq (by omega), fun x hx y hy => eLess_seq (by have := hs x hx; have := (stamp_seq h y hy).2.1; omega)⟩
/-- A right tree that is written to is right. -/
theorem writeD_ok {batch : List Ent} {t : Tre} (h : treeOk t = true) : treeOk (writeD batch t).1 = true := by
  unfold writeD
  split
  · rename_i hb
    obtain ⟨hb, hl⟩ := hb
    obtain ⟨l0, l1, l2, he, h⟩ := treeOk_levels h
    obtain ⟨⟨a1, a2, a3, a4, a5⟩, a6, a7, a8⟩ := treeP.1 h
    rw [layers_base] at a7 a8
    obtain ⟨b1, _, b3⟩ := List.pairwise_append.1 a8
    have hms : ∀ e ∈ t.mem, e.seq ≤ t.seq := fun e hem => a7 t.mem (by simp) e hem
    have hd := stamp_dif hb a4 hms
    show (match t.levels with | [l0, l1, l2] => treeOk3 (t.seq + batch.length) (isort eLess (t.mem ++ stampT t.seq 0 batch)) l0 l1 l2 t.snaps | _ => false) = true
    rw [he]
    refine treeP.2 ⟨⟨by omega, stamp_last hb, ?_, dif_ord hd fun e hem => ?_, snapsB_mono a5 (by omega)⟩, a6, ?_, ?_⟩
    · rw [isort_len, List.length_append, stampT_len]; exact hl
    · rcases List.mem_append.1 hem with h | h
      · exact ordOk_all a4 e h
      · exact (stamp_seq hb e h).1
    · rw [layers_base]
      intro l hl e hel
      rcases List.mem_append.1 hl with h | h
      · have := a7 l (List.mem_append_left _ h) e hel; omega
      · rw [List.mem_singleton.1 h] at hel
        rcases List.mem_append.1 ((isort_perm _ _).mem_iff.1 hel) with h | h
        · have := hms e h; omega
        · exact (stamp_seq hb e h).2.2
    · rw [layers_base]
      refine List.pairwise_append.2 ⟨b1, by simp, fun l hl m hm => ?_⟩
      rw [List.mem_singleton.1 hm]
      intro x hx y hy hk
      rcases List.mem_append.1 ((isort_perm _ _).mem_iff.1 hx) with h | h
      · exact b3 l hl t.mem (by simp) x h y hy hk
      · have := (stamp_seq hb x h).2.1
        have := a7 l (List.mem_append_left _ hl) y hy
        omega
  · exact h
theorem runOk_mk {l : List Ent} (h : ordOk l = true) (h1 : 1 ≤ l.length) (h2 : l.length ≤ 150) : runOk (mkRun l) = true := by
  simp only [runOk, mkRun, Bool.and_eq_true, decide_eq_true_eq]
  exact ⟨decide_eq_true h1, decide_eq_true h2, h, trivial⟩
/-- A right tree that is flushed is right. -/
theorem flushD_ok {t : Tre} (h : treeOk t = true) : treeOk (flushD t).1 = true := by
  obtain ⟨l0, l1, l2, he, h3⟩ := treeOk_levels h
  have e1 : flushD t = if t.mem.length = 0 ∨ 4 ≤ l0.length then (t, false) else ({ t with mem := [], levels := (l0 ++ [mkRun (squash t.mem t.snaps false)]) :: [l1, l2] }, true) := by unfold flushD; rw [he]
  rw [e1]
  split
  · exact h
  · rename_i hc
    obtain ⟨⟨a1, a2, a3, a4, a5⟩, ⟨a6, a6', a6''⟩, a7, a8⟩ := treeP.1 h3
    rw [layers_base] at a7 a8
    obtain ⟨b1, _, b3⟩ := List.pairwise_append.1 a8
    have hm0 : 0 < t.mem.length := Nat.pos_of_ne_zero fun h => hc (.inl h)
    have hl0 : ¬ 4 ≤ l0.length := fun h => hc (.inr h)
    have hpos := squash_pos (snaps := t.snaps) hm0
    have hle := squash_len (l := t.mem) (snaps := t.snaps) (last := false)
    have hr := runOk_mk (squash_ok (snaps := t.snaps) (last := false) a4) hpos (by omega)
    show treeOk3 t.seq [] (l0 ++ [mkRun (squash t.mem t.snaps false)]) l1 l2 t.snaps = true
    have hlay : layers (l0 ++ [mkRun (squash t.mem t.snaps false)]) l1 l2 [] = baseE l0 l1 l2 ++ [squash t.mem t.snaps false, []] := by
      unfold layers baseE
      simp [mkRun]
    refine treeP.2 ⟨⟨a1, a2, Nat.zero_le _, rfl, a5⟩, ⟨?_, a6', a6''⟩, ?_, ?_⟩
    · unfold levB at a6 ⊢
      rw [Bool.and_eq_true, Bool.and_eq_true, decide_eq_true_iff] at a6 ⊢
      refine ⟨⟨by simp; omega, ?_⟩, rfl⟩
      rw [List.all_append, a6.1.2]; simp [hr]
    · rw [hlay]
      intro l hl e hel
      rcases List.mem_append.1 hl with h | h
      · exact a7 l (List.mem_append_left _ h) e hel
      · rcases List.mem_cons.1 h with h | h
        · rw [h] at hel
          obtain ⟨e', q1, q2, _⟩ := squash_mem hel
          rw [q2]; exact a7 t.mem (by simp) e' q1
        · rw [List.mem_singleton.1 h] at hel; cases hel
    · rw [hlay]
      refine List.pairwise_append.2 ⟨b1, by simp [Above], fun l hl m hm => ?_⟩
      rcases List.mem_cons.1 hm with h | h
      · rw [h]
        intro x hx y hy hk
        obtain ⟨x', q1, q2, q3⟩ := squash_mem hx
        rw [q2]; exact b3 l hl t.mem (by simp) x' q1 y hy (q3 ▸ hk)
      · rw [List.mem_singleton.1 h]
        intro x hx; cases hx
end Ev

/-! Trees that are compacted, plain. -/
namespace Ev
open Go
/-! ## Cutting -/
/-- Pieces of at least twenty, cut between keys; n are there already. -/
def pieces : Nat → List Ent → List (List Ent)
  | _, [] => []
  | n, x :: l => match l, pieces (if 20 ≤ n + 1 ∧ (l.getD 0 ent0).key ≠ x.key then 0 else n + 1) l with
    | _ :: _, c :: cs => if 20 ≤ n + 1 ∧ (l.getD 0 ent0).key ≠ x.key then [x] :: c :: cs else (x :: c) :: cs
    | _, _ => [[x]]
def brkP (n : Nat) (x y : Ent) : Prop := 20 ≤ n + 1 ∧ y.key ≠ x.key
instance (n : Nat) (x y : Ent) : Decidable (brkP n x y) := by unfold brkP; exact inferInstance
theorem pieces_ne {n : Nat} {x : Ent} {l : List Ent} : ∃ c cs, pieces n (x :: l) = c :: cs := by
  unfold pieces
  split
  · split <;> exact ⟨_, _, rfl⟩
  · exact ⟨_, _, rfl⟩
theorem pieces_cons {n : Nat} {x y : Ent} {l : List Ent} : ∃ c cs, pieces (if brkP n x y then 0 else n + 1) (y :: l) = c :: cs ∧ pieces n (x :: y :: l) = if brkP n x y then [x] :: c :: cs else (x :: c) :: cs := by
  obtain ⟨c, cs, hc⟩ := pieces_ne (n := if brkP n x y then 0 else n + 1) (x := y) (l := l)
  refine ⟨c, cs, hc, ?_⟩
  have hc' : pieces (if 20 ≤ n + 1 ∧ ((y :: l).getD 0 ent0).key ≠ x.key then 0 else n + 1) (y :: l) = c :: cs := hc
  conv => lhs; unfold pieces
  simp only [hc']
  rfl
theorem pieces_split : ∀ {l : List Ent} {n k : Nat}, 0 < k → k ≤ l.length → (∀ j (h1 : 0 < j) (_ : j < k) (h3 : j < l.length), ¬ brkP (n + j - 1) (l[j - 1]'(by omega)) l[j]) →
    (∀ (h : k < l.length), brkP (n + k - 1) (l[k - 1]'(by omega)) l[k]) → pieces n l = l.take k :: pieces 0 (l.drop k) := by
  intro l
  induction l with
  | nil => intro n k h1 h2; simp at h2; omega
  | cons x l ih =>
    intro n k h1 h2 h3 h4
    cases l with
    | nil =>
      have : k = 1 := by simp at h2; omega
      subst this
      rfl
    | cons y l =>
      obtain ⟨c, cs, hc, he⟩ := pieces_cons (n := n) (x := x) (y := y) (l := l)
      rw [he]
      by_cases hk : k = 1
      · subst hk
        have hb : brkP n x y := by have := h4 (by simp); simpa using this
        rw [if_pos hb] at hc ⊢
        rw [← hc]; rfl
      · have hb : ¬ brkP n x y := by have := h3 1 (by omega) (by omega) (by simp); simpa using this
        rw [if_neg hb] at hc ⊢
        have h := ih (n := n + 1) (k := k - 1) (by omega) (by simp at h2 ⊢; omega) (fun j g1 g2 g3 => by
          have := h3 (j + 1) (by omega) (by omega) (by simp at g3 ⊢; omega)
          obtain ⟨j', rfl⟩ : ∃ j', j = j' + 1 := ⟨j - 1, by omega⟩
          have e : n + 1 + (j' + 1) - 1 = n + (j' + 1 + 1) - 1 := by omega
          rw [e]
          simpa using this) (fun g => by
          have := h4 (by simp at g ⊢; omega)
          obtain ⟨k', rfl⟩ : ∃ k', k = k' + 2 := ⟨k - 2, by omega⟩
          have e : n + 1 + (k' + 2 - 1) - 1 = n + (k' + 2) - 1 := by omega
          rw [e]
          simpa using this)
        obtain ⟨k', rfl⟩ : ∃ k', k = k' + 1 := ⟨k - 1, by omega⟩
        rw [List.take_succ_cons, List.drop_succ_cons]
        simp only [Nat.add_sub_cancel] at h
        rw [hc] at h
        injection h with h5 h6
        rw [h5, h6]
theorem pieces_flat : ∀ {l : List Ent} {n : Nat}, (pieces n l).flatten = l := by
  intro l
  induction l with
  | nil => intro n; rfl
  | cons x l ih =>
    intro n
    cases l with
    | nil => rfl
    | cons y l =>
      obtain ⟨c, cs, hc, he⟩ := pieces_cons (n := n) (x := x) (y := y) (l := l)
      have h := ih (n := if brkP n x y then 0 else n + 1)
      rw [hc] at h
      rw [he]
      split <;> simpa using h
theorem pieces_pos : ∀ {l : List Ent} {n : Nat}, ∀ c ∈ pieces n l, 0 < c.length := by
  intro l
  induction l with
  | nil => intro n c hc; cases hc
  | cons x l ih =>
    intro n c hc
    cases l with
    | nil =>
      have hc : c ∈ [[x]] := hc
      rw [List.mem_singleton.1 hc]; simp
    | cons y l =>
      obtain ⟨c0, cs, h0, he⟩ := pieces_cons (n := n) (x := x) (y := y) (l := l)
      have h := ih (n := if brkP n x y then 0 else n + 1)
      rw [h0] at h
      rw [he] at hc
      split at hc
      · rcases List.mem_cons.1 hc with rfl | hc
        · simp
        · exact h c hc
      · rcases List.mem_cons.1 hc with rfl | hc
        · simp
        · exact h c (List.mem_cons_of_mem _ hc)
/-- No key stands in two pieces. -/
theorem pieces_keys : ∀ {l : List Ent} {n : Nat}, (l.Pairwise fun x y => eLess x y = true) → (pieces n l).Pairwise fun a b => ∀ x ∈ a, ∀ y ∈ b, slt x.key y.key = true := by
  intro l
  induction l with
  | nil => intro n _; exact .nil
  | cons x l ih =>
    intro n hp
    obtain ⟨hx, hp⟩ := List.pairwise_cons.1 hp
    cases l with
    | nil => show [[x]].Pairwise _; simp
    | cons y l =>
      obtain ⟨c, cs, h0, he⟩ := pieces_cons (n := n) (x := x) (y := y) (l := l)
      have h := ih (n := if brkP n x y then 0 else n + 1) hp
      have hfl := pieces_flat (l := y :: l) (n := if brkP n x y then 0 else n + 1)
      rw [h0] at h hfl
      rw [he]
      split
      · rename_i hb
        refine List.pairwise_cons.2 ⟨fun g hg u hu v hv => ?_, h⟩
        rw [List.mem_singleton.1 hu]
        have hm : v ∈ y :: l := by rw [← hfl]; exact List.mem_flatten.2 ⟨g, hg, hv⟩
        have hxy := hx y (List.mem_cons_self ..)
        have hs : slt x.key y.key = true := by
          simp only [eLess, Bool.or_eq_true, Bool.and_eq_true, decide_eq_true_eq] at hxy
          rcases hxy with h | ⟨h, _⟩
          · exact h
          · exact absurd h.symm hb.2
        rcases List.mem_cons.1 hm with rfl | hm
        · exact hs
        · exact slt_le_trans hs (eLess_key ((List.pairwise_cons.1 hp).1 v hm))
      · obtain ⟨h1, h2⟩ := List.pairwise_cons.1 h
        refine List.pairwise_cons.2 ⟨fun g hg u hu v hv => ?_, h2⟩
        rcases List.mem_cons.1 hu with rfl | hu
        · have hy : y ∈ c := by
            have hcp := pieces_pos c (show c ∈ pieces (if brkP n u y then 0 else n + 1) (y :: l) by rw [h0]; exact List.mem_cons_self ..)
            cases c with
            | nil => simp at hcp
            | cons z c =>
              have : z :: (c ++ cs.flatten) = y :: l := by simpa using hfl
              injection this with h1 _
              rw [h1]; exact List.mem_cons_self ..
          have := h1 g hg y hy v hv
          exact le_slt_trans (eLess_key (hx y (List.mem_cons_self ..))) this
        · exact h1 g hg u hu v hv
/-- The runs that entries in order are cut into. -/
def cutL (l : List Ent) : List Rn := (pieces 0 l).map mkRun
def cutOk (l : List Ent) : Bool := (pieces 0 l).all fun c => decide (c.length ≤ 150)
end Ev
namespace Ev
open Go
/-! ## Runs that meet a range -/
def meetsB (r : Rn) (low high : ByteArray) : Bool := !slt high (lowK r) && !slt (highK r) low
def inL (l : List Rn) (low high : ByteArray) : List Rn := l.filter fun r => meetsB r low high
def offL (l : List Rn) (low high : ByteArray) : List Rn := l.filter fun r => !meetsB r low high
def fromI (l : List Rn) (low : ByteArray) : Nat := (l.takeWhile fun r => slt (highK r) low).length
def toI (l : List Rn) (high : ByteArray) : Nat := (l.takeWhile fun r => !slt high (lowK r)).length
def ApartP (l : List Rn) : Prop := l.Pairwise fun a b => slt (highK a) (lowK b) = true
theorem slt_le {a b c : ByteArray} (h : slt a b = true) (h2 : slt c b = false) : slt c a = false := by
  cases h3 : slt c a with
  | false => rfl
  | true => rw [le_slt_trans (a := c) (b := c) (c := b) (slt_irr _) (slt_le_trans h3 (slt_asym h))] at h2; cases h2
theorem fromI_spec {l : List Rn} {low : ByteArray} (hr : ∀ r ∈ l, runOk r = true) (ha : ApartP l) : fromI l low ≤ l.length ∧ (∀ i (h : i < l.length), i < fromI l low → slt (highK l[i]) low = true) ∧ (∀ i (h : i < l.length), fromI l low ≤ i → slt (highK l[i]) low = false) := by
  have hle : fromI l low ≤ l.length := (List.takeWhile_sublist _).length_le
  refine ⟨hle, fun i h h1 => tw_lt (fun r => slt (highK r) low) l i h1 h, fun i h h1 => ?_⟩
  refine tw_ge (fun r => slt (highK r) low) (fun a b => slt (highK a) (highK b) = true) (fun x y hxy hy => ?_) l ?_ i h1 h
  · exact slt_le_trans hxy (slt_asym hy)
  · refine ha.imp_of_mem fun {a b} ha hb hab => slt_le_trans hab (low_high (hr b hb))
theorem toI_spec {l : List Rn} {high : ByteArray} (hr : ∀ r ∈ l, runOk r = true) (ha : ApartP l) : toI l high ≤ l.length ∧ (∀ i (h : i < l.length), i < toI l high → slt high (lowK l[i]) = false) ∧ (∀ i (h : i < l.length), toI l high ≤ i → slt high (lowK l[i]) = true) := by
  have hle : toI l high ≤ l.length := (List.takeWhile_sublist _).length_le
  refine ⟨hle, fun i h h1 => ?_, fun i h h1 => ?_⟩
  · have := tw_lt (fun r => !slt high (lowK r)) l i h1 h
    simpa using this
  · have := tw_ge (fun r => !slt high (lowK r)) (fun a b => slt (lowK a) (lowK b) = true) (fun x y hxy hy => ?_) l ?_ i h1 h
    · simpa using this
    · have hy : slt high (lowK y) = false := by simpa using hy
      rw [slt_le hxy hy]; rfl
    · refine ha.imp_of_mem fun {a b} ha hb hab => le_slt_trans (low_high (hr a ha)) hab
end Ev
namespace Ev
open Go
theorem mem_take_ix {α : Type} {l : List α} {k : Nat} {x : α} (h : x ∈ l.take k) : ∃ i, ∃ hi : i < l.length, i < k ∧ l[i] = x := by
  obtain ⟨i, hi, rfl⟩ := List.getElem_of_mem h
  rw [List.length_take] at hi
  exact ⟨i, by omega, by omega, by rw [List.getElem_take]⟩
theorem mem_drop_ix {α : Type} {l : List α} {k : Nat} {x : α} (h : x ∈ l.drop k) : ∃ i, ∃ hi : i < l.length, k ≤ i ∧ l[i] = x := by
  obtain ⟨i, hi, rfl⟩ := List.getElem_of_mem h
  rw [List.length_drop] at hi
  exact ⟨k + i, by omega, by omega, by rw [List.getElem_drop]⟩
theorem filter_all {α : Type} {p : α → Bool} {l : List α} (h : ∀ x ∈ l, p x = true) : l.filter p = l := List.filter_eq_self.2 h
theorem filter_non {α : Type} {p : α → Bool} {l : List α} (h : ∀ x ∈ l, p x = false) : l.filter p = [] := List.filter_eq_nil_iff.2 fun x hx => by rw [h x hx]; simp
theorem meet_split {l : List Rn} {low high : ByteArray} (hr : ∀ r ∈ l, runOk r = true) (ha : ApartP l) :
    inL l low high = (l.take (max (fromI l low) (toI l high))).drop (fromI l low) ∧ offL l low high = l.take (fromI l low) ++ l.drop (max (fromI l low) (toI l high)) := by
  obtain ⟨f1, f2, f3⟩ := fromI_spec (low := low) hr ha
  obtain ⟨t1, t2, t3⟩ := toI_spec (high := high) hr ha
  generalize fromI l low = f at *
  generalize toI l high = t at *
  have hA : ∀ r ∈ l.take f, meetsB r low high = false := fun r h => by
    obtain ⟨i, hi, h1, rfl⟩ := mem_take_ix h
    unfold meetsB; rw [f2 i hi h1]; simp
  have hM : ∀ r ∈ (l.take (max f t)).drop f, meetsB r low high = true := fun r h => by
    obtain ⟨i, hi, h1, h2⟩ := mem_drop_ix h
    rw [List.length_take] at hi
    rw [List.getElem_take] at h2
    subst h2
    unfold meetsB
    rw [t2 i (by omega) (by omega), f3 i (by omega) h1]; rfl
  have hB : ∀ r ∈ l.drop (max f t), meetsB r low high = false := fun r h => by
    obtain ⟨i, hi, h1, rfl⟩ := mem_drop_ix h
    unfold meetsB; rw [t3 i hi (by omega)]; rfl
  have hl : l = l.take f ++ ((l.take (max f t)).drop f ++ l.drop (max f t)) := by
    have e1 : l.take f = (l.take (max f t)).take f := by rw [List.take_take, Nat.min_eq_left (by omega)]
    rw [← List.append_assoc, e1, List.take_append_drop, List.take_append_drop]
  have hin : inL l low high = inL (l.take f ++ ((l.take (max f t)).drop f ++ l.drop (max f t))) low high := by rw [← hl]
  have hoff : offL l low high = offL (l.take f ++ ((l.take (max f t)).drop f ++ l.drop (max f t))) low high := by rw [← hl]
  rw [hin, hoff]
  unfold inL offL
  rw [List.filter_append, List.filter_append, List.filter_append, List.filter_append, filter_non hA, filter_all hM, filter_non hB, filter_all (l := l.take f) fun r h => by rw [hA r h]; rfl, filter_non (l := (l.take (max f t)).drop f) fun r h => by rw [hM r h]; rfl, filter_all (l := l.drop (max f t)) fun r h => by rw [hB r h]; rfl]
  simp
/-! ## The range of runs -/
def minB (a b : ByteArray) : ByteArray := if slt b a then b else a
def maxB (a b : ByteArray) : ByteArray := if slt a b then b else a
def lowR : List Rn → ByteArray
  | [] => ⟨#[]⟩
  | r :: l => l.foldl (fun m r => minB m (lowK r)) (lowK r)
def highR : List Rn → ByteArray
  | [] => ⟨#[]⟩
  | r :: l => l.foldl (fun m r => maxB m (highK r)) (highK r)
theorem minB_le (a b : ByteArray) : slt a (minB a b) = false ∧ slt b (minB a b) = false := by
  unfold minB
  split
  · rename_i h; exact ⟨slt_asym h, slt_irr _⟩
  · rename_i h; exact ⟨slt_irr _, by simpa using h⟩
theorem maxB_le (a b : ByteArray) : slt (maxB a b) a = false ∧ slt (maxB a b) b = false := by
  unfold maxB
  split
  · rename_i h; exact ⟨slt_asym h, slt_irr _⟩
  · rename_i h; exact ⟨slt_irr _, by simpa using h⟩
theorem le_tr {a b c : ByteArray} (h : slt b a = false) (h2 : slt c b = false) : slt c a = false := by
  cases h3 : slt c a with
  | false => rfl
  | true => rw [slt_le_trans h3 h] at h2; cases h2
theorem fold_min : ∀ (l : List Rn) (m : ByteArray), slt m (l.foldl (fun m r => minB m (lowK r)) m) = false ∧ (∀ r ∈ l, slt (lowK r) (l.foldl (fun m r => minB m (lowK r)) m) = false) ∧ (l.foldl (fun m r => minB m (lowK r)) m = m ∨ ∃ r ∈ l, l.foldl (fun m r => minB m (lowK r)) m = lowK r) := by
  intro l
  induction l with
  | nil => intro m; exact ⟨slt_irr _, fun r h => (nomatch h), .inl rfl⟩
  | cons r l ih =>
    intro m
    rw [List.foldl_cons]
    obtain ⟨h1, h2, h3⟩ := ih (minB m (lowK r))
    obtain ⟨g1, g2⟩ := minB_le m (lowK r)
    refine ⟨le_tr h1 g1, fun x hx => ?_, ?_⟩
    · rcases List.mem_cons.1 hx with rfl | hx
      · exact le_tr h1 g2
      · exact h2 x hx
    · rcases h3 with h3 | ⟨x, hx, h3⟩
      · rw [h3]
        unfold minB
        split
        · exact .inr ⟨r, List.mem_cons_self .., rfl⟩
        · exact .inl rfl
      · exact .inr ⟨x, List.mem_cons_of_mem _ hx, h3⟩
theorem fold_max : ∀ (l : List Rn) (m : ByteArray), slt (l.foldl (fun m r => maxB m (highK r)) m) m = false ∧ (∀ r ∈ l, slt (l.foldl (fun m r => maxB m (highK r)) m) (highK r) = false) ∧ (l.foldl (fun m r => maxB m (highK r)) m = m ∨ ∃ r ∈ l, l.foldl (fun m r => maxB m (highK r)) m = highK r) := by
  intro l
  induction l with
  | nil => intro m; exact ⟨slt_irr _, fun r h => (nomatch h), .inl rfl⟩
  | cons r l ih =>
    intro m
    rw [List.foldl_cons]
    obtain ⟨h1, h2, h3⟩ := ih (maxB m (highK r))
    obtain ⟨g1, g2⟩ := maxB_le m (highK r)
    refine ⟨le_tr g1 h1, fun x hx => ?_, ?_⟩
    · rcases List.mem_cons.1 hx with rfl | hx
      · exact le_tr g2 h1
      · exact h2 x hx
    · rcases h3 with h3 | ⟨x, hx, h3⟩
      · rw [h3]
        unfold maxB
        split
        · exact .inr ⟨r, List.mem_cons_self .., rfl⟩
        · exact .inl rfl
      · exact .inr ⟨x, List.mem_cons_of_mem _ hx, h3⟩
theorem lowR_spec {l : List Rn} (h : l ≠ []) : (∀ r ∈ l, slt (lowK r) (lowR l) = false) ∧ ∃ r ∈ l, lowR l = lowK r := by
  cases l with
  | nil => exact absurd rfl h
  | cons r l =>
    obtain ⟨h1, h2, h3⟩ := fold_min l (lowK r)
    refine ⟨fun x hx => ?_, ?_⟩
    · rcases List.mem_cons.1 hx with rfl | hx
      · exact h1
      · exact h2 x hx
    · rcases h3 with h3 | ⟨x, hx, h3⟩
      · exact ⟨r, List.mem_cons_self .., h3⟩
      · exact ⟨x, List.mem_cons_of_mem _ hx, h3⟩
theorem highR_spec {l : List Rn} (h : l ≠ []) : (∀ r ∈ l, slt (highR l) (highK r) = false) ∧ ∃ r ∈ l, highR l = highK r := by
  cases l with
  | nil => exact absurd rfl h
  | cons r l =>
    obtain ⟨h1, h2, h3⟩ := fold_max l (highK r)
    refine ⟨fun x hx => ?_, ?_⟩
    · rcases List.mem_cons.1 hx with rfl | hx
      · exact h1
      · exact h2 x hx
    · rcases h3 with h3 | ⟨x, hx, h3⟩
      · exact ⟨r, List.mem_cons_self .., h3⟩
      · exact ⟨x, List.mem_cons_of_mem _ hx, h3⟩
end Ev

/-! ## slices.Grow of nothing, by the library's contract -/
namespace Ev
open Go Go.Proofs
theorem Keeps.same {w : World} {ow : Own} : Keeps w w ow := ⟨rfl, rfl, rfl, Nat.le_refl _, fun _ _ _ => rfl⟩
theorem grow_ok {P : Program} {ρ : Go.Shelf.Ren} (L : Lays8.n4 P ρ) {f : FuncId} (hf : ρ.f 4 = f) {e : TypeId} (he : ρ.t 25 = e) {i0 : TypeInfo} {z : Value} (hi0 : P.info? e = some i0) (hz0 : i0.zero = some z) (hs0 : 0 < i0.size) (hzc : z.cells.size = P.cellsOf e) (hp : 0 < P.cellsOf e)
    (n : Nat) (hb : n * i0.bytes ≤ 140737488355328) (hn : n ≤ 4611686018427387904) : AFn P f [.one (.c (.v nilV)), av (.int .i64 n)] [] (.one (.us e [])) [] := by
  subst hf; subst he
  refine ⟨L.f4.enters rfl, ?_⟩
  intro w F0 ow0 Lp vs hF how _ _ hlen hargs
  match vs, hlen with
  | [v0, v1], _ =>
    have h0 := avr_one_v (hargs 0 _ v0 rfl rfl)
    have h1 := avr_one_v (hargs 1 _ v1 rfl rfl)
    subst h0; subst h1
    rcases Nat.eq_zero_or_pos n with h | h
    · subst h
      refine (Any8.slices_Grow_room L none 0 0 0 w (Nat.le_refl _) (by omega) (by omega) (by omega)).mono ?_
      rintro e w' ⟨rfl, rfl⟩
      refine ⟨nilV, fun _ => none, rfl, Keeps.same, fun _ _ h => (nomatch h), .one (.us (inner := []) (World.ownsRow_nil w' 0 _ _) hp (by simp) (fun g hg => nomatch hg) (by simp)), rfl, fun id cells h => by simp at h⟩
    · refine (Any8.slices_Grow_grow L i0 z hi0 hz0 hs0 none 0 0 n [] w (Nat.le_refl _) (by omega) (by rw [Nat.zero_add]; exact hb) (by omega) (by simp) (fun _ => rfl) (fun a h => nomatch h)).mono ?_
      rintro e w' ⟨rfl, rfl⟩
      have hge := grownCap_ge w (0 + n) 0 (ρ.t 25)
      have hle := grownCap_le_maxLen w (0 + n) 0 (ρ.t 25) (by unfold maxLen; omega)
      generalize grownCap w (0 + n) 0 (ρ.t 25) = cap at *
      refine ⟨_, fun k => if k = w.heap.size then some [0, 0] else none, rfl, ⟨rfl, rfl, rfl, by simp, fun k hk _ => ?_⟩, fun k p hkp => ?_, ?_, rfl, fun id cells h => by simp at h⟩
      · show (w.heap.push _)[k]? = _
        rw [Array.getElem?_push, if_neg (Nat.ne_of_lt hk)]
      · by_cases hk : k = w.heap.size
        · subst hk; exact ⟨by simp, .inr (Nat.le_refl _)⟩
        · simp [hk] at hkp
      · refine .one (.us (rows := []) (inner := []) ⟨by simp, .inr ⟨w.heap.size, cap, _, rfl, Nat.zero_le _, by show (w.heap.push _)[w.heap.size]? = _; rw [Array.getElem?_push, if_pos rfl], Nat.zero_le _, hle, ?_, by simp⟩⟩ hp (by simp) (fun g hg => ?_) (by simp))
        · simp only [Array.size_append, size_zeroCells, hzc, List.size_toArray, List.length_nil]
          rw [Nat.zero_add, ← Nat.add_mul]
          congr 1; omega
        · injection hg with hg; subst hg; simp
end Ev

/-! Ranges over functions. -/
namespace Ev
open Go
/-- What a callee leaves as it was. -/
theorem Keeps.grown {w w' : World} (h : Keeps w w' fun _ => none) : w.grownBy w' none :=
  ⟨h.os, h.tape, h.output, h.size, fun k hk _ => h.block k hk rfl⟩
end Ev
namespace Ev
open Go
/-- The machine in the middle of another walk: what it may read is frozen. -/
theorem ev_at {E : Env} (hE : EOk E) (hm : E.m = 0) {c : Code} {K : Exit → St → Prop} {sl : List (Option AV)} {k : Nat} {a : Act} {W : World} {F0 : Frs} (h0 : ∀ k, F0 k → k < W.heap.size) (hlen : sl.length = a.tmps.size)
    (hs : ∀ (n : Nat) (av : AV), sl[n]? = some (some av) → ∃ v, a.tmps[n]? = some v ∧ AVR E.P W F0 (fun _ => .vals []) (List.replicate k ⟨0, 0, none⟩) av v) (hev : ev E c ⟨sl, List.replicate k ⟨0, 0, none⟩⟩ K) :
    c.wp E.P (Post E ⟨W, F0, fun _ => none, 0, fun _ => .vals [], a.defers⟩ K) a W := by
  refine ev_sound hE (x := ⟨W, F0, fun _ => none, 0, fun _ => .vals [], a.defers⟩) hm.symm c _ _ _ W (fun _ => .vals []) (fun _ => none) hev ?_
  have nob : ∀ {id : Nat} {ob : Ob} {cells : List C}, (List.replicate k (⟨0, 0, none⟩ : Ob))[id]? = some ob → ob.cells = some cells → False := fun {id ob cells} h1 h2 => by
    rw [List.getElem?_replicate] at h1
    split at h1
    · injection h1 with h1; subst h1; cases h2
    · cases h1
  refine ⟨fun k hk => ⟨h0 k hk, rfl⟩, ⟨rfl, rfl, rfl, Nat.le_refl _, fun _ _ _ => rfl⟩, fun k p hk => (nomatch hk), fun n av hn => ?_, fun id ob cells h1 h2 => (nob h1 h2).elim, fun id ob cells h1 h2 _ => (nob h1 h2).elim, rfl, hlen, fun id hid => absurd hid (Nat.not_lt_zero _)⟩
  obtain ⟨v, h1, h2⟩ := hs n av hn
  exact ⟨v, h1, h2.step (fun k hk => ⟨rfl, .inl hk⟩) (fun id ob cells h1 h2 => (nob h1 h2).elim)⟩
end Ev
