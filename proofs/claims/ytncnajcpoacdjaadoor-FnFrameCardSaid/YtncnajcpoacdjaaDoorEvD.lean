/-
  An abstract machine, sound for the model: part 4.
-/
import Derived.Test.YtncnajcpoacdjaaDoorEvC
import Derived.Lib.ItoaNum
import Derived.Lib.AtoiAll
import Derived.Lib.Atoi
import Derived.Shelf.Spec.SlicesGrow
import Derived.RangeFuncBox
import Derived.RangeFuncNested
import Derived.RangeFuncBound
import Derived.RangeFuncCalls
import Derived.RangeFuncLeaves
import Derived.Shelf.RegionOpen
import Derived.WalkKit
import Derived.OwnWalkIn
import Derived.TacticsInMore
import Derived.LoopNIn
import Derived.LoopIn
import Derived.Maps.AppendAt
import Derived.Deep.RegionHeld3
import Derived.Shelf.Strings.BuilderK
import Derived.Lib.AppendStr
import Derived.Shelf.LaysM
import Derived.Shelf.LaysC
import Derived.Shelf.Strconv.Itoa3
import Derived.Shelf.Strconv.AtoiAll
import Derived.Shelf.Small.Strs
import Derived.Lib.AtoiTie
import Derived.Lib.AtoiAllCases
import Derived.Lib.Bytealg
import Derived.Lib.LaidTab
import Derived.LaidLaws
set_option linter.unusedVariables false
set_option linter.unusedSimpArgs false
/-! Squashed entries, plain. -/
namespace Ev
open Go
/-- Parts of a list between whose neighbours there is a break. -/
def groups {α : Type} (br : α → α → Bool) : List α → List (List α)
  | [] => []
  | x :: l => match l, groups br l with
    | y :: _, c :: cs => if br x y then [x] :: c :: cs else (x :: c) :: cs
    | _, _ => [[x]]
theorem groups_ne {α : Type} {br : α → α → Bool} {x : α} {l : List α} : ∃ c cs, groups br (x :: l) = c :: cs := by
  unfold groups
  split
  · split <;> exact ⟨_, _, rfl⟩
  · exact ⟨_, _, rfl⟩
theorem groups_split {α : Type} {br : α → α → Bool} : ∀ {l : List α} {k : Nat}, 0 < k → k ≤ l.length → (∀ j (h1 : 0 < j) (_ : j < k) (h3 : j < l.length), br (l[j - 1]'(by omega)) l[j] = false) →
    (∀ (h : k < l.length), br (l[k - 1]'(by omega)) l[k] = true) → groups br l = l.take k :: groups br (l.drop k) := by
  intro l
  induction l with
  | nil => intro k h1 h2; simp at h2; omega
  | cons x l ih =>
    intro k h1 h2 h3 h4
    cases l with
    | nil =>
      have : k = 1 := by simp at h2; omega
      subst this
      rfl
    | cons y l =>
      obtain ⟨c, cs, hc⟩ := groups_ne (br := br) (x := y) (l := l)
      by_cases hk : k = 1
      · subst hk
        have hb : br x y = true := h4 (by simp)
        show groups br (x :: y :: l) = [x] :: groups br (y :: l)
        rw [hc]
        conv => lhs; unfold groups
        simp only [hc, hb, if_true]
      · have hb : br x y = false := h3 1 (by omega) (by omega) (by simp)
        have h := ih (k := k - 1) (by omega) (by simp at h2 ⊢; omega) (fun j g1 g2 g3 => by
          have := h3 (j + 1) (by omega) (by omega) (by simp at g3 ⊢; omega)
          obtain ⟨j', rfl⟩ : ∃ j', j = j' + 1 := ⟨j - 1, by omega⟩
          simpa using this) (fun g => by
          have := h4 (by simp at g ⊢; omega)
          obtain ⟨k', rfl⟩ : ∃ k', k = k' + 2 := ⟨k - 2, by omega⟩
          simpa using this)
        obtain ⟨k', rfl⟩ : ∃ k', k = k' + 1 := ⟨k - 1, by omega⟩
        rw [List.take_succ_cons, List.drop_succ_cons]
        simp only [Nat.add_sub_cancel] at h
        conv => lhs; unfold groups
        rw [h]
        simp [hb]
theorem groups_cons {α : Type} {br : α → α → Bool} {x y : α} {l : List α} {c : List α} {cs : List (List α)} (hc : groups br (y :: l) = c :: cs) : groups br (x :: y :: l) = if br x y then [x] :: c :: cs else (x :: c) :: cs := by
  conv => lhs; unfold groups
  simp only [hc]
theorem groups_flat {α : Type} {br : α → α → Bool} : ∀ (l : List α), (groups br l).flatten = l := by
  intro l
  induction l with
  | nil => rfl
  | cons x l ih =>
    cases l with
    | nil => rfl
    | cons y l =>
      obtain ⟨c, cs, hc⟩ := groups_ne (br := br) (x := y) (l := l)
      rw [groups_cons hc]
      rw [hc] at ih
      split <;> simpa using ih
/-- A time that is kept is between two entries. -/
def partS (snaps : List Int) (older newer : Int) : Bool := snaps.any fun s => decide (older ≤ s) && decide (s < newer)
theorem partS_true {snaps : List Int} {o n : Int} {i : Nat} (hi : i < snaps.length) (h1 : o ≤ snaps[i]) (h2 : snaps[i] < n) : partS snaps o n = true :=
  List.any_eq_true.2 ⟨_, List.getElem_mem hi, by simp [h1, h2]⟩
theorem partS_false {snaps : List Int} {o n : Int} (h : ∀ i, i < snaps.length → ∀ hi : i < snaps.length, ¬ (o ≤ snaps[i] ∧ snaps[i] < n)) : partS snaps o n = false := by
  rw [Bool.eq_false_iff]
  intro ht
  obtain ⟨s, hs, h2⟩ := List.any_eq_true.1 ht
  obtain ⟨i, hi, rfl⟩ := List.mem_iff_getElem.1 hs
  simp at h2
  exact h i hi hi h2
/-- One entry for some of one key, the newest first. -/
def oneFrom (first : Bool) (acc : Ent) : List Ent → Ent
  | [] => acc
  | e :: l => if e.kind = 3 then oneFrom false { acc with n := acc.n + e.n } l
    else if e.kind = 1 then { acc with kind := 1, text := e.text, n := acc.n + e.n }
    else { acc with kind := if first then 2 else 1 }
def oneE : List Ent → Ent
  | [] => ⟨⟨#[]⟩, 0, 3, ⟨#[]⟩, 0⟩
  | e :: l => oneFrom true ⟨e.key, e.seq, 3, ⟨#[]⟩, 0⟩ (e :: l)
theorem oneFrom_1 {b : Bool} {acc e : Ent} {l : List Ent} (h : e.kind = 1) : oneFrom b acc (e :: l) = { acc with kind := 1, text := e.text, n := acc.n + e.n } := by simp [oneFrom, h]
theorem oneFrom_2 {b : Bool} {acc e : Ent} {l : List Ent} (h : e.kind = 2) : oneFrom b acc (e :: l) = { acc with kind := if b then 2 else 1 } := by simp [oneFrom, h]
theorem oneFrom_3 {b : Bool} {acc e : Ent} {l : List Ent} (h : e.kind = 3) : oneFrom b acc (e :: l) = oneFrom false { acc with n := acc.n + e.n } l := by simp [oneFrom, h]
theorem entOk_kind {e : Ent} (h : entOk e = true) : (-1000000 ≤ e.n ∧ e.n ≤ 1000000) ∧ (e.kind = 1 ∨ (e.kind = 2 ∧ e.n = 0) ∨ e.kind = 3) := by
  simp only [entOk, sumOk, Bool.and_eq_true, Bool.or_eq_true, decide_eq_true_eq] at h
  obtain ⟨_, _, _, _, h1, h2⟩ := h
  refine ⟨h1, ?_⟩
  rcases h2 with (h2 | ⟨h2, _, h3⟩) | ⟨h2, _⟩
  · exact .inl h2
  · exact .inr (.inl ⟨h2, h3⟩)
  · exact .inr (.inr h2)
/-- What is left of a class. -/
def classE (c : List Ent) (last : Bool) : List Ent :=
  if sumOk (oneE c).n then
    if last && decide ((oneE c).kind = 2) then [] else if last && decide ((oneE c).kind = 3) then [{ oneE c with kind := 1 }] else [oneE c]
  else c
/-- What is left of the classes of a key; and whether nothing is. -/
def leftE (last : Bool) : List (List Ent) → List Ent × Bool
  | [] => ([], last)
  | c :: cs => (classE c (leftE last cs).2 ++ (leftE last cs).1, (leftE last cs).2 && (classE c (leftE last cs).2).isEmpty)
def brS (snaps : List Int) (x y : Ent) : Bool := partS snaps y.seq x.seq
def brK (x y : Ent) : Bool := !decide (y.key = x.key)
def classesE (snaps : List Int) (l : List Ent) : List (List Ent) := groups (brS snaps) l
def squashK (snaps : List Int) (last : Bool) (l : List Ent) : List Ent := (leftE last (classesE snaps l)).1
def squash (l : List Ent) (snaps : List Int) (last : Bool) : List Ent := (groups brK l).flatMap (squashK snaps last)
end Ev
namespace Ev
theorem le_flatten {α : Type} {p : List α → Prop} {cs : List (List α)} {n : Nat} (hc : ∀ c ∈ cs, 0 < c.length ∧ p c) (hl : cs.flatten.length ≤ n) : cs.length ≤ n := by
  refine Nat.le_trans ?_ hl
  clear hl
  induction cs with
  | nil => simp
  | cons c cs ih =>
    have h1 := (hc c (List.mem_cons_self ..)).1
    have h2 := ih fun x hx => hc x (List.mem_cons_of_mem _ hx)
    simp only [List.flatten_cons, List.length_append, List.length_cons]
    omega
theorem leftE_cons {last : Bool} {c : List Ent} {cs : List (List Ent)} : leftE last (c :: cs) = (classE c (leftE last cs).2 ++ (leftE last cs).1, (leftE last cs).2 && (classE c (leftE last cs).2).isEmpty) := rfl
theorem classE_len {c : List Ent} {last : Bool} (h : 0 < c.length) : (classE c last).length ≤ c.length := by
  unfold classE
  split
  · split
    · simp
    · split <;> simp <;> omega
  · exact Nat.le_refl _
theorem leftE_len {last : Bool} {cs : List (List Ent)} (hc : ∀ c ∈ cs, 0 < c.length) : (leftE last cs).1.length ≤ cs.flatten.length := by
  induction cs with
  | nil => simp [leftE]
  | cons c cs ih =>
    rw [leftE_cons]
    have h1 := classE_len (c := c) (last := (leftE last cs).2) (hc c (List.mem_cons_self ..))
    have h2 := ih fun x hx => hc x (List.mem_cons_of_mem _ hx)
    simp only [List.flatten_cons, List.length_append]
    omega
end Ev
namespace Ev
theorem groups_len {α : Type} {br : α → α → Bool} : ∀ {l : List α}, (groups br l).length ≤ l.length := by
  intro l
  induction l with
  | nil => simp [groups]
  | cons x l ih =>
    cases l with
    | nil => simp [groups]
    | cons y l =>
      obtain ⟨c, cs, hc⟩ := groups_ne (br := br) (x := y) (l := l)
      rw [groups_cons hc]
      rw [hc] at ih
      split <;> simp at ih ⊢ <;> omega
end Ev
namespace Ev
theorem groups_pos {α : Type} {br : α → α → Bool} : ∀ {l : List α}, ∀ c ∈ groups br l, 0 < c.length := by
  intro l
  induction l with
  | nil => intro c hc; cases hc
  | cons x l ih =>
    cases l with
    | nil =>
      intro c hc
      have hc : c ∈ [[x]] := hc
      rw [List.mem_singleton.1 hc]; simp
    | cons y l =>
      obtain ⟨c0, cs, h0⟩ := groups_ne (br := br) (x := y) (l := l)
      rw [groups_cons h0]
      rw [h0] at ih
      intro c hc
      split at hc
      · rcases List.mem_cons.1 hc with rfl | hc
        · simp
        · exact ih c hc
      · rcases List.mem_cons.1 hc with rfl | hc
        · simp
        · exact ih c (List.mem_cons_of_mem _ hc)
theorem groups_mem {α : Type} {br : α → α → Bool} {l c : List α} {e : α} (hc : c ∈ groups br l) (he : e ∈ c) : e ∈ l := by
  rw [← groups_flat (br := br) l]
  exact List.mem_flatten.2 ⟨c, hc, he⟩
theorem groups_le {α : Type} {br : α → α → Bool} {l c : List α} (hc : c ∈ groups br l) : c.length ≤ l.length := by
  have h := (List.sublist_flatten_of_mem hc).length_le
  rwa [groups_flat] at h
theorem ordOk_all {l : List Ent} (h : ordOk l = true) : ∀ e ∈ l, entOk e = true := fun e he => by
  obtain ⟨j, hj, rfl⟩ := List.mem_iff_getElem.1 he
  exact ((ordOk_iff l).1 h j hj).1
theorem squashK_len {snaps : List Int} {last : Bool} {l : List Ent} : (squashK snaps last l).length ≤ l.length := by
  have h := leftE_len (last := last) (cs := classesE snaps l) fun c hc => groups_pos c hc
  rwa [classesE, groups_flat] at h
end Ev

/-! What is squashed tells what it told, plain. -/
namespace Ev
open Go
theorem wrap_mod (z : Int) : ∃ k : Int, IntKind.i64.wrap z = z + k * 18446744073709551616 ∧ -9223372036854775808 ≤ IntKind.i64.wrap z ∧ IntKind.i64.wrap z ≤ 9223372036854775807 := by
  have hm : z % 18446744073709551616 = z - 18446744073709551616 * (z / 18446744073709551616) := Int.emod_def ..
  have h1 := Int.emod_nonneg z (show (18446744073709551616 : Int) ≠ 0 by decide)
  have h2 := Int.emod_lt_of_pos z (show (0 : Int) < 18446744073709551616 by decide)
  by_cases h : z % 18446744073709551616 ≥ 9223372036854775808
  · have e : IntKind.i64.wrap z = z % 18446744073709551616 - 18446744073709551616 := by simp [IntKind.wrap, IntKind.bits, IntKind.signed]; omega
    exact ⟨-(z / 18446744073709551616) - 1, by rw [e]; omega, by rw [e]; omega, by rw [e]; omega⟩
  · have e : IntKind.i64.wrap z = z % 18446744073709551616 := by simp [IntKind.wrap, IntKind.bits, IntKind.signed]; omega
    exact ⟨-(z / 18446744073709551616), by rw [e]; omega, by rw [e]; omega, by rw [e]; omega⟩
theorem wrap_uniq {a b k : Int} (h : a = b + k * 18446744073709551616) : IntKind.i64.wrap a = IntKind.i64.wrap b := by
  obtain ⟨i, h1, h2, h3⟩ := wrap_mod a
  obtain ⟨j, g1, g2, g3⟩ := wrap_mod b
  omega
theorem wrap_add (a b : Int) : IntKind.i64.wrap (IntKind.i64.wrap a + b) = IntKind.i64.wrap (a + b) := by
  obtain ⟨i, h1, _, _⟩ := wrap_mod a
  exact wrap_uniq (k := i) (by omega)
/-- What a cell has behind entries, the newest first. -/
def runC (c : Cel) (l : List Ent) : Cel := l.foldr (fun e c => cellDo c e) c
theorem runC_cons (c : Cel) (e : Ent) (l : List Ent) : runC c (e :: l) = cellDo (runC c l) e := rfl
theorem runC_app (c : Cel) (a b : List Ent) : runC c (a ++ b) = runC (runC c b) a := List.foldr_append ..
/-- All the entries are of these kinds. -/
def KindOk (l : List Ent) : Prop := ∀ e ∈ l, e.kind = 1 ∨ e.kind = 2 ∨ e.kind = 3
theorem oneFrom_run {c1 : Cel} : ∀ {l : List Ent} {acc : Ent}, KindOk l → acc.kind = 3 → acc.text = ⟨#[]⟩ → sumOk (oneFrom false acc l).n = true → cellDo c1 (oneFrom false acc l) = cellDo (runC c1 l) acc ∨ (oneFrom false acc l).kind = 1 ∧ ∀ c, cellDo c (oneFrom false acc l) = cellDo (runC c1 l) acc := by
  intro l
  induction l with
  | nil => intro acc _ _ _ _; exact .inl rfl
  | cons e l ih =>
    intro acc hk h3 ht hs
    rcases hk e (List.mem_cons_self ..) with h | h | h
    · rw [oneFrom_1 h] at hs ⊢
      refine .inr ⟨rfl, fun c => ?_⟩
      rw [runC_cons]
      simp only [cellDo, h, h3]
      simp only [sumOk, Bool.and_eq_true, decide_eq_true_eq] at hs
      simp only [show ¬ (3 : Int) = 1 by decide, show ¬ (3 : Int) = 2 by decide, if_false, if_true]
      rw [Int.add_comm, wrapI (by omega) (by omega), Int.add_comm]
    · rw [oneFrom_2 h] at hs ⊢
      refine .inr ⟨by simp, fun c => ?_⟩
      rw [runC_cons]
      simp only [sumOk, Bool.and_eq_true, decide_eq_true_eq] at hs
      simp [cellDo, h, h3, ht, cel0]
      rw [wrapI (by omega) (by omega)]
    · rw [oneFrom_3 h] at hs ⊢
      have hstep : cellDo (runC c1 l) { acc with n := acc.n + e.n } = cellDo (runC c1 (e :: l)) acc := by
        rw [runC_cons]
        simp [cellDo, h, h3]
        rw [wrap_add]
        congr 1; omega
      have := ih (acc := { acc with n := acc.n + e.n }) (fun x hx => hk x (List.mem_cons_of_mem _ hx)) h3 ht hs
      rw [hstep] at this
      exact this
theorem oneE_run {c1 : Cel} {c : List Ent} (hk : KindOk c) (hne : 0 < c.length) (hs : sumOk (oneE c).n = true) : cellDo c1 (oneE c) = runC c1 c := by
  cases c with
  | nil => simp at hne
  | cons e l =>
    have hk2 : KindOk l := fun x hx => hk x (List.mem_cons_of_mem _ hx)
    simp only [oneE] at hs ⊢
    rcases hk e (List.mem_cons_self ..) with h | h | h
    · rw [oneFrom_1 h, runC_cons]
      simp [cellDo, h]
    · rw [oneFrom_2 h, runC_cons]
      simp [cellDo, h]
    · rw [oneFrom_3 h] at hs ⊢
      have := oneFrom_run (c1 := c1) (acc := ⟨e.key, e.seq, 3, ⟨#[]⟩, 0 + e.n⟩) hk2 rfl rfl hs
      have hst : cellDo (runC c1 l) ⟨e.key, e.seq, 3, ⟨#[]⟩, 0 + e.n⟩ = runC c1 (e :: l) := by
        rw [runC_cons]; simp [cellDo, h]
      rw [hst] at this
      rcases this with h | ⟨_, h⟩
      · exact h
      · exact h c1
theorem oneFrom_kind {b : Bool} : ∀ {l : List Ent} {acc : Ent}, acc.text = ⟨#[]⟩ → acc.kind = 3 → (oneFrom b acc l).kind = 3 → (oneFrom b acc l).text = ⟨#[]⟩ := by
  intro l
  induction l generalizing b with
  | nil => intro acc h _ _; exact h
  | cons e l ih =>
    intro acc h h3 hk
    unfold oneFrom at hk ⊢
    split
    · rename_i he
      rw [if_pos he] at hk
      exact ih (acc := { acc with n := acc.n + e.n }) h h3 hk
    · rename_i he
      rw [if_neg he] at hk
      split
      · rename_i h1
        rw [if_pos h1] at hk
        simp at hk
      · exact h
theorem oneFrom_kinds {b : Bool} : ∀ {l : List Ent} {acc : Ent}, acc.kind = 3 → (oneFrom b acc l).kind = 1 ∨ (oneFrom b acc l).kind = 2 ∨ (oneFrom b acc l).kind = 3 := by
  intro l
  induction l generalizing b with
  | nil => intro acc h; exact .inr (.inr h)
  | cons e l ih =>
    intro acc h3
    unfold oneFrom
    split
    · exact ih (acc := { acc with n := acc.n + e.n }) h3
    · split
      · exact .inl rfl
      · show (if b = true then (2 : Int) else 1) = 1 ∨ _
        split
        · exact .inr (.inl rfl)
        · exact .inl rfl
theorem oneE_text {c : List Ent} (h : (oneE c).kind = 3) : (oneE c).text = ⟨#[]⟩ := by
  cases c with
  | nil => rfl
  | cons e l => exact oneFrom_kind (acc := ⟨e.key, e.seq, 3, ⟨#[]⟩, 0⟩) rfl rfl h
theorem classE_run {c1 : Cel} {c : List Ent} {b : Bool} (hk : KindOk c) (hne : 0 < c.length) (hb : b = true → c1 = cel0) : runC c1 (classE c b) = runC c1 c := by
  unfold classE
  split
  · rename_i hs
    have h := oneE_run (c1 := c1) hk hne hs
    split
    · rename_i hd
      rw [Bool.and_eq_true, decide_eq_true_iff] at hd
      rw [← h, hb hd.1]
      simp [cellDo, hd.2, runC]
    · split
      · rename_i hd
        rw [Bool.and_eq_true, decide_eq_true_iff] at hd
        rw [← h, hb hd.1]
        simp only [sumOk, Bool.and_eq_true, decide_eq_true_eq] at hs
        simp only [runC, List.foldr_cons, List.foldr_nil]
        simp [cellDo, hd.2, oneE_text hd.2, cel0]
        rw [wrapI (by omega) (by omega)]
      · exact h
  · rfl
theorem leftE_run {c0 : Cel} {last : Bool} (hl : last = true → c0 = cel0) : ∀ {cs : List (List Ent)}, (∀ c ∈ cs, 0 < c.length ∧ KindOk c) → runC c0 (leftE last cs).1 = runC c0 cs.flatten ∧ ((leftE last cs).2 = true → runC c0 (leftE last cs).1 = cel0) := by
  intro cs
  induction cs with
  | nil => intro _; exact ⟨rfl, fun h => hl h⟩
  | cons c cs ih =>
    intro hc
    obtain ⟨h1, h2⟩ := ih fun x hx => hc x (List.mem_cons_of_mem _ hx)
    obtain ⟨k1, k2⟩ := hc c (List.mem_cons_self ..)
    rw [leftE_cons, List.flatten_cons, runC_app, runC_app, h1]
    refine ⟨classE_run k2 k1 fun hb => by rw [← h1]; exact h2 hb, fun hb => ?_⟩
    rw [Bool.and_eq_true] at hb
    rw [List.isEmpty_iff.1 hb.2]
    show runC c0 cs.flatten = cel0
    rw [← h1]; exact h2 hb.1

/-! ## By times -/
/-- No time that is kept, this one too, parts two that follow one another. -/
def Whole (t : Int) (c : List Ent) : Prop := ∀ j (h1 : j + 1 < c.length), ¬ (c[j + 1].seq ≤ t ∧ t < (c[j]'(by omega)).seq)
def Desc (l : List Ent) : Prop := l.Pairwise fun x y => y.seq < x.seq
theorem whole_le {t : Int} {c : List Ent} (h : Desc c) (hne : 0 < c.length) (h0 : c[0].seq ≤ t) : ∀ e ∈ c, e.seq ≤ t := by
  intro e he
  obtain ⟨i, hi, rfl⟩ := List.getElem_of_mem he
  cases i with
  | zero => exact h0
  | succ i =>
    have := List.pairwise_iff_getElem.1 h 0 (i + 1) hne hi (by omega)
    omega
theorem whole_gt {t : Int} {c : List Ent} (hw : Whole t c) (hne : 0 < c.length) (h0 : t < c[0].seq) : ∀ e ∈ c, ¬ e.seq ≤ t := by
  intro e he
  obtain ⟨i, hi, rfl⟩ := List.getElem_of_mem he
  induction i with
  | zero => omega
  | succ i ih =>
    have h1 := ih (by omega) (List.getElem_mem _)
    have h2 := hw i hi
    intro h3
    exact h2 ⟨h3, by omega⟩
def upTo (t : Int) (l : List Ent) : List Ent := l.filter fun e => decide (e.seq ≤ t)
theorem upTo_app (t : Int) (a b : List Ent) : upTo t (a ++ b) = upTo t a ++ upTo t b := List.filter_append ..
theorem upTo_all {t : Int} {l : List Ent} (h : ∀ e ∈ l, e.seq ≤ t) : upTo t l = l := List.filter_eq_self.2 fun e he => decide_eq_true (h e he)
theorem upTo_none {t : Int} {l : List Ent} (h : ∀ e ∈ l, ¬ e.seq ≤ t) : upTo t l = [] := List.filter_eq_nil_iff.2 fun e he => by simpa using h e he
theorem oneFrom_seq {b : Bool} : ∀ {l : List Ent} {acc : Ent}, (oneFrom b acc l).seq = acc.seq ∧ (oneFrom b acc l).key = acc.key := by
  intro l
  induction l generalizing b with
  | nil => intro acc; exact ⟨rfl, rfl⟩
  | cons e l ih =>
    intro acc
    unfold oneFrom
    split
    · exact ih (acc := { acc with n := acc.n + e.n })
    · split <;> exact ⟨rfl, rfl⟩
theorem oneE_seq {e : Ent} {l : List Ent} : (oneE (e :: l)).seq = e.seq ∧ (oneE (e :: l)).key = e.key := oneFrom_seq (acc := ⟨e.key, e.seq, 3, ⟨#[]⟩, 0⟩)
/-- What is left of a class has its times, or the first of them alone. -/
theorem classE_mem {c : List Ent} {b : Bool} (hne : 0 < c.length) {x : Ent} (hx : x ∈ classE c b) : (∃ e ∈ c, x.seq = e.seq ∧ x.key = e.key) ∧ (x ∈ c ∨ x.seq = c[0].seq) := by
  cases c with
  | nil => simp at hne
  | cons e l =>
    obtain ⟨h1, h2⟩ := oneE_seq (e := e) (l := l)
    have key : ∀ y : Ent, y.seq = e.seq → y.key = e.key → (∃ e' ∈ e :: l, y.seq = e'.seq ∧ y.key = e'.key) ∧ (y ∈ e :: l ∨ y.seq = (e :: l)[0].seq) := fun y h h' => ⟨⟨e, List.mem_cons_self .., h, h'⟩, .inr h⟩
    unfold classE at hx
    split at hx
    · split at hx
      · cases hx
      · split at hx
        · rw [List.mem_singleton.1 hx]; exact key _ h1 h2
        · rw [List.mem_singleton.1 hx]; exact key _ h1 h2
    · exact ⟨⟨x, hx, rfl, rfl⟩, .inl hx⟩
theorem classE_upTo {t : Int} {c : List Ent} {b : Bool} (hd : Desc c) (hw : Whole t c) (hne : 0 < c.length) : upTo t (classE c b) = if c[0].seq ≤ t then classE c b else [] := by
  split
  · rename_i h0
    refine upTo_all fun x hx => ?_
    obtain ⟨⟨e, he, h1, _⟩, _⟩ := classE_mem hne hx
    rw [h1]; exact whole_le hd hne h0 e he
  · rename_i h0
    refine upTo_none fun x hx => ?_
    obtain ⟨⟨e, he, h1, _⟩, _⟩ := classE_mem hne hx
    rw [h1]; exact whole_gt hw hne (by omega) e he
theorem upTo_class {t : Int} {c : List Ent} (hd : Desc c) (hw : Whole t c) (hne : 0 < c.length) : upTo t c = if c[0].seq ≤ t then c else [] := by
  split
  · rename_i h0; exact upTo_all (whole_le hd hne h0)
  · rename_i h0; exact upTo_none (whole_gt hw hne (by omega))
theorem leftE_upTo {t : Int} {c0 : Cel} {last : Bool} (hl : last = true → c0 = cel0) : ∀ {cs : List (List Ent)}, (∀ c ∈ cs, 0 < c.length ∧ KindOk c ∧ Whole t c) → Desc cs.flatten →
    runC c0 (upTo t (leftE last cs).1) = runC c0 (upTo t cs.flatten) := by
  intro cs
  induction cs with
  | nil => intro _ _; rfl
  | cons c cs ih =>
    intro hc hd
    obtain ⟨k1, k2, k3⟩ := hc c (List.mem_cons_self ..)
    rw [List.flatten_cons] at hd ⊢
    obtain ⟨d1, d2, d3⟩ := List.pairwise_append.1 hd
    rw [leftE_cons, upTo_app, upTo_app, runC_app, runC_app, classE_upTo d1 k3 k1, upTo_class d1 k3 k1]
    split
    · rename_i h0
      have hle := whole_le d1 k1 h0
      have hall : ∀ e ∈ cs.flatten, e.seq ≤ t := fun e he => by
        have := d3 c[0] (List.getElem_mem _) e he
        omega
      have hall2 : ∀ e ∈ (leftE last cs).1, e.seq ≤ t := fun e he => by
        have : ∀ {cs : List (List Ent)}, (∀ c ∈ cs, 0 < c.length) → ∀ e ∈ (leftE last cs).1, ∃ e' ∈ cs.flatten, e.seq = e'.seq := by
          intro cs
          induction cs with
          | nil => intro _ e he; cases he
          | cons c cs ih =>
            intro hc e he
            rw [leftE_cons] at he
            rcases List.mem_append.1 he with he | he
            · obtain ⟨⟨e', h1, h2, _⟩, _⟩ := classE_mem (hc c (List.mem_cons_self ..)) he
              exact ⟨e', by rw [List.flatten_cons]; exact List.mem_append_left _ h1, h2⟩
            · obtain ⟨e', h1, h2⟩ := ih (fun x hx => hc x (List.mem_cons_of_mem _ hx)) e he
              exact ⟨e', by rw [List.flatten_cons]; exact List.mem_append_right _ h1, h2⟩
        obtain ⟨e', h1, h2⟩ := this (fun x hx => (hc x (List.mem_cons_of_mem _ hx)).1) e he
        rw [h2]; exact hall e' h1
      rw [upTo_all hall, upTo_all hall2]
      obtain ⟨h1, h2⟩ := leftE_run hl (cs := cs) fun x hx => ⟨(hc x (List.mem_cons_of_mem _ hx)).1, (hc x (List.mem_cons_of_mem _ hx)).2.1⟩
      rw [h1]
      exact classE_run k2 k1 fun hb => by rw [← h1]; exact h2 hb
    · rw [ih (fun x hx => hc x (List.mem_cons_of_mem _ hx)) d2]
/-! ## Classes -/
theorem groups_whole {α : Type} {br : α → α → Bool} : ∀ {l : List α}, ∀ c ∈ groups br l, ∀ j (h : j + 1 < c.length), br (c[j]'(by omega)) c[j + 1] = false := by
  intro l
  induction l with
  | nil => intro c hc; cases hc
  | cons x l ih =>
    cases l with
    | nil =>
      intro c hc j h
      have hc : c ∈ [[x]] := hc
      rw [List.mem_singleton.1 hc] at h
      simp at h
    | cons y l =>
      obtain ⟨c0, cs, h0⟩ := groups_ne (br := br) (x := y) (l := l)
      rw [groups_cons h0]
      rw [h0] at ih
      cases hb : br x y with
      | true =>
        rw [if_pos rfl]
        intro c hc j h
        rcases List.mem_cons.1 hc with rfl | hc
        · simp at h
        · exact ih c hc j h
      | false =>
        rw [if_neg (by simp)]
        intro c hc j h
        rcases List.mem_cons.1 hc with rfl | hc
        · cases j with
          | zero =>
            have hh : ∃ z c1, c0 = z :: c1 ∧ z = y := by
              cases l with
              | nil =>
                have : [[y]] = c0 :: cs := h0
                injection this with h1 _
                exact ⟨y, [], h1.symm, rfl⟩
              | cons z l =>
                obtain ⟨d, ds, hd⟩ := groups_ne (br := br) (x := z) (l := l)
                have := (groups_cons hd (x := y) (br := br)).symm.trans h0
                split at this
                · injection this with h1 _; exact ⟨y, [], h1.symm, rfl⟩
                · injection this with h1 _; exact ⟨y, d, h1.symm, rfl⟩
            obtain ⟨z, c1, rfl, rfl⟩ := hh
            exact hb
          | succ j => exact ih c0 (List.mem_cons_self ..) j (by simpa using h)
        · exact ih c (List.mem_cons_of_mem _ hc) j h
theorem groups_sub {α : Type} {br : α → α → Bool} {l c : List α} (hc : c ∈ groups br l) : c.Sublist l := by
  rw [← groups_flat (br := br) l]
  exact List.sublist_flatten_of_mem hc
/-- What is squashed of one key tells what it told, at every time that is kept, and behind all. -/
theorem squashK_run {t : Int} {c0 : Cel} {snaps : List Int} {last : Bool} {g : List Ent} (hl : last = true → c0 = cel0) (hk : KindOk g) (hd : Desc g) (ht : t ∈ snaps ∨ ∀ e ∈ g, e.seq ≤ t) :
    runC c0 (upTo t (squashK snaps last g)) = runC c0 (upTo t g) := by
  have h := leftE_upTo (t := t) hl (cs := groups (brS snaps) g) (fun c hc => ⟨groups_pos c hc, fun e he => hk e (groups_mem hc he), fun j hj h => ?_⟩) (by rw [groups_flat]; exact hd)
  · rw [groups_flat] at h; exact h
  · rcases ht with ht | ht
    · have hw := groups_whole c hc j hj
      simp only [brS] at hw
      obtain ⟨i, hi, rfl⟩ := List.getElem_of_mem ht
      have := partS_true hi h.1 h.2
      rw [this] at hw; cases hw
    · have := ht _ (groups_mem hc (List.getElem_mem (show j < c.length by omega)))
      omega

/-! ## By keys -/
/-- Parts of one key each, and no two of the same. -/
structure ByKey (gs : List (List Ent)) : Prop where
  one : ∀ g ∈ gs, ∀ e ∈ g, ∀ e' ∈ g, e.key = e'.key
  two : gs.Pairwise fun g g' => ∀ e ∈ g, ∀ e' ∈ g', e.key ≠ e'.key
theorem byKey_groups : ∀ {l : List Ent}, (l.Pairwise fun x y => eLess x y = true) → ByKey (groups brK l) := by
  intro l
  induction l with
  | nil => intro _; exact ⟨fun g hg => (nomatch hg), .nil⟩
  | cons x l ih =>
    intro hp
    obtain ⟨hx, hp⟩ := List.pairwise_cons.1 hp
    have ih := ih hp
    cases l with
    | nil =>
      refine ⟨fun g hg e he e' he' => ?_, by show [[x]].Pairwise _; simp⟩
      have hg : g ∈ [[x]] := hg
      rw [List.mem_singleton.1 hg] at he he'
      rw [List.mem_singleton.1 he, List.mem_singleton.1 he']
    | cons y l =>
      obtain ⟨c, cs, h0⟩ := groups_ne (br := brK) (x := y) (l := l)
      have hflat := groups_flat (br := brK) (y :: l)
      rw [groups_cons h0]
      rw [h0] at ih hflat
      have hxy := hx y (List.mem_cons_self ..)
      cases hb : brK x y with
      | true =>
        rw [if_pos rfl]
        have hne : y.key ≠ x.key := by simpa [brK] using hb
        have hs : slt x.key y.key = true := by
          simp only [eLess, Bool.or_eq_true, Bool.and_eq_true, decide_eq_true_eq] at hxy
          rcases hxy with h | ⟨h, _⟩
          · exact h
          · exact absurd h.symm hne
        refine ⟨fun g hg => ?_, List.pairwise_cons.2 ⟨fun g hg e he e' he' heq => ?_, ih.two⟩⟩
        · rcases List.mem_cons.1 hg with rfl | hg
          · intro e he e' he'
            rw [List.mem_singleton.1 he, List.mem_singleton.1 he']
          · exact ih.one g hg
        · rw [List.mem_singleton.1 he] at heq
          have hm : e' ∈ y :: l := by rw [← hflat]; exact List.mem_flatten.2 ⟨g, hg, he'⟩
          rcases List.mem_cons.1 hm with rfl | hm
          · exact hne heq.symm
          · have := eLess_key ((List.pairwise_cons.1 hp).1 e' hm)
            rw [← heq, hs] at this; cases this
      | false =>
        rw [if_neg (by simp)]
        have hne : y.key = x.key := by simpa [brK] using hb
        have hy : y ∈ c := by
          cases c with
          | nil => exact absurd (groups_pos [] (show [] ∈ groups brK (y :: l) by rw [h0]; exact List.mem_cons_self ..)) (by simp)
          | cons z c =>
            have : z :: (c ++ cs.flatten) = y :: l := by simpa using hflat
            injection this with h1 _
            rw [h1]; exact List.mem_cons_self ..
        obtain ⟨t1, t2⟩ := List.pairwise_cons.1 ih.two
        have hall : ∀ e ∈ c, e.key = x.key := fun e he => (ih.one c (List.mem_cons_self ..) e he y hy).trans hne
        refine ⟨fun g hg => ?_, List.pairwise_cons.2 ⟨fun g hg e he e' he' => ?_, t2⟩⟩
        · rcases List.mem_cons.1 hg with rfl | hg
          · have h2 : ∀ e ∈ x :: c, e.key = x.key := fun e he => by
              rcases List.mem_cons.1 he with rfl | he
              · rfl
              · exact hall e he
            intro e he e' he'
            rw [h2 e he, h2 e' he']
          · exact ih.one g (List.mem_cons_of_mem _ hg)
        · have hk : e.key = y.key := by
            rcases List.mem_cons.1 he with rfl | he
            · exact hne.symm
            · rw [hall e he, hne]
          rw [hk]; exact t1 g hg y hy e' he'
theorem findE_upTo {key : ByteArray} {t : Int} {l : List Ent} (h : ∀ e ∈ l, e.key = key) : findE l key t = upTo t l := by
  unfold findE upTo
  refine List.filter_congr fun e he => ?_
  rw [decide_eq_true (h e he), Bool.true_and]
theorem findE_none {key : ByteArray} {t : Int} {l : List Ent} (h : ∀ e ∈ l, e.key ≠ key) : findE l key t = [] :=
  List.filter_eq_nil_iff.2 fun e he => by simp [h e he]
theorem leftE_mem {last : Bool} : ∀ {cs : List (List Ent)}, (∀ c ∈ cs, 0 < c.length) → ∀ e ∈ (leftE last cs).1, ∃ e' ∈ cs.flatten, e.seq = e'.seq ∧ e.key = e'.key := by
  intro cs
  induction cs with
  | nil => intro _ e he; cases he
  | cons c cs ih =>
    intro hc e he
    rw [leftE_cons] at he
    rcases List.mem_append.1 he with he | he
    · obtain ⟨⟨e', h1, h2⟩, _⟩ := classE_mem (hc c (List.mem_cons_self ..)) he
      exact ⟨e', by rw [List.flatten_cons]; exact List.mem_append_left _ h1, h2⟩
    · obtain ⟨e', h1, h2⟩ := ih (fun x hx => hc x (List.mem_cons_of_mem _ hx)) e he
      exact ⟨e', by rw [List.flatten_cons]; exact List.mem_append_right _ h1, h2⟩
theorem squashK_mem {snaps : List Int} {last : Bool} {g : List Ent} {e : Ent} (h : e ∈ squashK snaps last g) : ∃ e' ∈ g, e.seq = e'.seq ∧ e.key = e'.key := by
  have := leftE_mem (cs := groups (brS snaps) g) (fun c hc => groups_pos c hc) e h
  rw [groups_flat] at this; exact this
theorem parts_run {t : Int} {c0 : Cel} {snaps : List Int} {last : Bool} {key : ByteArray} (hl : last = true → c0 = cel0) : ∀ {gs : List (List Ent)}, ByKey gs → (∀ g ∈ gs, KindOk g ∧ Desc g) → (t ∈ snaps ∨ ∀ g ∈ gs, ∀ e ∈ g, e.seq ≤ t) →
    runC c0 (findE (gs.flatMap (squashK snaps last)) key t) = runC c0 (findE gs.flatten key t) := by
  intro gs
  induction gs with
  | nil => intro _ _ _; rfl
  | cons g gs ih =>
    intro hb hk ht
    obtain ⟨t1, t2⟩ := List.pairwise_cons.1 hb.two
    have ih := ih ⟨fun g h => hb.one g (List.mem_cons_of_mem _ h), t2⟩ (fun g h => hk g (List.mem_cons_of_mem _ h)) (ht.imp_right fun h g hg => h g (List.mem_cons_of_mem _ hg))
    rw [List.flatMap_cons, List.flatten_cons, findE_app, findE_app]
    by_cases hkey : ∃ e ∈ g, e.key = key
    · obtain ⟨e0, he0, hkey⟩ := hkey
      have h1 : ∀ e ∈ g, e.key = key := fun e he => (hb.one g (List.mem_cons_self ..) e he e0 he0).trans hkey
      have h2 : ∀ e ∈ squashK snaps last g, e.key = key := fun e he => by
        obtain ⟨e', q1, _, q3⟩ := squashK_mem he
        rw [q3]; exact h1 e' q1
      have h3 : ∀ e ∈ gs.flatten, e.key ≠ key := fun e he => by
        obtain ⟨g', q1, q2⟩ := List.mem_flatten.1 he
        rw [← hkey]; exact (t1 g' q1 e0 he0 e q2).symm
      have h4 : ∀ e ∈ gs.flatMap (squashK snaps last), e.key ≠ key := fun e he => by
        obtain ⟨g', q1, q2⟩ := List.mem_flatMap.1 he
        obtain ⟨e', r1, _, r3⟩ := squashK_mem q2
        rw [r3]; exact h3 e' (List.mem_flatten.2 ⟨g', q1, r1⟩)
      rw [findE_upTo h1, findE_upTo h2, findE_none h3, findE_none h4, List.append_nil, List.append_nil]
      exact squashK_run hl (hk g (List.mem_cons_self ..)).1 (hk g (List.mem_cons_self ..)).2 (ht.imp_right fun h => h g (List.mem_cons_self ..))
    · have h1 : ∀ e ∈ g, e.key ≠ key := fun e he h => hkey ⟨e, he, h⟩
      have h2 : ∀ e ∈ squashK snaps last g, e.key ≠ key := fun e he => by
        obtain ⟨e', q1, _, q3⟩ := squashK_mem he
        rw [q3]; exact h1 e' q1
      rw [findE_none h1, findE_none h2, List.nil_append, List.nil_append]
      exact ih
theorem kindOk_ord {l : List Ent} (h : ∀ e ∈ l, entOk e = true) : KindOk l := fun e he => by
  obtain ⟨_, h2⟩ := entOk_kind (h e he)
  rcases h2 with h | ⟨h, _⟩ | h
  · exact .inl h
  · exact .inr (.inl h)
  · exact .inr (.inr h)
theorem byKey_desc {l : List Ent} (hp : l.Pairwise fun x y => eLess x y = true) : ∀ g ∈ groups brK l, Desc g := fun g hg => by
  have h1 := (byKey_groups hp).one g hg
  have h2 := hp.sublist (groups_sub hg)
  refine List.pairwise_iff_getElem.2 fun i j hi hj hij => ?_
  have h3 := List.pairwise_iff_getElem.1 h2 i j hi hj hij
  have h4 := h1 _ (List.getElem_mem hi) _ (List.getElem_mem hj)
  simp only [eLess, Bool.or_eq_true, Bool.and_eq_true, decide_eq_true_eq] at h3
  rcases h3 with h | ⟨_, h⟩
  · rw [h4, slt_irr] at h; cases h
  · exact h
theorem squash_run {t : Int} {c0 : Cel} {snaps : List Int} {last : Bool} {key : ByteArray} {l : List Ent} (hl : last = true → c0 = cel0) (ho : ordOk l = true) (ht : t ∈ snaps ∨ ∀ e ∈ l, e.seq ≤ t) :
    runC c0 (findE (squash l snaps last) key t) = runC c0 (findE l key t) := by
  have hp := pw_of_ord ho
  have h := parts_run (t := t) (key := key) (snaps := snaps) hl (byKey_groups hp) (fun g hg => ⟨kindOk_ord fun e he => ordOk_all ho e (groups_mem hg he), byKey_desc hp g hg⟩) (ht.imp_right fun h g hg e he => h e (groups_mem hg he))
  rw [groups_flat] at h
  exact h
/-! ## Cells of lists in order -/
theorem isort_desc {l : List Ent} (h : Desc l) : isort sLess l = l.reverse := by
  refine srt_uniq ((isort_perm _ _).trans (List.reverse_perm l).symm) (srt_isort sLess_wk _) ?_ fun x hx y hy h1 h2 => ?_
  · refine (List.pairwise_reverse.2 h).imp fun {x y} h => ?_
    simp only [sLess, decide_eq_false_iff_not]; omega
  · have hx := (isort_perm _ _).mem_iff.1 hx
    have hy := (isort_perm _ _).mem_iff.1 hy
    simp only [sLess, decide_eq_false_iff_not] at h1 h2
    obtain ⟨i, hi, rfl⟩ := List.getElem_of_mem hx
    obtain ⟨j, hj, rfl⟩ := List.getElem_of_mem hy
    by_cases hij : i = j
    · subst hij; rfl
    · by_cases hlt : i < j
      · have := List.pairwise_iff_getElem.1 h i j hi hj hlt; omega
      · have := List.pairwise_iff_getElem.1 h j i hj hi (by omega); omega
theorem cellAll_run {l : List Ent} {key : ByteArray} {t : Int} (h : Desc (findE l key t)) : cellAll l key t = runC cel0 (findE l key t) := by
  unfold cellAll mine
  rw [isort_desc h, List.foldl_reverse]; rfl
theorem cellAll_ord {l : List Ent} {key : ByteArray} {t : Int} (h : l.Pairwise fun x y => eLess x y = true) : cellAll l key t = runC cel0 (findE l key t) := cellAll_run (findE_desc h key t)
/-! ## In order -/
theorem classE_pw {c : List Ent} {b : Bool} (h : c.Pairwise fun x y => eLess x y = true) : (classE c b).Pairwise fun x y => eLess x y = true := by
  unfold classE
  split
  · split
    · exact .nil
    · split <;> simp
  · exact h
theorem eLess_like {a a' b b' : Ent} (h : eLess a b = true) (h1 : a'.seq = a.seq) (h2 : a'.key = a.key) (h3 : b'.seq = b.seq) (h4 : b'.key = b.key) : eLess a' b' = true := by
  unfold eLess at h ⊢
  rw [h1, h2, h3, h4]; exact h
theorem leftE_pw {last : Bool} : ∀ {cs : List (List Ent)}, (∀ c ∈ cs, 0 < c.length) → (cs.flatten.Pairwise fun x y => eLess x y = true) → ((leftE last cs).1.Pairwise fun x y => eLess x y = true) := by
  intro cs
  induction cs with
  | nil => intro _ _; exact .nil
  | cons c cs ih =>
    intro hc hp
    rw [List.flatten_cons] at hp
    obtain ⟨p1, p2, p3⟩ := List.pairwise_append.1 hp
    rw [leftE_cons]
    refine List.pairwise_append.2 ⟨classE_pw p1, ih (fun x hx => hc x (List.mem_cons_of_mem _ hx)) p2, fun a ha b hb => ?_⟩
    obtain ⟨⟨a', q1, q2, q3⟩, _⟩ := classE_mem (hc c (List.mem_cons_self ..)) ha
    obtain ⟨b', r1, r2, r3⟩ := leftE_mem (fun x hx => hc x (List.mem_cons_of_mem _ hx)) b hb
    exact eLess_like (p3 a' q1 b' r1) q2 q3 r2 r3
theorem squash_mem {l : List Ent} {snaps : List Int} {last : Bool} {e : Ent} (h : e ∈ squash l snaps last) : ∃ e' ∈ l, e.seq = e'.seq ∧ e.key = e'.key := by
  obtain ⟨g, hg, he⟩ := List.mem_flatMap.1 h
  obtain ⟨e', h1, h2⟩ := squashK_mem he
  exact ⟨e', groups_mem hg h1, h2⟩
theorem squash_pw {l : List Ent} {snaps : List Int} {last : Bool} (h : l.Pairwise fun x y => eLess x y = true) : (squash l snaps last).Pairwise fun x y => eLess x y = true := by
  have key : ∀ {gs : List (List Ent)}, (gs.flatten.Pairwise fun x y => eLess x y = true) → (gs.flatMap (squashK snaps last)).Pairwise fun x y => eLess x y = true := by
    intro gs
    induction gs with
    | nil => intro _; exact .nil
    | cons g gs ih =>
      intro hp
      rw [List.flatten_cons] at hp
      obtain ⟨p1, p2, p3⟩ := List.pairwise_append.1 hp
      rw [List.flatMap_cons]
      refine List.pairwise_append.2 ⟨leftE_pw (fun c hc => groups_pos c hc) (by rw [classesE, groups_flat]; exact p1), ih p2, fun a ha b hb => ?_⟩
      obtain ⟨a', q1, q2, q3⟩ := squashK_mem ha
      obtain ⟨g', r0, hb⟩ := List.mem_flatMap.1 hb
      obtain ⟨b', r1, r2, r3⟩ := squashK_mem hb
      exact eLess_like (p3 a' q1 b' (List.mem_flatten.2 ⟨g', r0, r1⟩)) q2 q3 r2 r3
  exact key (by rw [groups_flat]; exact h)

theorem oneFrom_ok {b : Bool} : ∀ {l : List Ent} {acc : Ent}, (∀ e ∈ l, entOk e = true) → acc.text = ⟨#[]⟩ → acc.kind = 3 → (b = true → acc.n = 0) →
    (oneFrom b acc l).text.size ≤ 60 ∧ ((oneFrom b acc l).kind = 1 ∨ ((oneFrom b acc l).kind = 2 ∧ (oneFrom b acc l).text = ⟨#[]⟩ ∧ (oneFrom b acc l).n = 0) ∨ ((oneFrom b acc l).kind = 3 ∧ (oneFrom b acc l).text = ⟨#[]⟩)) := by
  intro l
  induction l generalizing b with
  | nil => intro acc _ h1 h2 _; exact ⟨by rw [oneFrom, h1]; exact Nat.zero_le _, .inr (.inr ⟨h2, h1⟩)⟩
  | cons e l ih =>
    intro acc hk h1 h2 h3
    have he := hk e (List.mem_cons_self ..)
    unfold oneFrom
    split
    · exact ih (b := false) (acc := { acc with n := acc.n + e.n }) (fun x hx => hk x (List.mem_cons_of_mem _ hx)) h1 h2 (fun h => nomatch h)
    · split
      · refine ⟨?_, .inl rfl⟩
        simp only [entOk, Bool.and_eq_true, decide_eq_true_eq] at he
        exact he.2.2.2.1
      · refine ⟨by show acc.text.size ≤ 60; rw [h1]; exact Nat.zero_le _, ?_⟩
        cases b with
        | true => exact .inr (.inl ⟨rfl, h1, h3 rfl⟩)
        | false => exact .inl rfl
theorem oneE_ok {c : List Ent} (hne : 0 < c.length) (hk : ∀ e ∈ c, entOk e = true) (hs : sumOk (oneE c).n = true) : entOk (oneE c) = true ∧ ((oneE c).kind = 3 → entOk { oneE c with kind := 1 } = true) := by
  cases c with
  | nil => simp at hne
  | cons e l =>
    obtain ⟨h1, h2⟩ := oneE_seq (e := e) (l := l)
    obtain ⟨h3, h4⟩ := oneFrom_ok (b := true) (acc := ⟨e.key, e.seq, 3, ⟨#[]⟩, 0⟩) hk rfl rfl fun _ => rfl
    have he := hk e (List.mem_cons_self ..)
    simp only [entOk, Bool.and_eq_true, decide_eq_true_eq] at he
    obtain ⟨q1, q2, q3, _⟩ := he
    have h3 : (oneE (e :: l)).text.size ≤ 60 := h3
    have h4 : (oneE (e :: l)).kind = 1 ∨ ((oneE (e :: l)).kind = 2 ∧ (oneE (e :: l)).text = ⟨#[]⟩ ∧ (oneE (e :: l)).n = 0) ∨ ((oneE (e :: l)).kind = 3 ∧ (oneE (e :: l)).text = ⟨#[]⟩) := h4
    generalize oneE (e :: l) = r at *
    simp only [entOk, Bool.and_eq_true, Bool.or_eq_true, decide_eq_true_eq]
    rw [h1, h2]
    refine ⟨⟨q1, q2, q3, h3, hs, ?_⟩, fun _ => ⟨q1, q2, q3, h3, hs, .inl (.inl trivial)⟩⟩
    rcases h4 with h | h | h
    · exact .inl (.inl h)
    · exact .inl (.inr h)
    · exact .inr h
theorem classE_ok {c : List Ent} {b : Bool} (hne : 0 < c.length) (hk : ∀ e ∈ c, entOk e = true) : ∀ e ∈ classE c b, entOk e = true := by
  unfold classE
  split
  · rename_i hs
    obtain ⟨h1, h2⟩ := oneE_ok hne hk hs
    split
    · intro e he; cases he
    · split
      · rename_i hd
        rw [Bool.and_eq_true, decide_eq_true_iff] at hd
        intro e he
        rw [List.mem_singleton.1 he]; exact h2 hd.2
      · intro e he
        rw [List.mem_singleton.1 he]; exact h1
  · exact hk
theorem leftE_ok {last : Bool} : ∀ {cs : List (List Ent)}, (∀ c ∈ cs, 0 < c.length ∧ ∀ e ∈ c, entOk e = true) → ∀ e ∈ (leftE last cs).1, entOk e = true := by
  intro cs
  induction cs with
  | nil => intro _ e he; cases he
  | cons c cs ih =>
    intro hc e he
    rw [leftE_cons] at he
    rcases List.mem_append.1 he with he | he
    · exact classE_ok (hc c (List.mem_cons_self ..)).1 (hc c (List.mem_cons_self ..)).2 e he
    · exact ih (fun x hx => hc x (List.mem_cons_of_mem _ hx)) e he
theorem squash_ok {l : List Ent} {snaps : List Int} {last : Bool} (h : ordOk l = true) : ordOk (squash l snaps last) = true := by
  refine ord_of_pw (squash_pw (pw_of_ord h)) fun e he => ?_
  obtain ⟨g, hg, he⟩ := List.mem_flatMap.1 he
  exact leftE_ok (cs := groups (brS snaps) g) (fun c hc => ⟨groups_pos c hc, fun e he => ordOk_all h e (groups_mem hg (groups_mem hc he))⟩) e he
theorem squash_len {l : List Ent} {snaps : List Int} {last : Bool} : (squash l snaps last).length ≤ l.length := by
  have key : ∀ {gs : List (List Ent)}, (gs.flatMap (squashK snaps last)).length ≤ gs.flatten.length := by
    intro gs
    induction gs with
    | nil => exact Nat.le_refl _
    | cons g gs ih =>
      rw [List.flatMap_cons, List.flatten_cons, List.length_append, List.length_append]
      have := squashK_len (snaps := snaps) (last := last) (l := g)
      omega
  have := key (gs := groups brK l)
  rw [groups_flat] at this; exact this
theorem squash_nil {snaps : List Int} {last : Bool} : squash [] snaps last = [] := rfl
/-- The view of what is squashed. -/
theorem squash_cell {l : List Ent} {snaps : List Int} {last : Bool} {key : ByteArray} {t : Int} (h : ordOk l = true) (ht : t ∈ snaps ∨ ∀ e ∈ l, e.seq ≤ t) : cellAll (squash l snaps last) key t = cellAll l key t := by
  rw [cellAll_ord (squash_pw (pw_of_ord h)), cellAll_ord (pw_of_ord h)]
  exact squash_run (fun _ => rfl) h ht
end Ev

/-! Trees that are written to, and flushed, plain. -/
namespace Ev
open Go
def stampE (seq : Int) (i : Nat) (e : Ent) : Ent := { e with seq := seq + 1 + i }
/-- A batch with its times, up to the first entry that is refused. -/
def stampP (seq : Int) : Nat → List Ent → List Ent × Bool
  | _, [] => ([], true)
  | i, e :: l => if e.seq = 0 ∧ entOk (stampE seq i e) = true then (stampE seq i e :: (stampP seq (i + 1) l).1, (stampP seq (i + 1) l).2) else ([], false)
def stampB (seq : Int) (batch : List Ent) : Bool := (stampP seq 0 batch).2 && (decide (1 ≤ batch.length) && decide (batch.length ≤ 12))
theorem stampP_cons {seq : Int} {i : Nat} {e : Ent} {l : List Ent} : stampP seq i (e :: l) = if e.seq = 0 ∧ entOk (stampE seq i e) = true then (stampE seq i e :: (stampP seq (i + 1) l).1, (stampP seq (i + 1) l).2) else ([], false) := rfl
def stampT (seq : Int) (i : Nat) (l : List Ent) : List Ent := (l.zipIdx i).map fun p => stampE seq p.2 p.1
theorem stampT_snoc {seq : Int} {l : List Ent} {k : Nat} (h : k < l.length) : stampT seq 0 (l.take (k + 1)) = stampT seq 0 (l.take k) ++ [stampE seq k l[k]] := by
  unfold stampT
  rw [List.take_succ_eq_append_getElem h, List.zipIdx_append, List.map_append]
  simp [Nat.min_eq_left (Nat.le_of_lt h)]
theorem stampT_len {seq : Int} {i : Nat} {l : List Ent} : (stampT seq i l).length = l.length := by simp [stampT]
theorem stampP_ok {seq : Int} : ∀ {l : List Ent} {i : Nat}, (∀ j (h : j < l.length), l[j].seq = 0 ∧ entOk (stampE seq (i + j) l[j]) = true) → stampP seq i l = (stampT seq i l, true) := by
  intro l
  induction l with
  | nil => intro i _; rfl
  | cons e l ih =>
    intro i h
    have h0 := h 0 (by simp)
    have h1 := ih (i := i + 1) fun j hj => by
      have := h (j + 1) (by simpa using hj)
      simpa [Nat.add_assoc, Nat.add_comm 1 j] using this
    rw [stampP_cons, if_pos (by simpa using h0), h1]
    simp [stampT, List.zipIdx_cons]
theorem stampP_bad {seq : Int} : ∀ {l : List Ent} {i k : Nat} (hk : k < l.length), (∀ j (h : j < k), (l[j]'(by omega)).seq = 0 ∧ entOk (stampE seq (i + j) (l[j]'(by omega))) = true) → ¬ (l[k].seq = 0 ∧ entOk (stampE seq (i + k) l[k]) = true) →
    stampP seq i l = (stampT seq i (l.take k), false) := by
  intro l
  induction l with
  | nil => intro i k hk; simp at hk
  | cons e l ih =>
    intro i k hk h hb
    cases k with
    | zero =>
      rw [stampP_cons, if_neg (by simpa using hb)]; rfl
    | succ k =>
      have h0 := h 0 (by omega)
      have h1 := ih (i := i + 1) (k := k) (by simpa using hk) (fun j hj => by
        have := h (j + 1) (by omega)
        simpa [Nat.add_assoc, Nat.add_comm 1 j] using this) (by simpa [Nat.add_assoc, Nat.add_comm 1 k] using hb)
      rw [stampP_cons, if_pos (by simpa using h0), h1]
      simp [stampT, List.zipIdx_cons]
theorem stampP_inv {seq : Int} : ∀ {l : List Ent} {i : Nat}, (stampP seq i l).2 = true → ∀ j (h : j < l.length), l[j].seq = 0 ∧ entOk (stampE seq (i + j) l[j]) = true := by
  intro l
  induction l with
  | nil => intro i _ j h; simp at h
  | cons e l ih =>
    intro i hb j hj
    rw [stampP_cons] at hb
    split at hb
    · rename_i h0
      cases j with
      | zero => simpa using h0
      | succ j =>
        have := ih hb j (by simpa using hj)
        simpa [Nat.add_assoc, Nat.add_comm 1 j] using this
    · cases hb
theorem stampT_mem {seq : Int} {i : Nat} {l : List Ent} {e : Ent} (h : e ∈ stampT seq i l) : ∃ j, ∃ hj : j < l.length, e = stampE seq (i + j) l[j] := by
  unfold stampT at h
  obtain ⟨p, hp, rfl⟩ := List.mem_map.1 h
  obtain ⟨j, hj, he⟩ := List.getElem_of_mem hp
  have hj' : j < l.length := by simpa using hj
  refine ⟨j, hj', ?_⟩
  rw [← he, List.getElem_zipIdx]
theorem stampT_desc {seq : Int} {i : Nat} {l : List Ent} : (stampT seq i l).Pairwise fun x y => x.seq < y.seq := by
  unfold stampT
  rw [List.pairwise_map]
  refine List.pairwise_iff_getElem.2 fun a b ha hb hab => ?_
  rw [List.getElem_zipIdx, List.getElem_zipIdx]
  show seq + 1 + ((i + a : Nat) : Int) < seq + 1 + ((i + b : Nat) : Int)
  omega
/-- Written to. -/
def writeD (batch : List Ent) (t : Tre) : Tre × Bool :=
  if stampB t.seq batch = true ∧ t.mem.length + batch.length ≤ 60 then ({ t with mem := isort eLess (t.mem ++ stampT t.seq 0 batch), seq := t.seq + batch.length }, true) else (t, false)
theorem stampB_iff {seq : Int} {batch : List Ent} : stampB seq batch = true ↔ (stampP seq 0 batch).2 = true ∧ 1 ≤ batch.length ∧ batch.length ≤ 12 := by
  unfold stampB
  rw [Bool.and_eq_true, Bool.and_eq_true, decide_eq_true_iff, decide_eq_true_iff]
/-- A run of entries in order. -/
def mkRun (l : List Ent) : Rn := ⟨l, (rmask l : Nat)⟩
/-- Flushed. -/
def flushD (t : Tre) : Tre × Bool := match t.levels with
  | l0 :: ls => if t.mem.length = 0 ∨ 4 ≤ l0.length then (t, false) else ({ t with mem := [], levels := (l0 ++ [mkRun (squash t.mem t.snaps false)]) :: ls }, true)
  | [] => (t, false)
theorem isort_ord {l : List Ent} (h : ordOk l = true) : isort eLess l = l := by
  have := isort_uniq (List.Perm.refl l) (ord_dif h)
  exact srt_uniq (isort_perm _ _) (srt_isort eLess_wk l) (ordOk_srt h) fun x hx y hy h1 h2 => dif_inj (ord_dif h) x ((isort_perm _ _).mem_iff.1 hx) y ((isort_perm _ _).mem_iff.1 hy) h1 h2
theorem good_ord {l : List Ent} (h : ordOk l = true) (h1 : 1 ≤ l.length) (h2 : l.length ≤ 150) : good l = true := by
  simp only [good, Bool.and_eq_true, decide_eq_true_eq]
  rw [isort_ord h]
  exact ⟨h1, h2, h⟩
theorem classE_pos {c : List Ent} (h : 0 < c.length) : 0 < (classE c false).length := by
  unfold classE
  split
  · simp
  · exact h
theorem leftE_false {cs : List (List Ent)} : (leftE false cs).2 = false := by
  induction cs with
  | nil => rfl
  | cons c cs ih => rw [leftE_cons, ih]; rfl
theorem squash_pos {l : List Ent} {snaps : List Int} (h : 0 < l.length) : 0 < (squash l snaps false).length := by
  cases l with
  | nil => simp at h
  | cons x l =>
    obtain ⟨g, gs, hg⟩ := groups_ne (br := brK) (x := x) (l := l)
    have hgp := groups_pos g (show g ∈ groups brK (x :: l) by rw [hg]; exact List.mem_cons_self ..)
    unfold squash
    rw [hg, List.flatMap_cons, List.length_append]
    cases g with
    | nil => simp at hgp
    | cons y g =>
      obtain ⟨c, cs, hc⟩ := groups_ne (br := brS snaps) (x := y) (l := g)
      have hcp := groups_pos c (show c ∈ groups (brS snaps) (y :: g) by rw [hc]; exact List.mem_cons_self ..)
      have : squashK snaps false (y :: g) = classE c false ++ (leftE false cs).1 := by
        unfold squashK classesE
        rw [hc, leftE_cons, leftE_false]
      rw [this, List.length_append]
      have := classE_pos hcp
      omega
end Ev
namespace Ev
open Go
theorem cellAll_permD {l D : List Ent} {key : ByteArray} {t : Int} (hp : (findE l key t).Perm D) (hD : Desc D) : cellAll l key t = runC cel0 D := by
  have hm : isort sLess (findE l key t) = D.reverse := by
    refine srt_uniq ((isort_perm _ _).trans (hp.trans (List.reverse_perm _).symm)) (srt_isort sLess_wk _) ((List.pairwise_reverse.2 hD).imp fun {x y} h => ?_) fun x hx y hy h1 h2 => ?_
    · simp only [sLess, decide_eq_false_iff_not]; omega
    · have hx := hp.mem_iff.1 ((isort_perm _ _).mem_iff.1 hx)
      have hy := hp.mem_iff.1 ((isort_perm _ _).mem_iff.1 hy)
      simp only [sLess, decide_eq_false_iff_not] at h1 h2
      obtain ⟨i, hi, rfl⟩ := List.getElem_of_mem hx
      obtain ⟨j, hj, rfl⟩ := List.getElem_of_mem hy
      by_cases hij : i = j
      · subst hij; rfl
      · by_cases hlt : i < j
        · have := List.pairwise_iff_getElem.1 hD i j hi hj hlt; omega
        · have := List.pairwise_iff_getElem.1 hD j i hj hi (by omega); omega
  unfold cellAll mine
  rw [hm, List.foldl_reverse]; rfl
/-- Where no two stand at one place, the order is strict. -/
theorem dif_pw {l : List Ent} (h : l.Pairwise Dif) : (isort eLess l).Pairwise fun x y => eLess x y = true := by
  have hp := isort_perm eLess l
  have hs := srt_isort eLess_wk l
  have hd2 : (isort eLess l).Pairwise Dif := (hp.symm.pairwise_iff (fun {x y} h => h.symm)).1 h
  refine List.pairwise_iff_getElem.2 fun i j hi hj hij => ?_
  have a := List.pairwise_iff_getElem.1 hd2 i j hi hj hij
  have b := List.pairwise_iff_getElem.1 hs i j hi hj hij
  rcases a with a | a
  · exact a
  · rw [b] at a; cases a
theorem dif_ord {l : List Ent} (h : l.Pairwise Dif) (he : ∀ e ∈ l, entOk e = true) : ordOk (isort eLess l) = true :=
  ord_of_pw (dif_pw h) fun e h => he e ((isort_perm _ _).mem_iff.1 h)
theorem dif_seq {x y : Ent} (h : Dif x y) (hk : x.key = y.key) : x.seq ≠ y.seq := by
  intro hs
  have : ∀ {a b : Ent}, a.key = b.key → a.seq = b.seq → eLess a b = false := fun {a b} h1 h2 => by
    unfold eLess
    rw [h1, slt_irr, h2]
    simp
  rcases h with h | h
  · rw [this hk hs] at h; cases h
  · rw [this hk.symm hs.symm] at h; cases h
/-- The cells of entries above others. -/
theorem cell_top {B M : List Ent} {key : ByteArray} {s : Int} (hB : B.Pairwise Dif) (hM : M.Pairwise fun x y => eLess x y = true) (hA : Above B M) : cellAll (B ++ M) key s = runC (cellAll B key s) (findE M key s) := by
  have hp : (findE (B ++ M) key s).Perm (findE M key s ++ findE (isort eLess B) key s) := by
    rw [findE_app]
    exact List.perm_append_comm.trans (((isort_perm eLess B).symm.filter _).append_left _)
  have hd1 := findE_desc hM key s
  have hd2 := findE_desc (dif_pw hB) key s
  have hD : Desc (findE M key s ++ findE (isort eLess B) key s) := List.pairwise_append.2 ⟨hd1, hd2, fun x hx y hy => by
    have h1 := findE_mem hx
    have h2 := findE_mem hy
    exact hA x (findE_sub hx) y ((isort_perm _ _).mem_iff.1 (findE_sub hy)) (h1.1.trans h2.1.symm)⟩
  rw [cellAll_permD hp hD, runC_app, cellAll_permD (l := B) (D := findE (isort eLess B) key s) ((isort_perm eLess B).symm.filter _) hd2]
/-- What is squashed beneath nothing but other keys, or kept open, tells what it told. -/
theorem cell_squash {B M : List Ent} {snaps : List Int} {last : Bool} {key : ByteArray} {s : Int} (hB : B.Pairwise Dif) (hM : ordOk M = true) (hA : Above B M) (hl : last = true → ∀ x ∈ M, ∀ y ∈ B, x.key ≠ y.key) (hs : s ∈ snaps ∨ ∀ e ∈ M, e.seq ≤ s) :
    cellAll (B ++ squash M snaps last) key s = cellAll (B ++ M) key s := by
  have hp := pw_of_ord hM
  have hA2 : Above B (squash M snaps last) := fun x hx y hy hk => by
    obtain ⟨x', h1, h2, h3⟩ := squash_mem hx
    rw [h2]; exact hA x' h1 y hy (h3 ▸ hk)
  rw [cell_top hB hp hA, cell_top hB (squash_pw hp) hA2]
  by_cases hk : ∃ x ∈ M, x.key = key
  · obtain ⟨x, hx, hk⟩ := hk
    refine squash_run (fun hlt => ?_) hM hs
    have : findE B key s = [] := findE_none fun y hy h => hl hlt x hx y hy (hk.trans h.symm)
    unfold cellAll mine
    rw [this]; rfl
  · have h1 : findE M key s = [] := findE_none fun x hx h => hk ⟨x, hx, h⟩
    have h2 : findE (squash M snaps last) key s = [] := findE_none fun x hx h => by
      obtain ⟨x', q1, _, q3⟩ := squash_mem hx
      exact hk ⟨x', q1, q3 ▸ h⟩
    rw [h1, h2]
/-! ## Right trees -/
theorem treeP {seq : Int} {mem : List Ent} {l0 l1 l2 : List Rn} {snaps : List Int} : treeOk3 seq mem l0 l1 l2 snaps = true ↔
    (0 ≤ seq ∧ seq ≤ 100000 ∧ mem.length ≤ 60 ∧ ordOk mem = true ∧ snapsB snaps seq = true) ∧ (levB l0 4 false = true ∧ levB l1 8 true = true ∧ levB l2 8 true = true) ∧ (∀ l ∈ layers l0 l1 l2 mem, ∀ e ∈ l, e.seq ≤ seq) ∧ (layers l0 l1 l2 mem).Pairwise Above := by
  rw [treeOk3_iff]
  constructor
  · rintro ⟨a1, a2, a3, a4, a5, a6, a7, a8, a9⟩
    obtain ⟨b1, b2⟩ := (newer_iff _ _ _).1 a9
    exact ⟨⟨a1, a2, a3, a4, a5⟩, ⟨a6, a7, a8⟩, fun l hl e he => (b1 l hl e he).1, b2⟩
  · rintro ⟨⟨a1, a2, a3, a4, a5⟩, ⟨a6, a7, a8⟩, b1, b2⟩
    refine ⟨a1, a2, a3, a4, a5, a6, a7, a8, (newer_iff _ _ _).2 ⟨fun l hl e he => ⟨b1 l hl e he, ?_⟩, b2⟩⟩
    have hok : ordOk l = true := by
      rcases layers_mem hl with h | ⟨r, hr, h⟩
      · subst h; exact a4
      · subst h
        have hr : runOk r = true := by
          rcases hr with hr | hr | hr
          · exact (levB_ok a6).2 r hr
          · exact (levB_ok a7).2 r hr
          · exact (levB_ok a8).2 r hr
        exact (runOk_len hr).2.2.1
    have := ordOk_all hok e he
    simp only [entOk, Bool.and_eq_true, decide_eq_true_eq] at this
    show (0 : Int) < e.seq
    omega
theorem snapsB_mono {l : List Int} {s s' : Int} (h : snapsB l s = true) (hs : s ≤ s') : snapsB l s' = true := by
  rw [snaps_iff] at h ⊢
  exact ⟨h.1, fun i hi => ⟨(h.2 i hi).1, by have := (h.2 i hi).2.1; omega, (h.2 i hi).2.2⟩⟩
/-- The layers but the topmost. -/
def baseE (l0 l1 l2 : List Rn) : List (List Ent) := l2.map Rn.ents ++ (l1.map Rn.ents ++ l0.map Rn.ents)
theorem layers_base (l0 l1 l2 : List Rn) (mem : List Ent) : layers l0 l1 l2 mem = baseE l0 l1 l2 ++ [mem] := by
  unfold layers baseE; simp only [List.append_assoc]
theorem allE_base (l0 l1 l2 : List Rn) (mem : List Ent) : allE l0 l1 l2 mem = (baseE l0 l1 l2).flatten ++ mem := by
  unfold allE; rw [layers_base]; simp
theorem above_flat1 {a : List (List Ent)} {m : List Ent} : (∀ x ∈ a, Above x m) ↔ Above a.flatten m := by
  have := above_flat (a := a) (b := [m])
  simpa using this
theorem stamp_seq {seq : Int} {batch : List Ent} (h : stampB seq batch = true) : ∀ e ∈ stampT seq 0 batch, entOk e = true ∧ seq < e.seq ∧ e.seq ≤ seq + batch.length := by
  obtain ⟨h1, h2, h3⟩ := stampB_iff.1 h
  intro e he
  obtain ⟨j, hj, rfl⟩ := stampT_mem he
  refine ⟨(stampP_inv h1 j hj).2, ?_, ?_⟩
  · show seq < seq + 1 + ((0 + j : Nat) : Int); omega
  · show seq + 1 + ((0 + j : Nat) : Int) ≤ _; omega
theorem stamp_last {seq : Int} {batch : List Ent} (h : stampB seq batch = true) : seq + batch.length ≤ 100000 := by
  obtain ⟨h1, h2, h3⟩ := stampB_iff.1 h
  have h4 := (stampP_inv h1 (batch.length - 1) (by omega)).2
  simp only [entOk, Bool.and_eq_true, decide_eq_true_eq] at h4
  have h5 : seq + 1 + ((0 + (batch.length - 1) : Nat) : Int) ≤ 100000 := h4.2.2.1
  omega
theorem stamp_dif {seq : Int} {batch mem : List Ent} (h : stampB seq batch = true) (hm : ordOk mem = true) (hs : ∀ e ∈ mem, e.seq ≤ seq) : (mem ++ stampT seq 0 batch).Pairwise Dif :=
  List.pairwise_append.2 ⟨ord_dif hm, stampT_desc.imp fun h => eLess_seq (by omega), fun x hx y hy => eLess_seq (by have := hs x hx; have := (stamp_seq h y hy).2.1; omega)⟩
/-- A right tree that is written to is right. -/
theorem writeD_ok {batch : List Ent} {t : Tre} (h : treeOk t = true) : treeOk (writeD batch t).1 = true := by
  unfold writeD
  split
  · rename_i hb
    obtain ⟨hb, hl⟩ := hb
    obtain ⟨l0, l1, l2, he, h⟩ := treeOk_levels h
    obtain ⟨⟨a1, a2, a3, a4, a5⟩, a6, a7, a8⟩ := treeP.1 h
    rw [layers_base] at a7 a8
    obtain ⟨b1, _, b3⟩ := List.pairwise_append.1 a8
    have hms : ∀ e ∈ t.mem, e.seq ≤ t.seq := fun e hem => a7 t.mem (by simp) e hem
    have hd := stamp_dif hb a4 hms
    show (match t.levels with | [l0, l1, l2] => treeOk3 (t.seq + batch.length) (isort eLess (t.mem ++ stampT t.seq 0 batch)) l0 l1 l2 t.snaps | _ => false) = true
    rw [he]
    refine treeP.2 ⟨⟨by omega, stamp_last hb, ?_, dif_ord hd fun e hem => ?_, snapsB_mono a5 (by omega)⟩, a6, ?_, ?_⟩
    · rw [isort_len, List.length_append, stampT_len]; exact hl
    · rcases List.mem_append.1 hem with h | h
      · exact ordOk_all a4 e h
      · exact (stamp_seq hb e h).1
    · rw [layers_base]
      intro l hl e hel
      rcases List.mem_append.1 hl with h | h
      · have := a7 l (List.mem_append_left _ h) e hel; omega
      · rw [List.mem_singleton.1 h] at hel
        rcases List.mem_append.1 ((isort_perm _ _).mem_iff.1 hel) with h | h
        · have := hms e h; omega
        · exact (stamp_seq hb e h).2.2
    · rw [layers_base]
      refine List.pairwise_append.2 ⟨b1, by simp, fun l hl m hm => ?_⟩
      rw [List.mem_singleton.1 hm]
      intro x hx y hy hk
      rcases List.mem_append.1 ((isort_perm _ _).mem_iff.1 hx) with h | h
      · exact b3 l hl t.mem (by simp) x h y hy hk
      · have := (stamp_seq hb x h).2.1
        have := a7 l (List.mem_append_left _ hl) y hy
        omega
  · exact h
theorem runOk_mk {l : List Ent} (h : ordOk l = true) (h1 : 1 ≤ l.length) (h2 : l.length ≤ 150) : runOk (mkRun l) = true := by
  simp only [runOk, mkRun, Bool.and_eq_true, decide_eq_true_eq]
  exact ⟨decide_eq_true h1, decide_eq_true h2, h, trivial⟩
/-- A right tree that is flushed is right. -/
theorem flushD_ok {t : Tre} (h : treeOk t = true) : treeOk (flushD t).1 = true := by
  obtain ⟨l0, l1, l2, he, h3⟩ := treeOk_levels h
  have e1 : flushD t = if t.mem.length = 0 ∨ 4 ≤ l0.length then (t, false) else ({ t with mem := [], levels := (l0 ++ [mkRun (squash t.mem t.snaps false)]) :: [l1, l2] }, true) := by unfold flushD; rw [he]
  rw [e1]
  split
  · exact h
  · rename_i hc
    obtain ⟨⟨a1, a2, a3, a4, a5⟩, ⟨a6, a6', a6''⟩, a7, a8⟩ := treeP.1 h3
    rw [layers_base] at a7 a8
    obtain ⟨b1, _, b3⟩ := List.pairwise_append.1 a8
    have hm0 : 0 < t.mem.length := Nat.pos_of_ne_zero fun h => hc (.inl h)
    have hl0 : ¬ 4 ≤ l0.length := fun h => hc (.inr h)
    have hpos := squash_pos (snaps := t.snaps) hm0
    have hle := squash_len (l := t.mem) (snaps := t.snaps) (last := false)
    have hr := runOk_mk (squash_ok (snaps := t.snaps) (last := false) a4) hpos (by omega)
    show treeOk3 t.seq [] (l0 ++ [mkRun (squash t.mem t.snaps false)]) l1 l2 t.snaps = true
    have hlay : layers (l0 ++ [mkRun (squash t.mem t.snaps false)]) l1 l2 [] = baseE l0 l1 l2 ++ [squash t.mem t.snaps false, []] := by
      unfold layers baseE
      simp [mkRun]
    refine treeP.2 ⟨⟨a1, a2, Nat.zero_le _, rfl, a5⟩, ⟨?_, a6', a6''⟩, ?_, ?_⟩
    · unfold levB at a6 ⊢
      rw [Bool.and_eq_true, Bool.and_eq_true, decide_eq_true_iff] at a6 ⊢
      refine ⟨⟨by simp; omega, ?_⟩, rfl⟩
      rw [List.all_append, a6.1.2]; simp [hr]
    · rw [hlay]
      intro l hl e hel
      rcases List.mem_append.1 hl with h | h
      · exact a7 l (List.mem_append_left _ h) e hel
      · rcases List.mem_cons.1 h with h | h
        · rw [h] at hel
          obtain ⟨e', q1, q2, _⟩ := squash_mem hel
          rw [q2]; exact a7 t.mem (by simp) e' q1
        · rw [List.mem_singleton.1 h] at hel; cases hel
    · rw [hlay]
      refine List.pairwise_append.2 ⟨b1, by simp [Above], fun l hl m hm => ?_⟩
      rcases List.mem_cons.1 hm with h | h
      · rw [h]
        intro x hx y hy hk
        obtain ⟨x', q1, q2, q3⟩ := squash_mem hx
        rw [q2]; exact b3 l hl t.mem (by simp) x' q1 y hy (q3 ▸ hk)
      · rw [List.mem_singleton.1 h]
        intro x hx; cases hx
end Ev

/-! Trees that are compacted, plain. -/
namespace Ev
open Go
/-! ## Cutting -/
/-- Pieces of at least twenty, cut between keys; n are there already. -/
def pieces : Nat → List Ent → List (List Ent)
  | _, [] => []
  | n, x :: l => match l, pieces (if 20 ≤ n + 1 ∧ (l.getD 0 ent0).key ≠ x.key then 0 else n + 1) l with
    | _ :: _, c :: cs => if 20 ≤ n + 1 ∧ (l.getD 0 ent0).key ≠ x.key then [x] :: c :: cs else (x :: c) :: cs
    | _, _ => [[x]]
def brkP (n : Nat) (x y : Ent) : Prop := 20 ≤ n + 1 ∧ y.key ≠ x.key
instance (n : Nat) (x y : Ent) : Decidable (brkP n x y) := by unfold brkP; exact inferInstance
theorem pieces_ne {n : Nat} {x : Ent} {l : List Ent} : ∃ c cs, pieces n (x :: l) = c :: cs := by
  unfold pieces
  split
  · split <;> exact ⟨_, _, rfl⟩
  · exact ⟨_, _, rfl⟩
theorem pieces_cons {n : Nat} {x y : Ent} {l : List Ent} : ∃ c cs, pieces (if brkP n x y then 0 else n + 1) (y :: l) = c :: cs ∧ pieces n (x :: y :: l) = if brkP n x y then [x] :: c :: cs else (x :: c) :: cs := by
  obtain ⟨c, cs, hc⟩ := pieces_ne (n := if brkP n x y then 0 else n + 1) (x := y) (l := l)
  refine ⟨c, cs, hc, ?_⟩
  have hc' : pieces (if 20 ≤ n + 1 ∧ ((y :: l).getD 0 ent0).key ≠ x.key then 0 else n + 1) (y :: l) = c :: cs := hc
  conv => lhs; unfold pieces
  simp only [hc']
  rfl
theorem pieces_split : ∀ {l : List Ent} {n k : Nat}, 0 < k → k ≤ l.length → (∀ j (h1 : 0 < j) (_ : j < k) (h3 : j < l.length), ¬ brkP (n + j - 1) (l[j - 1]'(by omega)) l[j]) →
    (∀ (h : k < l.length), brkP (n + k - 1) (l[k - 1]'(by omega)) l[k]) → pieces n l = l.take k :: pieces 0 (l.drop k) := by
  intro l
  induction l with
  | nil => intro n k h1 h2; simp at h2; omega
  | cons x l ih =>
    intro n k h1 h2 h3 h4
    cases l with
    | nil =>
      have : k = 1 := by simp at h2; omega
      subst this
      rfl
    | cons y l =>
      obtain ⟨c, cs, hc, he⟩ := pieces_cons (n := n) (x := x) (y := y) (l := l)
      rw [he]
      by_cases hk : k = 1
      · subst hk
        have hb : brkP n x y := by have := h4 (by simp); simpa using this
        rw [if_pos hb] at hc ⊢
        rw [← hc]; rfl
      · have hb : ¬ brkP n x y := by have := h3 1 (by omega) (by omega) (by simp); simpa using this
        rw [if_neg hb] at hc ⊢
        have h := ih (n := n + 1) (k := k - 1) (by omega) (by simp at h2 ⊢; omega) (fun j g1 g2 g3 => by
          have := h3 (j + 1) (by omega) (by omega) (by simp at g3 ⊢; omega)
          obtain ⟨j', rfl⟩ : ∃ j', j = j' + 1 := ⟨j - 1, by omega⟩
          have e : n + 1 + (j' + 1) - 1 = n + (j' + 1 + 1) - 1 := by omega
          rw [e]
          simpa using this) (fun g => by
          have := h4 (by simp at g ⊢; omega)
          obtain ⟨k', rfl⟩ : ∃ k', k = k' + 2 := ⟨k - 2, by omega⟩
          have e : n + 1 + (k' + 2 - 1) - 1 = n + (k' + 2) - 1 := by omega
          rw [e]
          simpa using this)
        obtain ⟨k', rfl⟩ : ∃ k', k = k' + 1 := ⟨k - 1, by omega⟩
        rw [List.take_succ_cons, List.drop_succ_cons]
        simp only [Nat.add_sub_cancel] at h
        rw [hc] at h
        injection h with h5 h6
        rw [h5, h6]
theorem pieces_flat : ∀ {l : List Ent} {n : Nat}, (pieces n l).flatten = l := by
  intro l
  induction l with
  | nil => intro n; rfl
  | cons x l ih =>
    intro n
    cases l with
    | nil => rfl
    | cons y l =>
      obtain ⟨c, cs, hc, he⟩ := pieces_cons (n := n) (x := x) (y := y) (l := l)
      have h := ih (n := if brkP n x y then 0 else n + 1)
      rw [hc] at h
      rw [he]
      split <;> simpa using h
theorem pieces_pos : ∀ {l : List Ent} {n : Nat}, ∀ c ∈ pieces n l, 0 < c.length := by
  intro l
  induction l with
  | nil => intro n c hc; cases hc
  | cons x l ih =>
    intro n c hc
    cases l with
    | nil =>
      have hc : c ∈ [[x]] := hc
      rw [List.mem_singleton.1 hc]; simp
    | cons y l =>
      obtain ⟨c0, cs, h0, he⟩ := pieces_cons (n := n) (x := x) (y := y) (l := l)
      have h := ih (n := if brkP n x y then 0 else n + 1)
      rw [h0] at h
      rw [he] at hc
      split at hc
      · rcases List.mem_cons.1 hc with rfl | hc
        · simp
        · exact h c hc
      · rcases List.mem_cons.1 hc with rfl | hc
        · simp
        · exact h c (List.mem_cons_of_mem _ hc)
/-- No key stands in two pieces. -/
theorem pieces_keys : ∀ {l : List Ent} {n : Nat}, (l.Pairwise fun x y => eLess x y = true) → (pieces n l).Pairwise fun a b => ∀ x ∈ a, ∀ y ∈ b, slt x.key y.key = true := by
  intro l
  induction l with
  | nil => intro n _; exact .nil
  | cons x l ih =>
    intro n hp
    obtain ⟨hx, hp⟩ := List.pairwise_cons.1 hp
    cases l with
    | nil => show [[x]].Pairwise _; simp
    | cons y l =>
      obtain ⟨c, cs, h0, he⟩ := pieces_cons (n := n) (x := x) (y := y) (l := l)
      have h := ih (n := if brkP n x y then 0 else n + 1) hp
      have hfl := pieces_flat (l := y :: l) (n := if brkP n x y then 0 else n + 1)
      rw [h0] at h hfl
      rw [he]
      split
      · rename_i hb
        refine List.pairwise_cons.2 ⟨fun g hg u hu v hv => ?_, h⟩
        rw [List.mem_singleton.1 hu]
        have hm : v ∈ y :: l := by rw [← hfl]; exact List.mem_flatten.2 ⟨g, hg, hv⟩
        have hxy := hx y (List.mem_cons_self ..)
        have hs : slt x.key y.key = true := by
          simp only [eLess, Bool.or_eq_true, Bool.and_eq_true, decide_eq_true_eq] at hxy
          rcases hxy with h | ⟨h, _⟩
          · exact h
          · exact absurd h.symm hb.2
        rcases List.mem_cons.1 hm with rfl | hm
        · exact hs
        · exact slt_le_trans hs (eLess_key ((List.pairwise_cons.1 hp).1 v hm))
      · obtain ⟨h1, h2⟩ := List.pairwise_cons.1 h
        refine List.pairwise_cons.2 ⟨fun g hg u hu v hv => ?_, h2⟩
        rcases List.mem_cons.1 hu with rfl | hu
        · have hy : y ∈ c := by
            have hcp := pieces_pos c (show c ∈ pieces (if brkP n u y then 0 else n + 1) (y :: l) by rw [h0]; exact List.mem_cons_self ..)
            cases c with
            | nil => simp at hcp
            | cons z c =>
              have : z :: (c ++ cs.flatten) = y :: l := by simpa using hfl
              injection this with h1 _
              rw [h1]; exact List.mem_cons_self ..
          have := h1 g hg y hy v hv
          exact le_slt_trans (eLess_key (hx y (List.mem_cons_self ..))) this
        · exact h1 g hg u hu v hv
/-- The runs that entries in order are cut into. -/
def cutL (l : List Ent) : List Rn := (pieces 0 l).map mkRun
def cutOk (l : List Ent) : Bool := (pieces 0 l).all fun c => decide (c.length ≤ 150)
end Ev
namespace Ev
open Go
/-! ## Runs that meet a range -/
def meetsB (r : Rn) (low high : ByteArray) : Bool := !slt high (lowK r) && !slt (highK r) low
def inL (l : List Rn) (low high : ByteArray) : List Rn := l.filter fun r => meetsB r low high
def offL (l : List Rn) (low high : ByteArray) : List Rn := l.filter fun r => !meetsB r low high
def fromI (l : List Rn) (low : ByteArray) : Nat := (l.takeWhile fun r => slt (highK r) low).length
def toI (l : List Rn) (high : ByteArray) : Nat := (l.takeWhile fun r => !slt high (lowK r)).length
def ApartP (l : List Rn) : Prop := l.Pairwise fun a b => slt (highK a) (lowK b) = true
theorem slt_le {a b c : ByteArray} (h : slt a b = true) (h2 : slt c b = false) : slt c a = false := by
  cases h3 : slt c a with
  | false => rfl
  | true => rw [le_slt_trans (a := c) (b := c) (c := b) (slt_irr _) (slt_le_trans h3 (slt_asym h))] at h2; cases h2
theorem fromI_spec {l : List Rn} {low : ByteArray} (hr : ∀ r ∈ l, runOk r = true) (ha : ApartP l) : fromI l low ≤ l.length ∧ (∀ i (h : i < l.length), i < fromI l low → slt (highK l[i]) low = true) ∧ (∀ i (h : i < l.length), fromI l low ≤ i → slt (highK l[i]) low = false) := by
  have hle : fromI l low ≤ l.length := (List.takeWhile_sublist _).length_le
  refine ⟨hle, fun i h h1 => tw_lt (fun r => slt (highK r) low) l i h1 h, fun i h h1 => ?_⟩
  refine tw_ge (fun r => slt (highK r) low) (fun a b => slt (highK a) (highK b) = true) (fun x y hxy hy => ?_) l ?_ i h1 h
  · exact slt_le_trans hxy (slt_asym hy)
  · refine ha.imp_of_mem fun {a b} ha hb hab => slt_le_trans hab (low_high (hr b hb))
theorem toI_spec {l : List Rn} {high : ByteArray} (hr : ∀ r ∈ l, runOk r = true) (ha : ApartP l) : toI l high ≤ l.length ∧ (∀ i (h : i < l.length), i < toI l high → slt high (lowK l[i]) = false) ∧ (∀ i (h : i < l.length), toI l high ≤ i → slt high (lowK l[i]) = true) := by
  have hle : toI l high ≤ l.length := (List.takeWhile_sublist _).length_le
  refine ⟨hle, fun i h h1 => ?_, fun i h h1 => ?_⟩
  · have := tw_lt (fun r => !slt high (lowK r)) l i h1 h
    simpa using this
  · have := tw_ge (fun r => !slt high (lowK r)) (fun a b => slt (lowK a) (lowK b) = true) (fun x y hxy hy => ?_) l ?_ i h1 h
    · simpa using this
    · have hy : slt high (lowK y) = false := by simpa using hy
      rw [slt_le hxy hy]; rfl
    · refine ha.imp_of_mem fun {a b} ha hb hab => le_slt_trans (low_high (hr a ha)) hab
end Ev
namespace Ev
open Go
theorem mem_take_ix {α : Type} {l : List α} {k : Nat} {x : α} (h : x ∈ l.take k) : ∃ i, ∃ hi : i < l.length, i < k ∧ l[i] = x := by
  obtain ⟨i, hi, rfl⟩ := List.getElem_of_mem h
  rw [List.length_take] at hi
  exact ⟨i, by omega, by omega, by rw [List.getElem_take]⟩
theorem mem_drop_ix {α : Type} {l : List α} {k : Nat} {x : α} (h : x ∈ l.drop k) : ∃ i, ∃ hi : i < l.length, k ≤ i ∧ l[i] = x := by
  obtain ⟨i, hi, rfl⟩ := List.getElem_of_mem h
  rw [List.length_drop] at hi
  exact ⟨k + i, by omega, by omega, by rw [List.getElem_drop]⟩
theorem filter_all {α : Type} {p : α → Bool} {l : List α} (h : ∀ x ∈ l, p x = true) : l.filter p = l := List.filter_eq_self.2 h
theorem filter_non {α : Type} {p : α → Bool} {l : List α} (h : ∀ x ∈ l, p x = false) : l.filter p = [] := List.filter_eq_nil_iff.2 fun x hx => by rw [h x hx]; simp
theorem meet_split {l : List Rn} {low high : ByteArray} (hr : ∀ r ∈ l, runOk r = true) (ha : ApartP l) :
    inL l low high = (l.take (max (fromI l low) (toI l high))).drop (fromI l low) ∧ offL l low high = l.take (fromI l low) ++ l.drop (max (fromI l low) (toI l high)) := by
  obtain ⟨f1, f2, f3⟩ := fromI_spec (low := low) hr ha
  obtain ⟨t1, t2, t3⟩ := toI_spec (high := high) hr ha
  generalize fromI l low = f at *
  generalize toI l high = t at *
  have hA : ∀ r ∈ l.take f, meetsB r low high = false := fun r h => by
    obtain ⟨i, hi, h1, rfl⟩ := mem_take_ix h
    unfold meetsB; rw [f2 i hi h1]; simp
  have hM : ∀ r ∈ (l.take (max f t)).drop f, meetsB r low high = true := fun r h => by
    obtain ⟨i, hi, h1, h2⟩ := mem_drop_ix h
    rw [List.length_take] at hi
    rw [List.getElem_take] at h2
    subst h2
    unfold meetsB
    rw [t2 i (by omega) (by omega), f3 i (by omega) h1]; rfl
  have hB : ∀ r ∈ l.drop (max f t), meetsB r low high = false := fun r h => by
    obtain ⟨i, hi, h1, rfl⟩ := mem_drop_ix h
    unfold meetsB; rw [t3 i hi (by omega)]; rfl
  have hl : l = l.take f ++ ((l.take (max f t)).drop f ++ l.drop (max f t)) := by
    have e1 : l.take f = (l.take (max f t)).take f := by rw [List.take_take, Nat.min_eq_left (by omega)]
    rw [← List.append_assoc, e1, List.take_append_drop, List.take_append_drop]
  have hin : inL l low high = inL (l.take f ++ ((l.take (max f t)).drop f ++ l.drop (max f t))) low high := by rw [← hl]
  have hoff : offL l low high = offL (l.take f ++ ((l.take (max f t)).drop f ++ l.drop (max f t))) low high := by rw [← hl]
  rw [hin, hoff]
  unfold inL offL
  rw [List.filter_append, List.filter_append, List.filter_append, List.filter_append, filter_non hA, filter_all hM, filter_non hB, filter_all (l := l.take f) fun r h => by rw [hA r h]; rfl, filter_non (l := (l.take (max f t)).drop f) fun r h => by rw [hM r h]; rfl, filter_all (l := l.drop (max f t)) fun r h => by rw [hB r h]; rfl]
  simp
/-! ## The range of runs -/
def minB (a b : ByteArray) : ByteArray := if slt b a then b else a
def maxB (a b : ByteArray) : ByteArray := if slt a b then b else a
def lowR : List Rn → ByteArray
  | [] => ⟨#[]⟩
  | r :: l => l.foldl (fun m r => minB m (lowK r)) (lowK r)
def highR : List Rn → ByteArray
  | [] => ⟨#[]⟩
  | r :: l => l.foldl (fun m r => maxB m (highK r)) (highK r)
theorem minB_le (a b : ByteArray) : slt a (minB a b) = false ∧ slt b (minB a b) = false := by
  unfold minB
  split
  · rename_i h; exact ⟨slt_asym h, slt_irr _⟩
  · rename_i h; exact ⟨slt_irr _, by simpa using h⟩
theorem maxB_le (a b : ByteArray) : slt (maxB a b) a = false ∧ slt (maxB a b) b = false := by
  unfold maxB
  split
  · rename_i h; exact ⟨slt_asym h, slt_irr _⟩
  · rename_i h; exact ⟨slt_irr _, by simpa using h⟩
theorem le_tr {a b c : ByteArray} (h : slt b a = false) (h2 : slt c b = false) : slt c a = false := by
  cases h3 : slt c a with
  | false => rfl
  | true => rw [slt_le_trans h3 h] at h2; cases h2
theorem fold_min : ∀ (l : List Rn) (m : ByteArray), slt m (l.foldl (fun m r => minB m (lowK r)) m) = false ∧ (∀ r ∈ l, slt (lowK r) (l.foldl (fun m r => minB m (lowK r)) m) = false) ∧ (l.foldl (fun m r => minB m (lowK r)) m = m ∨ ∃ r ∈ l, l.foldl (fun m r => minB m (lowK r)) m = lowK r) := by
  intro l
  induction l with
  | nil => intro m; exact ⟨slt_irr _, fun r h => (nomatch h), .inl rfl⟩
  | cons r l ih =>
    intro m
    rw [List.foldl_cons]
    obtain ⟨h1, h2, h3⟩ := ih (minB m (lowK r))
    obtain ⟨g1, g2⟩ := minB_le m (lowK r)
    refine ⟨le_tr h1 g1, fun x hx => ?_, ?_⟩
    · rcases List.mem_cons.1 hx with rfl | hx
      · exact le_tr h1 g2
      · exact h2 x hx
    · rcases h3 with h3 | ⟨x, hx, h3⟩
      · rw [h3]
        unfold minB
        split
        · exact .inr ⟨r, List.mem_cons_self .., rfl⟩
        · exact .inl rfl
      · exact .inr ⟨x, List.mem_cons_of_mem _ hx, h3⟩
theorem fold_max : ∀ (l : List Rn) (m : ByteArray), slt (l.foldl (fun m r => maxB m (highK r)) m) m = false ∧ (∀ r ∈ l, slt (l.foldl (fun m r => maxB m (highK r)) m) (highK r) = false) ∧ (l.foldl (fun m r => maxB m (highK r)) m = m ∨ ∃ r ∈ l, l.foldl (fun m r => maxB m (highK r)) m = highK r) := by
  intro l
  induction l with
  | nil => intro m; exact ⟨slt_irr _, fun r h => (nomatch h), .inl rfl⟩
  | cons r l ih =>
    intro m
    rw [List.foldl_cons]
    obtain ⟨h1, h2, h3⟩ := ih (maxB m (highK r))
    obtain ⟨g1, g2⟩ := maxB_le m (highK r)
    refine ⟨le_tr g1 h1, fun x hx => ?_, ?_⟩
    · rcases List.mem_cons.1 hx with rfl | hx
      · exact le_tr g2 h1
      · exact h2 x hx
    · rcases h3 with h3 | ⟨x, hx, h3⟩
      · rw [h3]
        unfold maxB
        split
        · exact .inr ⟨r, List.mem_cons_self .., rfl⟩
        · exact .inl rfl
      · exact .inr ⟨x, List.mem_cons_of_mem _ hx, h3⟩
theorem lowR_spec {l : List Rn} (h : l ≠ []) : (∀ r ∈ l, slt (lowK r) (lowR l) = false) ∧ ∃ r ∈ l, lowR l = lowK r := by
  cases l with
  | nil => exact absurd rfl h
  | cons r l =>
    obtain ⟨h1, h2, h3⟩ := fold_min l (lowK r)
    refine ⟨fun x hx => ?_, ?_⟩
    · rcases List.mem_cons.1 hx with rfl | hx
      · exact h1
      · exact h2 x hx
    · rcases h3 with h3 | ⟨x, hx, h3⟩
      · exact ⟨r, List.mem_cons_self .., h3⟩
      · exact ⟨x, List.mem_cons_of_mem _ hx, h3⟩
theorem highR_spec {l : List Rn} (h : l ≠ []) : (∀ r ∈ l, slt (highR l) (highK r) = false) ∧ ∃ r ∈ l, highR l = highK r := by
  cases l with
  | nil => exact absurd rfl h
  | cons r l =>
    obtain ⟨h1, h2, h3⟩ := fold_max l (highK r)
    refine ⟨fun x hx => ?_, ?_⟩
    · rcases List.mem_cons.1 hx with rfl | hx
      · exact h1
      · exact h2 x hx
    · rcases h3 with h3 | ⟨x, hx, h3⟩
      · exact ⟨r, List.mem_cons_self .., h3⟩
      · exact ⟨x, List.mem_cons_of_mem _ hx, h3⟩
end Ev
namespace Ev
open Go
/-! ## Runs in order -/
def rLess (a b : Rn) : Bool := slt (lowK a) (lowK b)
theorem rLess_wk : Wk rLess := by
  constructor
  · intro a b h; exact slt_asym h
  · intro a b c h1 h2; exact le_tr (a := lowK c) (b := lowK b) (c := lowK a) h2 h1
def orderL (off made : List Rn) : List Rn := made.foldl (ins rLess) off
theorem order_eq {A M B : List Rn} (h : (A ++ (M ++ B)).Pairwise fun a b => slt (lowK a) (lowK b) = true) : orderL (A ++ B) M = A ++ (M ++ B) := by
  obtain ⟨hA, hMB, hAMB⟩ := List.pairwise_append.1 h
  obtain ⟨hM, hB, hM2⟩ := List.pairwise_append.1 hMB
  have hs : Srt rLess (A ++ (M ++ B)) := h.imp fun h => slt_asym h
  have hAB : Srt rLess (A ++ B) := List.pairwise_append.2 ⟨hA.imp fun h => slt_asym h, hB.imp fun h => slt_asym h, fun a ha b hb => slt_asym (hAMB a ha b (List.mem_append_right _ hb))⟩
  have e : orderL (A ++ B) M = isort rLess ((A ++ B) ++ M) := by
    unfold orderL isort
    rw [List.foldl_append]
    have : (A ++ B).foldl (ins rLess) [] = A ++ B := srt_id rLess_wk hAB
    rw [this]
  rw [e]
  have hp : ((A ++ B) ++ M).Perm (A ++ (M ++ B)) := by
    rw [List.append_assoc]
    exact List.perm_append_comm.append_left A
  refine srt_uniq ((isort_perm _ _).trans hp) (srt_isort rLess_wk _) hs fun x hx y hy h1 h2 => ?_
  have hx := hp.mem_iff.1 ((isort_perm _ _).mem_iff.1 hx)
  have hy := hp.mem_iff.1 ((isort_perm _ _).mem_iff.1 hy)
  obtain ⟨i, hi, rfl⟩ := List.getElem_of_mem hx
  obtain ⟨j, hj, rfl⟩ := List.getElem_of_mem hy
  by_cases hij : i = j
  · subst hij; rfl
  · by_cases hlt : i < j
    · have := List.pairwise_iff_getElem.1 h i j hi hj hlt
      have h1 : slt (lowK _) (lowK _) = false := h1
      rw [this] at h1; cases h1
    · have := List.pairwise_iff_getElem.1 h j i hj hi (by omega)
      have h2 : slt (lowK _) (lowK _) = false := h2
      rw [this] at h2; cases h2
/-! ## Compacting -/
def entsR (l : List Rn) : List Ent := (l.map Rn.ents).flatten
/-- Runs that are merged into the next level: what becomes of the levels. -/
def mergeL (l0 l1 l2 : List Rn) (lv : Nat) (taken : List Rn) (snaps : List Int) : List Ent :=
  squash (isort eLess (entsR (taken ++ inL (if lv = 0 then l1 else l2) (lowR taken) (highR taken)))) snaps
    (decide (lv = 1) || (inL l2 (lowR (taken ++ inL (if lv = 0 then l1 else l2) (lowR taken) (highR taken))) (highR (taken ++ inL (if lv = 0 then l1 else l2) (lowR taken) (highR taken)))).isEmpty)
def mergeR (l0 l1 l2 : List Rn) (lv : Nat) (taken : List Rn) (snaps : List Int) : List Rn :=
  orderL (offL (if lv = 0 then l1 else l2) (lowR taken) (highR taken)) (cutL (mergeL l0 l1 l2 lv taken snaps))
def mergeOk (l0 l1 l2 : List Rn) (lv : Nat) (taken : List Rn) (snaps : List Int) : Bool :=
  cutOk (mergeL l0 l1 l2 lv taken snaps) && decide ((mergeR l0 l1 l2 lv taken snaps).length ≤ 8)
def compactD (level pick : Int) (t : Tre) : Tre × Bool := match t.levels with
  | [l0, l1, l2] =>
    if level = 0 ∧ 0 < l0.length then
      (if mergeOk l0 l1 l2 0 l0 t.snaps then ({ t with levels := [[], mergeR l0 l1 l2 0 l0 t.snaps, l2] }, true) else (t, false))
    else if level = 1 ∧ 0 ≤ pick ∧ pick < l1.length then
      (if mergeOk l0 l1 l2 1 ((l1.drop pick.toNat).take 1) t.snaps then ({ t with levels := [l0, l1.take pick.toNat ++ l1.drop (pick.toNat + 1), mergeR l0 l1 l2 1 ((l1.drop pick.toNat).take 1) t.snaps] }, true) else (t, false))
    else (t, false)
  | _ => (t, false)
end Ev
namespace Ev
open Go
theorem entsR_mem {l : List Rn} {e : Ent} : e ∈ entsR l ↔ ∃ r ∈ l, e ∈ r.ents := by
  unfold entsR
  rw [List.mem_flatten]
  constructor
  · rintro ⟨x, hx, he⟩
    obtain ⟨r, hr, rfl⟩ := List.mem_map.1 hx
    exact ⟨r, hr, he⟩
  · rintro ⟨r, hr, he⟩
    exact ⟨_, List.mem_map.2 ⟨r, hr, rfl⟩, he⟩
theorem low_mem {r : Rn} (h : runOk r = true) : ∃ e ∈ r.ents, lowK r = e.key := by
  have hl := (runOk_len h).1
  refine ⟨r.ents[0]'(by omega), List.getElem_mem _, ?_⟩
  unfold lowK
  rw [List.getD_eq_getElem?_getD, List.getElem?_eq_getElem (by omega)]; rfl
theorem high_mem {r : Rn} (h : runOk r = true) : ∃ e ∈ r.ents, highK r = e.key := by
  have hl := (runOk_len h).1
  refine ⟨r.ents[r.ents.length - 1]'(by omega), List.getElem_mem _, ?_⟩
  unfold highK
  rw [List.getD_eq_getElem?_getD, List.getElem?_eq_getElem (by omega)]; rfl
theorem off_keys {l taken : List Rn} (hr : ∀ r ∈ l, runOk r = true) (ha : ApartP l) (ht : ∀ r ∈ taken, runOk r = true) (hne : taken ≠ []) :
    ∀ e ∈ entsR (taken ++ inL l (lowR taken) (highR taken)), (∀ a ∈ l.take (fromI l (lowR taken)), slt (highK a) e.key = true) ∧ (∀ b ∈ l.drop (max (fromI l (lowR taken)) (toI l (highR taken))), slt e.key (lowK b) = true) := by
  obtain ⟨f1, f2, f3⟩ := fromI_spec (low := lowR taken) hr ha
  obtain ⟨t1, t2, t3⟩ := toI_spec (high := highR taken) hr ha
  obtain ⟨L1, _⟩ := lowR_spec hne
  obtain ⟨H1, _⟩ := highR_spec hne
  intro e he
  obtain ⟨r, hrm, her⟩ := entsR_mem.1 he
  rcases List.mem_append.1 hrm with hrm | hrm
  · obtain ⟨k1, k2⟩ := key_range (ht r hrm) her
    refine ⟨fun a ham => ?_, fun b hbm => ?_⟩
    · obtain ⟨i, hi, h1, rfl⟩ := mem_take_ix ham
      exact slt_le_trans (slt_le_trans (f2 i hi h1) (L1 r hrm)) k1
    · obtain ⟨i, hi, h1, rfl⟩ := mem_drop_ix hbm
      exact le_slt_trans k2 (le_slt_trans (H1 r hrm) (t3 i hi (by omega)))
  · rw [(meet_split hr ha).1] at hrm
    obtain ⟨j, hj, j1, j2⟩ := mem_drop_ix hrm
    rw [List.length_take] at hj
    rw [List.getElem_take] at j2
    have hjl : j < l.length := by omega
    have hrl : r ∈ l := by rw [← j2]; exact List.getElem_mem _
    obtain ⟨k1, k2⟩ := key_range (hr r hrl) her
    refine ⟨fun a ham => ?_, fun b hbm => ?_⟩
    · obtain ⟨i, hi, h1, rfl⟩ := mem_take_ix ham
      have := List.pairwise_iff_getElem.1 ha i j hi hjl (by omega)
      rw [j2] at this
      exact slt_le_trans this k1
    · obtain ⟨i, hi, h1, rfl⟩ := mem_drop_ix hbm
      have := List.pairwise_iff_getElem.1 ha j i hjl hi (by omega)
      rw [j2] at this
      exact le_slt_trans k2 this
theorem apartP_of {l : List Rn} (hr : ∀ r ∈ l, runOk r = true) (h : apartB l = true) : ApartP l := apart_pw l hr h
theorem apartB_of {l : List Rn} (h : ApartP l) : apartB l = true := apart_iff.2 fun i hi => List.pairwise_iff_getElem.1 h i (i + 1) (by omega) hi (by omega)
/-- The pieces of a list in order are right runs that stand apart. -/
theorem cutL_runs {z : List Ent} (ho : ordOk z = true) (hc : cutOk z = true) : (∀ r ∈ cutL z, runOk r = true) ∧ ApartP (cutL z) ∧ (∀ r ∈ cutL z, ∀ e ∈ r.ents, e ∈ z) ∧ entsR (cutL z) = z := by
  have hfl := pieces_flat (l := z) (n := 0)
  have hmem : ∀ c ∈ pieces 0 z, ∀ e ∈ c, e ∈ z := fun c hc e he => by rw [← hfl]; exact List.mem_flatten.2 ⟨c, hc, he⟩
  have hsub : ∀ c ∈ pieces 0 z, c.Sublist z := fun c hc => by
    have := List.sublist_flatten_of_mem hc
    rwa [hfl] at this
  have hok : ∀ c ∈ pieces 0 z, runOk (mkRun c) = true := fun c hcm => by
    refine runOk_mk (ord_of_pw ((pw_of_ord ho).sublist (hsub c hcm)) fun e he => ordOk_all ho e (hmem c hcm e he)) (pieces_pos c hcm) ?_
    exact of_decide_eq_true (List.all_eq_true.1 hc c hcm)
  refine ⟨fun r hr => ?_, ?_, fun r hr e he => ?_, ?_⟩
  · obtain ⟨c, hcm, rfl⟩ := List.mem_map.1 hr
    exact hok c hcm
  · unfold ApartP cutL
    rw [List.pairwise_map]
    refine (pieces_keys (n := 0) (pw_of_ord ho)).imp_of_mem fun {a b} ham hbm hab => ?_
    obtain ⟨x, hx, h1⟩ := high_mem (hok a ham)
    obtain ⟨y, hy, h2⟩ := low_mem (hok b hbm)
    rw [h1, h2]
    exact hab x hx y hy
  · obtain ⟨c, hcm, rfl⟩ := List.mem_map.1 hr
    exact hmem c hcm e he
  · unfold entsR cutL
    rw [List.map_map]
    have : (Rn.ents ∘ mkRun) = id := rfl
    rw [this, List.map_id, hfl]
end Ev
namespace Ev
open Go
theorem apart_low {l : List Rn} (hr : ∀ r ∈ l, runOk r = true) (h : ApartP l) : l.Pairwise fun a b => slt (lowK a) (lowK b) = true :=
  h.imp_of_mem fun {a b} ha _ hab => le_slt_trans (low_high (hr a ha)) hab
theorem merge_apart {l taken : List Rn} {z : List Ent} (hr : ∀ r ∈ l, runOk r = true) (ha : ApartP l) (ht : ∀ r ∈ taken, runOk r = true) (hne : taken ≠ []) (hz : ordOk z = true) (hc : cutOk z = true)
    (hzk : ∀ e ∈ z, ∃ e' ∈ entsR (taken ++ inL l (lowR taken) (highR taken)), e.key = e'.key) :
    ApartP (l.take (fromI l (lowR taken)) ++ (cutL z ++ l.drop (max (fromI l (lowR taken)) (toI l (highR taken))))) ∧
    (∀ r ∈ l.take (fromI l (lowR taken)) ++ (cutL z ++ l.drop (max (fromI l (lowR taken)) (toI l (highR taken)))), runOk r = true) ∧
    orderL (offL l (lowR taken) (highR taken)) (cutL z) = l.take (fromI l (lowR taken)) ++ (cutL z ++ l.drop (max (fromI l (lowR taken)) (toI l (highR taken)))) := by
  have hk := off_keys hr ha ht hne
  obtain ⟨c1, c2, c3, _⟩ := cutL_runs hz hc
  have hf : fromI l (lowR taken) ≤ max (fromI l (lowR taken)) (toI l (highR taken)) := Nat.le_max_left _ _
  have hoff := (meet_split (low := lowR taken) (high := highR taken) hr ha).2
  generalize fromI l (lowR taken) = f at *
  generalize max f (toI l (highR taken)) = k at *
  have hkey : ∀ e ∈ z, (∀ a ∈ l.take f, slt (highK a) e.key = true) ∧ (∀ b ∈ l.drop k, slt e.key (lowK b) = true) := fun e he => by
    obtain ⟨e', h1, h2⟩ := hzk e he
    rw [h2]; exact hk e' h1
  have hA : ∀ r ∈ l.take f, runOk r = true := fun r h => hr r (List.mem_of_mem_take h)
  have hB : ∀ r ∈ l.drop k, runOk r = true := fun r h => hr r (List.mem_of_mem_drop h)
  have hall : ∀ r ∈ l.take f ++ (cutL z ++ l.drop k), runOk r = true := fun r h => by
    rcases List.mem_append.1 h with h | h
    · exact hA r h
    · rcases List.mem_append.1 h with h | h
      · exact c1 r h
      · exact hB r h
  have hap : ApartP (l.take f ++ (cutL z ++ l.drop k)) := by
    refine List.pairwise_append.2 ⟨ha.sublist (List.take_sublist _ _), List.pairwise_append.2 ⟨c2, ha.sublist (List.drop_sublist _ _), fun a ham b hbm => ?_⟩, fun a ham b hbm => ?_⟩
    · obtain ⟨x, hx, h1⟩ := high_mem (c1 a ham)
      rw [h1]
      exact (hkey x (c3 a ham x hx)).2 b hbm
    · rcases List.mem_append.1 hbm with hbm | hbm
      · obtain ⟨y, hy, h2⟩ := low_mem (c1 b hbm)
        rw [h2]
        exact (hkey y (c3 b hbm y hy)).1 a ham
      · obtain ⟨i, hi, h1, rfl⟩ := mem_take_ix ham
        obtain ⟨j, hj, h2, rfl⟩ := mem_drop_ix hbm
        exact List.pairwise_iff_getElem.1 ha i j hi hj (by omega)
  refine ⟨hap, hall, ?_⟩
  rw [hoff]
  exact order_eq (apart_low hall hap)
/-! ## Layers of levels -/
/-- No list of the first stands above one of the second. -/
def AboveL (a b : List (List Ent)) : Prop := ∀ x ∈ a, ∀ y ∈ b, Above x y
theorem aboveL_flat {a b : List (List Ent)} : AboveL a b ↔ Above a.flatten b.flatten := above_flat
theorem layersP {l0 l1 l2 : List Rn} {mem : List Ent} : (layers l0 l1 l2 mem).Pairwise Above ↔
    ((l2.map Rn.ents).Pairwise Above ∧ (l1.map Rn.ents).Pairwise Above ∧ (l0.map Rn.ents).Pairwise Above) ∧
    Above (entsR l2) (entsR l1) ∧ Above (entsR l2) (entsR l0) ∧ Above (entsR l2) mem ∧ Above (entsR l1) (entsR l0) ∧ Above (entsR l1) mem ∧ Above (entsR l0) mem := by
  unfold layers entsR
  rw [← aboveL_flat, ← aboveL_flat, ← aboveL_flat, ← above_flat1, ← above_flat1, ← above_flat1]
  unfold AboveL
  simp only [List.pairwise_append, List.pairwise_cons, List.not_mem_nil, false_implies, implies_true, List.Pairwise.nil, and_true, List.mem_append, List.mem_cons, or_false]
  constructor
  · rintro ⟨h1, ⟨h2, ⟨h3, h4⟩, h5⟩, h6⟩
    exact ⟨⟨h1, h2, h3⟩, fun x hx y hy => h6 x hx y (.inl hy), fun x hx y hy => h6 x hx y (.inr (.inl hy)), fun x hx => h6 x hx mem (.inr (.inr rfl)), fun x hx y hy => h5 x hx y (.inl hy), fun x hx => h5 x hx mem (.inr rfl), fun x hx => h4.2 x hx mem rfl⟩
  · rintro ⟨⟨h1, h2, h3⟩, g1, g2, g3, g4, g5, g6⟩
    refine ⟨h1, ⟨h2, ⟨h3, trivial, fun x hx y hy => by rw [hy]; exact g6 x hx⟩, fun x hx y hy => ?_⟩, fun x hx y hy => ?_⟩
    · rcases hy with hy | hy
      · exact g4 x hx y hy
      · rw [hy]; exact g5 x hx
    · rcases hy with hy | hy | hy
      · exact g1 x hx y hy
      · exact g2 x hx y hy
      · rw [hy]; exact g3 x hx
end Ev
namespace Ev
open Go
theorem entsR_app (a b : List Rn) : entsR (a ++ b) = entsR a ++ entsR b := by unfold entsR; rw [List.map_append, List.flatten_append]
theorem entsR_sub {a b : List Rn} (h : a.Sublist b) : ∀ e ∈ entsR a, e ∈ entsR b := fun e he => by
  obtain ⟨r, hr, her⟩ := entsR_mem.1 he
  exact entsR_mem.2 ⟨r, h.subset hr, her⟩
theorem dif_ents {l : List Rn} (hr : ∀ r ∈ l, runOk r = true) (h : (l.map Rn.ents).Pairwise Above) : (entsR l).Pairwise Dif := by
  unfold entsR
  rw [List.pairwise_flatten]
  refine ⟨fun x hx => ?_, h.imp fun hab x hx y hy => (above_dif hab y hy x hx).symm⟩
  obtain ⟨r, hrm, rfl⟩ := List.mem_map.1 hx
  exact ord_dif (runOk_len (hr r hrm)).2.2.1
theorem dif_app {a b : List Ent} (ha : a.Pairwise Dif) (hb : b.Pairwise Dif) (h : Above b a) : (a ++ b).Pairwise Dif := List.pairwise_append.2 ⟨ha, hb, above_dif h⟩
theorem above_like {a b b' : List Ent} (h : Above b a) (hl : ∀ y ∈ b', ∃ y' ∈ b, y.seq = y'.seq ∧ y.key = y'.key) : Above b' a := fun x hx y hy hk => by
  obtain ⟨y', h1, h2, h3⟩ := hl y hy
  rw [h2]; exact h x hx y' h1 (hk.trans h3)
theorem above_like2 {a a' b : List Ent} (h : Above b a) (hl : ∀ x ∈ a', ∃ x' ∈ a, x.seq = x'.seq ∧ x.key = x'.key) : Above b a' := fun x hx y hy hk => by
  obtain ⟨x', h1, h2, h3⟩ := hl x hx
  rw [h2]; exact h x' h1 y hy (h3.symm.trans hk)
theorem above_app {a b c : List Ent} : Above c (a ++ b) ↔ Above c a ∧ Above c b := by
  unfold Above
  simp only [List.mem_append]
  exact ⟨fun h => ⟨fun x hx => h x (.inl hx), fun x hx => h x (.inr hx)⟩, fun h x hx => hx.elim (h.1 x) (h.2 x)⟩
theorem app_above {a b c : List Ent} : Above (a ++ b) c ↔ Above a c ∧ Above b c := by
  unfold Above
  simp only [List.mem_append]
  exact ⟨fun h => ⟨fun x hx y hy => h x hx y (.inl hy), fun x hx y hy => h x hx y (.inr hy)⟩, fun h x hx y hy => hy.elim (h.1 x hx y) (h.2 x hx y)⟩
theorem apart_ne {l : List Rn} (hr : ∀ r ∈ l, runOk r = true) (ha : ApartP l) {i j : Nat} (hi : i < l.length) (hj : j < l.length) (hij : i ≠ j) {x y : Ent} (hx : x ∈ l[i].ents) (hy : y ∈ l[j].ents) : x.key ≠ y.key := by
  have key : ∀ {i j : Nat} (hi : i < l.length) (hj : j < l.length), i < j → ∀ {x y : Ent}, x ∈ l[i].ents → y ∈ l[j].ents → slt x.key y.key = true := by
    intro i j hi hj hij x y hx hy
    have h := List.pairwise_iff_getElem.1 ha _ _ hi hj hij
    exact le_slt_trans (key_range (hr _ (List.getElem_mem hi)) hx).2 (slt_le_trans h (key_range (hr _ (List.getElem_mem hj)) hy).1)
  by_cases hlt : i < j
  · exact slt_ne (key hi hj hlt hx hy)
  · exact (slt_ne (key hj hi (by omega) hy hx)).symm
/-- What a merge makes. -/
structure Merged (taken l : List Rn) (snaps : List Int) (bottom : Bool) : Prop where
  dif : (entsR (taken ++ inL l (lowR taken) (highR taken))).Pairwise Dif
  ord : ordOk (squash (isort eLess (entsR (taken ++ inL l (lowR taken) (highR taken)))) snaps bottom) = true
  like : ∀ e ∈ squash (isort eLess (entsR (taken ++ inL l (lowR taken) (highR taken)))) snaps bottom, ∃ e' ∈ entsR (taken ++ inL l (lowR taken) (highR taken)), e.seq = e'.seq ∧ e.key = e'.key
theorem merged_of {taken l : List Rn} {snaps : List Int} {bottom : Bool} (hr : ∀ r ∈ l, runOk r = true) (ha : ApartP l) (ht : ∀ r ∈ taken, runOk r = true) (htA : (taken.map Rn.ents).Pairwise Above) (hAb : Above (entsR l) (entsR taken)) : Merged taken l snaps bottom := by
  have hsub : (inL l (lowR taken) (highR taken)).Sublist l := List.filter_sublist
  have hI : (entsR (inL l (lowR taken) (highR taken))).Pairwise Dif :=
    dif_ents (fun r h => hr r (hsub.subset h)) ((apart_above (fun r h => hr r h) (apartB_of ha)).sublist (hsub.map _))
  have hd : (entsR (taken ++ inL l (lowR taken) (highR taken))).Pairwise Dif := by
    rw [entsR_app]
    exact dif_app (dif_ents ht htA) hI (above_like hAb fun y hy => ⟨y, entsR_sub hsub y hy, rfl, rfl⟩)
  have he : ∀ e ∈ entsR (taken ++ inL l (lowR taken) (highR taken)), entOk e = true := fun e he => by
    obtain ⟨r, hrm, her⟩ := entsR_mem.1 he
    rcases List.mem_append.1 hrm with h | h
    · exact ordOk_all (runOk_len (ht r h)).2.2.1 e her
    · exact ordOk_all (runOk_len (hr r (hsub.subset h))).2.2.1 e her
  refine ⟨hd, squash_ok (dif_ord hd he), fun e hem => ?_⟩
  obtain ⟨e', h1, h2⟩ := squash_mem hem
  exact ⟨e', (isort_perm _ _).mem_iff.1 h1, h2⟩
end Ev
namespace Ev
open Go
/-- The level that a merge makes: its runs, and where their entries come from. -/
theorem mergeR_spec {taken l : List Rn} {snaps : List Int} {bottom : Bool} (hr : ∀ r ∈ l, runOk r = true) (ha : ApartP l) (ht : ∀ r ∈ taken, runOk r = true) (hne : taken ≠ []) (hm : Merged taken l snaps bottom)
    (hc : cutOk (squash (isort eLess (entsR (taken ++ inL l (lowR taken) (highR taken)))) snaps bottom) = true) (z : List Ent) (hz : squash (isort eLess (entsR (taken ++ inL l (lowR taken) (highR taken)))) snaps bottom = z) :
    (∀ r ∈ orderL (offL l (lowR taken) (highR taken)) (cutL z), runOk r = true) ∧ ApartP (orderL (offL l (lowR taken) (highR taken)) (cutL z)) ∧
    (entsR (orderL (offL l (lowR taken) (highR taken)) (cutL z))).Perm (entsR (offL l (lowR taken) (highR taken)) ++ z) ∧
    (∀ e ∈ entsR (orderL (offL l (lowR taken) (highR taken)) (cutL z)), ∃ e' ∈ entsR taken ++ entsR l, e.seq = e'.seq ∧ e.key = e'.key) := by
  rw [hz] at hc
  have ho := hm.ord
  have hl := hm.like
  rw [hz] at ho hl
  have hsub : (inL l (lowR taken) (highR taken)).Sublist l := List.filter_sublist
  have hsub2 : (offL l (lowR taken) (highR taken)).Sublist l := List.filter_sublist
  obtain ⟨m1, m2, m3⟩ := merge_apart hr ha ht hne ho hc (fun e he => by obtain ⟨e', h1, h2, h3⟩ := hl e he; exact ⟨e', h1, h3⟩)
  obtain ⟨_, _, _, c4⟩ := cutL_runs ho hc
  have hoff := (meet_split (low := lowR taken) (high := highR taken) hr ha).2
  have hp : (entsR (orderL (offL l (lowR taken) (highR taken)) (cutL z))).Perm (entsR (offL l (lowR taken) (highR taken)) ++ z) := by
    rw [m3, entsR_app, entsR_app, c4, hoff, entsR_app, List.append_assoc]
    exact List.perm_append_comm.append_left _
  refine ⟨by rw [m3]; exact m2, by rw [m3]; exact m1, hp, fun e he => ?_⟩
  rcases List.mem_append.1 (hp.mem_iff.1 he) with h | h
  · exact ⟨e, List.mem_append_right _ (entsR_sub hsub2 e h), rfl, rfl⟩
  · obtain ⟨e', h1, h2⟩ := hl e h
    rw [entsR_app] at h1
    rcases List.mem_append.1 h1 with h1 | h1
    · exact ⟨e', List.mem_append_left _ h1, h2⟩
    · exact ⟨e', List.mem_append_right _ (entsR_sub hsub e' h1), h2⟩
theorem levB_of {l : List Rn} {n : Nat} (h1 : l.length ≤ n) (h2 : ∀ r ∈ l, runOk r = true) (h3 : ApartP l) : levB l n true = true := by
  unfold levB
  rw [Bool.and_eq_true, Bool.and_eq_true, decide_eq_true_iff, List.all_eq_true]
  exact ⟨⟨h1, h2⟩, by rw [apartB_of h3]; rfl⟩
theorem levB_ap {l : List Rn} {n : Nat} (h : levB l n true = true) : ApartP l := by
  have h2 := (levB_ok h).2
  unfold levB at h
  rw [Bool.and_eq_true] at h
  exact apartP_of h2 (by simpa using h.2)
theorem mergeOk_iff {l0 l1 l2 taken : List Rn} {lv : Nat} {snaps : List Int} (h : mergeOk l0 l1 l2 lv taken snaps = true) : cutOk (mergeL l0 l1 l2 lv taken snaps) = true ∧ (mergeR l0 l1 l2 lv taken snaps).length ≤ 8 := by
  unfold mergeOk at h
  rw [Bool.and_eq_true, decide_eq_true_iff] at h
  exact h
theorem seqs_iff {l0 l1 l2 : List Rn} {mem : List Ent} {seq : Int} : (∀ l ∈ layers l0 l1 l2 mem, ∀ e ∈ l, e.seq ≤ seq) ↔ (∀ e ∈ entsR l0, e.seq ≤ seq) ∧ (∀ e ∈ entsR l1, e.seq ≤ seq) ∧ (∀ e ∈ entsR l2, e.seq ≤ seq) ∧ ∀ e ∈ mem, e.seq ≤ seq := by
  have key : ∀ {l : List Rn}, (∀ x ∈ l.map Rn.ents, ∀ e ∈ x, e.seq ≤ seq) ↔ ∀ e ∈ entsR l, e.seq ≤ seq := fun {l} => by
    constructor
    · intro h e he
      obtain ⟨r, hr, her⟩ := entsR_mem.1 he
      exact h _ (List.mem_map.2 ⟨r, hr, rfl⟩) e her
    · intro h x hx e he
      obtain ⟨r, hr, rfl⟩ := List.mem_map.1 hx
      exact h e (entsR_mem.2 ⟨r, hr, he⟩)
  unfold layers
  simp only [List.mem_append, List.mem_singleton]
  rw [← key, ← key, ← key]
  constructor
  · intro h
    exact ⟨fun l hl => h l (.inr (.inr (.inl hl))), fun l hl => h l (.inr (.inl hl)), fun l hl => h l (.inl hl), h mem (.inr (.inr (.inr rfl)))⟩
  · rintro ⟨h0, h1, h2, h3⟩ l (hl | hl | hl | hl)
    · exact h2 l hl
    · exact h1 l hl
    · exact h0 l hl
    · rw [hl]; exact h3
theorem compactD_ok {t : Tre} (h : treeOk t = true) (level pick : Int) : treeOk (compactD level pick t).1 = true := by
  obtain ⟨l0, l1, l2, he, h3⟩ := treeOk_levels h
  obtain ⟨a, ⟨v0, v1, v2⟩, a7, a8⟩ := treeP.1 h3
  obtain ⟨s0, s1, s2, s3⟩ := seqs_iff.1 a7
  obtain ⟨⟨p2, p1, p0⟩, b21, b20, b2m, b10, b1m, b0m⟩ := layersP.1 a8
  have r0 := (levB_ok v0).2
  have r1 := (levB_ok v1).2
  have r2 := (levB_ok v2).2
  have ap1 := levB_ap v1
  have ap2 := levB_ap v2
  unfold compactD
  rw [he]
  simp only
  split
  · rename_i hlv
    split
    · rename_i hok
      obtain ⟨hc, hlen⟩ := mergeOk_iff hok
      have hne : l0 ≠ [] := fun e => by rw [e] at hlv; simp at hlv
      have hm := merged_of (snaps := t.snaps) (bottom := decide ((0 : Nat) = 1) || (inL l2 (lowR (l0 ++ inL l1 (lowR l0) (highR l0))) (highR (l0 ++ inL l1 (lowR l0) (highR l0)))).isEmpty) r1 ap1 r0 p0 b10
      obtain ⟨k1, k2, _, k4⟩ := mergeR_spec r1 ap1 r0 hne hm hc _ rfl
      have k1 : ∀ r ∈ mergeR l0 l1 l2 0 l0 t.snaps, runOk r = true := k1
      have k2 : ApartP (mergeR l0 l1 l2 0 l0 t.snaps) := k2
      have k4 : ∀ e ∈ entsR (mergeR l0 l1 l2 0 l0 t.snaps), ∃ e' ∈ entsR l0 ++ entsR l1, e.seq = e'.seq ∧ e.key = e'.key := k4
      show treeOk3 t.seq t.mem [] (mergeR l0 l1 l2 0 l0 t.snaps) l2 t.snaps = true
      generalize mergeR l0 l1 l2 0 l0 t.snaps = N at *
      refine treeP.2 ⟨a, ⟨rfl, levB_of hlen k1 k2, v2⟩, seqs_iff.2 ⟨fun e he => (nomatch he), fun e he => ?_, s2, s3⟩, layersP.2 ⟨⟨p2, apart_above k1 (apartB_of k2), .nil⟩, above_like2 (above_app.2 ⟨b20, b21⟩) k4, fun x hx => (nomatch hx), b2m, fun x hx => (nomatch hx), above_like (app_above.2 ⟨b0m, b1m⟩) k4, fun x _ y hy => (nomatch hy)⟩⟩
      obtain ⟨e', h1, h2, _⟩ := k4 e he
      rw [h2]
      exact (List.mem_append.1 h1).elim (s0 e') (s1 e')
    · exact h
  · split
    · rename_i hlv
      split
      · rename_i hok
        obtain ⟨hc, hlen⟩ := mergeOk_iff hok
        obtain ⟨p, hp⟩ : ∃ p : Nat, pick = p := ⟨pick.toNat, by omega⟩
        subst hp
        have hpl : p < l1.length := by omega
        rw [Int.toNat_natCast] at hok hc hlen ⊢
        have htk : (l1.drop p).take 1 = [l1[p]] := by rw [List.drop_eq_getElem_cons hpl]; rfl
        rw [htk] at hok hc hlen ⊢
        have hpm : l1[p] ∈ l1 := List.getElem_mem hpl
        have ht : ∀ r ∈ [l1[p]], runOk r = true := fun r hr => by rw [List.mem_singleton.1 hr]; exact r1 _ hpm
        have hte : ∀ e ∈ entsR [l1[p]], e ∈ entsR l1 := fun e he => by
          obtain ⟨r, hr, her⟩ := entsR_mem.1 he
          rw [List.mem_singleton.1 hr] at her
          exact entsR_mem.2 ⟨_, hpm, her⟩
        have hAb : Above (entsR l2) (entsR [l1[p]]) := fun x hx y hy hk => b21 x (hte x hx) y hy hk
        have hm := merged_of (snaps := t.snaps) (bottom := decide ((1 : Nat) = 1) || (inL l2 (lowR ([l1[p]] ++ inL l2 (lowR [l1[p]]) (highR [l1[p]]))) (highR ([l1[p]] ++ inL l2 (lowR [l1[p]]) (highR [l1[p]])))).isEmpty) r2 ap2 ht (by simp) hAb
        obtain ⟨k1, k2, _, k4⟩ := mergeR_spec r2 ap2 ht (by simp) hm hc _ rfl
        have k1 : ∀ r ∈ mergeR l0 l1 l2 1 [l1[p]] t.snaps, runOk r = true := k1
        have k2 : ApartP (mergeR l0 l1 l2 1 [l1[p]] t.snaps) := k2
        have k4 : ∀ e ∈ entsR (mergeR l0 l1 l2 1 [l1[p]] t.snaps), ∃ e' ∈ entsR [l1[p]] ++ entsR l2, e.seq = e'.seq ∧ e.key = e'.key := k4
        show treeOk3 t.seq t.mem l0 (l1.take p ++ l1.drop (p + 1)) (mergeR l0 l1 l2 1 [l1[p]] t.snaps) t.snaps = true
        generalize mergeR l0 l1 l2 1 [l1[p]] t.snaps = N at *
        have hsub : (l1.take p ++ l1.drop (p + 1)).Sublist l1 := by
          conv => rhs; rw [← List.take_append_drop p l1]
          exact (List.Sublist.refl _).append (List.drop_sublist_drop_left _ (by omega))
        have hres : ∀ e ∈ entsR (l1.take p ++ l1.drop (p + 1)), e ∈ entsR l1 := entsR_sub hsub
        have hrest : Above (entsR [l1[p]]) (entsR (l1.take p ++ l1.drop (p + 1))) := fun x hx y hy hk => by
          obtain ⟨r, hr, hxr⟩ := entsR_mem.1 hx
          obtain ⟨q, hq, hyq⟩ := entsR_mem.1 hy
          rw [List.mem_singleton.1 hq] at hyq
          exfalso
          rcases List.mem_append.1 hr with hr | hr
          · obtain ⟨i, hi, h1, rfl⟩ := mem_take_ix hr
            exact apart_ne r1 ap1 hi hpl (by omega) hxr hyq hk
          · obtain ⟨i, hi, h1, rfl⟩ := mem_drop_ix hr
            exact apart_ne r1 ap1 hi hpl (by omega) hxr hyq hk
        have h21 : Above (entsR N) (entsR (l1.take p ++ l1.drop (p + 1))) := above_like (app_above.2 ⟨hrest, fun x hx y hy hk => b21 x (hres x hx) y hy hk⟩) k4
        have h20 : Above (entsR N) (entsR l0) := above_like (app_above.2 ⟨fun x hx y hy hk => b10 x hx y (hte y hy) hk, b20⟩) k4
        have h2m : Above (entsR N) t.mem := above_like (app_above.2 ⟨fun x hx y hy hk => b1m x hx y (hte y hy) hk, b2m⟩) k4
        refine treeP.2 ⟨a, ⟨v0, levB_of (Nat.le_trans hsub.length_le (levB_ok v1).1) (fun r hr => r1 r (hsub.subset hr)) (ap1.sublist hsub), levB_of hlen k1 k2⟩, seqs_iff.2 ⟨s0, fun e he => s1 e (hres e he), fun e he => ?_, s3⟩, layersP.2 ⟨⟨apart_above k1 (apartB_of k2), p1.sublist (hsub.map _), p0⟩, h21, h20, h2m, fun x hx y hy hk => b10 x hx y (hres y hy) hk, fun x hx y hy hk => b1m x hx y (hres y hy) hk, b0m⟩⟩
        obtain ⟨e', h1, h2, _⟩ := k4 e he
        rw [h2]
        exact (List.mem_append.1 h1).elim (fun h => s1 e' (hte e' h)) (s2 e')
      · exact h
    · exact h
end Ev
namespace Ev
open Go
/-! ## What a compacted tree tells -/
theorem cell_mid {B M A : List Ent} {snaps : List Int} {last : Bool} {key : ByteArray} {s : Int} (hd : (B ++ M ++ A).Pairwise Dif) (he : ∀ e ∈ M, entOk e = true) (hBM : Above B M) (hBA : Above B A) (hMA : Above M A)
    (hl : last = true → ∀ x ∈ M, ∀ y ∈ B, x.key ≠ y.key) (hs : s ∈ snaps ∨ ∀ e ∈ M, e.seq ≤ s) :
    (B ++ squash (isort eLess M) snaps last ++ A).Pairwise Dif ∧ cellAll (B ++ squash (isort eLess M) snaps last ++ A) key s = cellAll (B ++ M ++ A) key s := by
  obtain ⟨dBM, dA, _⟩ := List.pairwise_append.1 hd
  obtain ⟨dB, dM, _⟩ := List.pairwise_append.1 dBM
  have hpM := isort_perm eLess M
  have hpA := isort_perm eLess A
  have hoM := dif_ord dM he
  have hlike : ∀ e ∈ squash (isort eLess M) snaps last, ∃ e' ∈ M, e.seq = e'.seq ∧ e.key = e'.key := fun e hem => by
    obtain ⟨e', h1, h2⟩ := squash_mem hem
    exact ⟨e', hpM.mem_iff.1 h1, h2⟩
  have dZ : (squash (isort eLess M) snaps last).Pairwise Dif := (squash_pw (dif_pw dM)).imp fun h => .inl h
  have dBZ : (B ++ squash (isort eLess M) snaps last).Pairwise Dif := List.pairwise_append.2 ⟨dB, dZ, fun x hx y hy => (above_dif (above_like2 hBM hlike) y hy x hx).symm⟩
  have hZA : Above (squash (isort eLess M) snaps last) A := above_like hMA hlike
  have dBZA : (B ++ squash (isort eLess M) snaps last ++ A).Pairwise Dif := List.pairwise_append.2 ⟨dBZ, dA, fun x hx y hy => (above_dif (app_above.2 ⟨hBA, hZA⟩) y hy x hx).symm⟩
  refine ⟨dBZA, ?_⟩
  have hA2 : ∀ x ∈ isort eLess A, x ∈ A := fun x hx => hpA.mem_iff.1 hx
  rw [cellAll_perm' (hpA.symm.append_left (B ++ squash (isort eLess M) snaps last)) dBZA, cellAll_perm' (hpA.symm.append_left (B ++ M)) hd]
  rw [cell_top dBZ (dif_pw dA) fun x hx y hy hk => app_above.2 ⟨hBA, hZA⟩ x (hA2 x hx) y hy hk, cell_top dBM (dif_pw dA) fun x hx y hy hk => app_above.2 ⟨hBA, hMA⟩ x (hA2 x hx) y hy hk]
  have h1 := cell_squash (B := B) (M := isort eLess M) (snaps := snaps) (last := last) (key := key) (s := s) dB hoM (fun x hx y hy hk => hBM x (hpM.mem_iff.1 hx) y hy hk) (fun h x hx y hy => hl h x (hpM.mem_iff.1 hx) y hy) (hs.imp_right fun h e hem => h e (hpM.mem_iff.1 hem))
  rw [h1, cellAll_perm' (hpM.symm.append_left B) dBM]
theorem allE_ents (l0 l1 l2 : List Rn) (mem : List Ent) : allE l0 l1 l2 mem = entsR l2 ++ entsR l1 ++ entsR l0 ++ mem := by
  unfold allE layers entsR; simp
/-- The cells of a right tree. -/
theorem treeCell_eq {t : Tre} {l0 l1 l2 : List Rn} (he : t.levels = [l0, l1, l2]) (h : treeOk t = true) (key : ByteArray) (s : Int) : cellAll (treeAll t) key s = cellAll (allE l0 l1 l2 t.mem) key s := by
  rw [treeAll_ok he h]
  have h3 : treeOk3 t.seq t.mem l0 l1 l2 t.snaps = true := by unfold treeOk at h; rw [he] at h; exact h
  exact (cellAll_perm' (isort_perm _ _).symm (treeOk_dif h3) key s).symm
theorem perm_in_off (l : List Rn) (low high : ByteArray) : (entsR l).Perm (entsR (offL l low high) ++ entsR (inL l low high)) := by
  unfold entsR
  rw [← List.flatten_append, ← List.map_append]
  refine (List.Perm.map _ ?_).flatten
  have := List.filter_append_perm (fun r => meetsB r low high) l
  exact this.symm.trans List.perm_append_comm
theorem off_ne {l taken : List Rn} (hr : ∀ r ∈ l, runOk r = true) (ha : ApartP l) (ht : ∀ r ∈ taken, runOk r = true) (hne : taken ≠ []) :
    ∀ x ∈ entsR (taken ++ inL l (lowR taken) (highR taken)), ∀ y ∈ entsR (offL l (lowR taken) (highR taken)), x.key ≠ y.key := by
  intro x hx y hy
  obtain ⟨k1, k2⟩ := off_keys hr ha ht hne x hx
  rw [(meet_split hr ha).2, entsR_app] at hy
  rcases List.mem_append.1 hy with hy | hy
  · obtain ⟨r, hrm, hyr⟩ := entsR_mem.1 hy
    have := le_slt_trans (key_range (hr r (List.mem_of_mem_take hrm)) hyr).2 (k1 r hrm)
    exact (slt_ne this).symm
  · obtain ⟨r, hrm, hyr⟩ := entsR_mem.1 hy
    have := slt_le_trans (k2 r hrm) (key_range (hr r (List.mem_of_mem_drop hrm)) hyr).1
    exact slt_ne this
/-- Where no run of a level meets a range, none of its keys stands in it. -/
theorem in_nil {l all : List Rn} (hr : ∀ r ∈ l, runOk r = true) (hal : ∀ r ∈ all, runOk r = true) (hne : all ≠ []) (h : inL l (lowR all) (highR all) = []) : ∀ x ∈ entsR all, ∀ y ∈ entsR l, x.key ≠ y.key := by
  intro x hx y hy hk
  obtain ⟨r, hrm, hxr⟩ := entsR_mem.1 hx
  obtain ⟨q, hqm, hyq⟩ := entsR_mem.1 hy
  have hm : meetsB q (lowR all) (highR all) = false := by
    cases hb : meetsB q (lowR all) (highR all) with
    | false => rfl
    | true =>
      have : q ∈ inL l (lowR all) (highR all) := List.mem_filter.2 ⟨hqm, hb⟩
      rw [h] at this; cases this
  obtain ⟨a1, a2⟩ := key_range (hal r hrm) hxr
  obtain ⟨b1, b2⟩ := key_range (hr q hqm) hyq
  have c1 := (lowR_spec hne).1 r hrm
  have c2 := (highR_spec hne).1 r hrm
  have d1 : slt (highR all) (lowK q) = false := le_tr (b := y.key) b1 (by rw [← hk]; exact le_tr a2 c2)
  have d2 : slt (highK q) (lowR all) = false := le_tr (b := y.key) (by rw [← hk]; exact le_tr c1 a1) b2
  unfold meetsB at hm
  rw [d1, d2] at hm
  cases hm
theorem compactD_cell {t : Tre} (h : treeOk t = true) (level pick : Int) (key : ByteArray) (s : Int) (hs : s ∈ t.snaps ∨ t.seq ≤ s) : cellAll (treeAll (compactD level pick t).1) key s = cellAll (treeAll t) key s := by
  have hok2 := compactD_ok h level pick
  obtain ⟨l0, l1, l2, he, h3⟩ := treeOk_levels h
  obtain ⟨a, ⟨v0, v1, v2⟩, a7, a8⟩ := treeP.1 h3
  obtain ⟨s0, s1, s2, s3⟩ := seqs_iff.1 a7
  obtain ⟨⟨p2, p1, p0⟩, b21, b20, b2m, b10, b1m, b0m⟩ := layersP.1 a8
  have r0 := (levB_ok v0).2
  have r1 := (levB_ok v1).2
  have r2 := (levB_ok v2).2
  have ap1 := levB_ap v1
  have ap2 := levB_ap v2
  have hd := treeOk_dif h3
  rw [allE_ents] at hd
  have ok : ∀ {l : List Rn}, (∀ r ∈ l, runOk r = true) → ∀ e ∈ entsR l, entOk e = true := fun hr e he => by
    obtain ⟨r, hrm, her⟩ := entsR_mem.1 he
    exact ordOk_all (runOk_len (hr r hrm)).2.2.1 e her
  revert hok2
  unfold compactD
  rw [he]
  simp only
  split
  · rename_i hlv
    split
    · rename_i hok
      intro hok2
      obtain ⟨hc, hlen⟩ := mergeOk_iff hok
      have hne : l0 ≠ [] := fun e => by rw [e] at hlv; simp at hlv
      obtain ⟨bot, hbot⟩ : ∃ bot, (decide ((0 : Nat) = 1) || (inL l2 (lowR (l0 ++ inL l1 (lowR l0) (highR l0))) (highR (l0 ++ inL l1 (lowR l0) (highR l0)))).isEmpty) = bot := ⟨_, rfl⟩
      have hm := merged_of (snaps := t.snaps) (bottom := bot) r1 ap1 r0 p0 b10
      have hz : mergeL l0 l1 l2 0 l0 t.snaps = squash (isort eLess (entsR (l0 ++ inL l1 (lowR l0) (highR l0)))) t.snaps bot := by rw [← hbot]; rfl
      rw [hz] at hc
      obtain ⟨_, _, k3, _⟩ := mergeR_spec r1 ap1 r0 hne hm hc _ rfl
      have k3 : (entsR (mergeR l0 l1 l2 0 l0 t.snaps)).Perm (entsR (offL l1 (lowR l0) (highR l0)) ++ squash (isort eLess (entsR (l0 ++ inL l1 (lowR l0) (highR l0)))) t.snaps bot) := by
        have e : mergeR l0 l1 l2 0 l0 t.snaps = orderL (offL l1 (lowR l0) (highR l0)) (cutL (squash (isort eLess (entsR (l0 ++ inL l1 (lowR l0) (highR l0)))) t.snaps bot)) := by rw [← hz]; rfl
        rw [e]; exact k3
      rw [treeCell_eq (t := { t with levels := [[], mergeR l0 l1 l2 0 l0 t.snaps, l2] }) rfl hok2, treeCell_eq he h, allE_ents, allE_ents]
      have hio := perm_in_off l1 (lowR l0) (highR l0)
      have hoff : ∀ e ∈ entsR (offL l1 (lowR l0) (highR l0)), e ∈ entsR l1 := entsR_sub List.filter_sublist
      have hin : ∀ e ∈ entsR (inL l1 (lowR l0) (highR l0)), e ∈ entsR l1 := entsR_sub List.filter_sublist
      have hallr : ∀ r ∈ l0 ++ inL l1 (lowR l0) (highR l0), runOk r = true := fun r hr => (List.mem_append.1 hr).elim (r0 r) fun hr => r1 r (List.mem_filter.1 hr).1
      generalize hM : entsR (l0 ++ inL l1 (lowR l0) (highR l0)) = M at *
      have hMe : M = entsR l0 ++ entsR (inL l1 (lowR l0) (highR l0)) := by rw [← hM, entsR_app]
      have hmm : ∀ e ∈ M, e ∈ entsR l0 ∨ e ∈ entsR l1 := fun e he => by
        rw [hMe] at he
        exact (List.mem_append.1 he).imp_right (hin e)
      have hp1 : (entsR l2 ++ entsR l1 ++ entsR l0 ++ t.mem).Perm ((entsR l2 ++ entsR (offL l1 (lowR l0) (highR l0))) ++ M ++ t.mem) := by
        refine List.Perm.append_right t.mem ?_
        rw [hMe, List.append_assoc, List.append_assoc]
        refine List.Perm.append_left _ ?_
        refine (hio.append_right _).trans ?_
        rw [List.append_assoc]
        exact List.perm_append_comm.append_left _
      have hdd := (hp1.pairwise_iff (fun {x y} h => h.symm)).1 hd
      have hoffM := off_ne r1 ap1 r0 hne
      rw [hM] at hoffM
      have hBM : Above (entsR l2 ++ entsR (offL l1 (lowR l0) (highR l0))) M := app_above.2 ⟨fun x hx y hy hk => (hmm x hx).elim (fun h => b20 x h y hy hk) (fun h => b21 x h y hy hk), fun x hx y hy hk => absurd hk (hoffM x hx y hy)⟩
      have hBA : Above (entsR l2 ++ entsR (offL l1 (lowR l0) (highR l0))) t.mem := app_above.2 ⟨b2m, fun x hx y hy hk => b1m x hx y (hoff y hy) hk⟩
      have hMA : Above M t.mem := fun x hx y hy hk => (hmm y hy).elim (fun h => b0m x hx y h hk) (fun h => b1m x hx y h hk)
      have hl : bot = true → ∀ x ∈ M, ∀ y ∈ entsR l2 ++ entsR (offL l1 (lowR l0) (highR l0)), x.key ≠ y.key := fun hb x hx y hy => by
        rcases List.mem_append.1 hy with hy | hy
        · have hnil : inL l2 (lowR (l0 ++ inL l1 (lowR l0) (highR l0))) (highR (l0 ++ inL l1 (lowR l0) (highR l0))) = [] := by
            rw [← hbot] at hb
            simpa using hb
          exact in_nil r2 hallr (by intro e; exact hne (List.append_eq_nil_iff.1 e).1) hnil x (by rw [hM]; exact hx) y hy
        · exact hoffM x hx y hy
      obtain ⟨q1, q2⟩ := cell_mid (snaps := t.snaps) (last := bot) (key := key) (s := s) hdd (by rw [← hM]; exact ok hallr) hBM hBA hMA hl (hs.imp_right fun h e hem => (hmm e hem).elim (fun h' => by have := s0 e h'; omega) (fun h' => by have := s1 e h'; omega))
      have hp2 : (entsR l2 ++ entsR (mergeR l0 l1 l2 0 l0 t.snaps) ++ entsR [] ++ t.mem).Perm (entsR l2 ++ entsR (offL l1 (lowR l0) (highR l0)) ++ squash (isort eLess M) t.snaps bot ++ t.mem) := by
        refine List.Perm.append_right t.mem ?_
        have e0 : entsR [] = [] := rfl
        rw [e0, List.append_nil, List.append_assoc]
        exact k3.append_left _
      show cellAll (entsR l2 ++ entsR (mergeR l0 l1 l2 0 l0 t.snaps) ++ entsR [] ++ t.mem) key s = _
      rw [cellAll_perm' hp2 ((hp2.symm.pairwise_iff (fun {x y} h => h.symm)).1 q1), q2, cellAll_perm' hp1 hd]
    · intro _; rfl
  · split
    · rename_i hlv
      split
      · rename_i hok
        intro hok2
        obtain ⟨hc, hlen⟩ := mergeOk_iff hok
        obtain ⟨p, hp⟩ : ∃ p : Nat, pick = p := ⟨pick.toNat, by omega⟩
        subst hp
        have hpl : p < l1.length := by omega
        rw [Int.toNat_natCast] at hok hc hlen hok2 ⊢
        have htk : (l1.drop p).take 1 = [l1[p]] := by rw [List.drop_eq_getElem_cons hpl]; rfl
        rw [htk] at hok hc hlen hok2 ⊢
        have hpm : l1[p] ∈ l1 := List.getElem_mem hpl
        have ht : ∀ r ∈ [l1[p]], runOk r = true := fun r hr => by rw [List.mem_singleton.1 hr]; exact r1 _ hpm
        have hte : ∀ e ∈ entsR [l1[p]], e ∈ entsR l1 := fun e he => by
          obtain ⟨r, hr, her⟩ := entsR_mem.1 he
          rw [List.mem_singleton.1 hr] at her
          exact entsR_mem.2 ⟨_, hpm, her⟩
        have hAb : Above (entsR l2) (entsR [l1[p]]) := fun x hx y hy hk => b21 x (hte x hx) y hy hk
        have hm := merged_of (snaps := t.snaps) (bottom := true) r2 ap2 ht (by simp) hAb
        have hz : mergeL l0 l1 l2 1 [l1[p]] t.snaps = squash (isort eLess (entsR ([l1[p]] ++ inL l2 (lowR [l1[p]]) (highR [l1[p]])))) t.snaps true := rfl
        rw [hz] at hc
        obtain ⟨_, _, k3, _⟩ := mergeR_spec r2 ap2 ht (by simp) hm hc _ rfl
        have k3 : (entsR (mergeR l0 l1 l2 1 [l1[p]] t.snaps)).Perm (entsR (offL l2 (lowR [l1[p]]) (highR [l1[p]])) ++ squash (isort eLess (entsR ([l1[p]] ++ inL l2 (lowR [l1[p]]) (highR [l1[p]])))) t.snaps true) := k3
        rw [treeCell_eq (t := { t with levels := [l0, l1.take p ++ l1.drop (p + 1), mergeR l0 l1 l2 1 [l1[p]] t.snaps] }) rfl hok2, treeCell_eq he h, allE_ents, allE_ents]
        have hio := perm_in_off l2 (lowR [l1[p]]) (highR [l1[p]])
        have hoff : ∀ e ∈ entsR (offL l2 (lowR [l1[p]]) (highR [l1[p]])), e ∈ entsR l2 := entsR_sub List.filter_sublist
        have hin : ∀ e ∈ entsR (inL l2 (lowR [l1[p]]) (highR [l1[p]])), e ∈ entsR l2 := entsR_sub List.filter_sublist
        have hallr : ∀ r ∈ [l1[p]] ++ inL l2 (lowR [l1[p]]) (highR [l1[p]]), runOk r = true := fun r hr => (List.mem_append.1 hr).elim (ht r) fun hr => r2 r (List.mem_filter.1 hr).1
        have hsub : (l1.take p ++ l1.drop (p + 1)).Sublist l1 := by
          conv => rhs; rw [← List.take_append_drop p l1]
          exact (List.Sublist.refl _).append (List.drop_sublist_drop_left _ (by omega))
        have hres : ∀ e ∈ entsR (l1.take p ++ l1.drop (p + 1)), e ∈ entsR l1 := entsR_sub hsub
        have hrest : ∀ x ∈ entsR (l1.take p ++ l1.drop (p + 1)), ∀ y ∈ entsR [l1[p]], x.key ≠ y.key := fun x hx y hy hk => by
          obtain ⟨r, hr, hxr⟩ := entsR_mem.1 hx
          obtain ⟨q, hq, hyq⟩ := entsR_mem.1 hy
          rw [List.mem_singleton.1 hq] at hyq
          rcases List.mem_append.1 hr with hr | hr
          · obtain ⟨i, hi, h1, rfl⟩ := mem_take_ix hr
            exact apart_ne r1 ap1 hi hpl (by omega) hxr hyq hk
          · obtain ⟨i, hi, h1, rfl⟩ := mem_drop_ix hr
            exact apart_ne r1 ap1 hi hpl (by omega) hxr hyq hk
        have hl1 : (entsR l1).Perm (entsR [l1[p]] ++ entsR (l1.take p ++ l1.drop (p + 1))) := by
          have e : l1 = l1.take p ++ (l1[p] :: l1.drop (p + 1)) := by rw [← List.drop_eq_getElem_cons hpl, List.take_append_drop]
          have e2 : entsR l1 = entsR (l1.take p) ++ (entsR [l1[p]] ++ entsR (l1.drop (p + 1))) := by
            conv => lhs; rw [e]
            rw [entsR_app, show l1[p] :: l1.drop (p + 1) = [l1[p]] ++ l1.drop (p + 1) from rfl, entsR_app]
          rw [e2, entsR_app, ← List.append_assoc, ← List.append_assoc]
          exact List.perm_append_comm.append_right _
        generalize entsR (l1.take p ++ l1.drop (p + 1)) = T at *
        generalize hM : entsR ([l1[p]] ++ inL l2 (lowR [l1[p]]) (highR [l1[p]])) = M at *
        have hMe : M = entsR [l1[p]] ++ entsR (inL l2 (lowR [l1[p]]) (highR [l1[p]])) := by rw [← hM, entsR_app]
        have hmm : ∀ e ∈ M, e ∈ entsR [l1[p]] ∨ e ∈ entsR l2 := fun e he => by
          rw [hMe] at he
          exact (List.mem_append.1 he).imp_right (hin e)
        have hp1 : (entsR l2 ++ entsR l1 ++ entsR l0 ++ t.mem).Perm (entsR (offL l2 (lowR [l1[p]]) (highR [l1[p]])) ++ M ++ (T ++ entsR l0 ++ t.mem)) := by
          have f1 : (entsR l2 ++ entsR l1).Perm (entsR (offL l2 (lowR [l1[p]]) (highR [l1[p]])) ++ M ++ T) := by
            rw [hMe]
            refine (hio.append hl1).trans ?_
            rw [List.append_assoc, List.append_assoc]
            refine List.Perm.append_left _ ?_
            rw [← List.append_assoc]
            exact List.perm_append_comm.append_right _
          have f2 := (f1.append_right (entsR l0)).append_right t.mem
          refine f2.trans ?_
          simp only [List.append_assoc]
          exact List.Perm.refl _
        have hdd := (hp1.pairwise_iff (fun {x y} h => h.symm)).1 hd
        have hoffM := off_ne r2 ap2 ht (by simp)
        rw [hM] at hoffM
        have hBM : Above (entsR (offL l2 (lowR [l1[p]]) (highR [l1[p]]))) M := fun x hx y hy hk => absurd hk (hoffM x hx y hy)
        have hBA : Above (entsR (offL l2 (lowR [l1[p]]) (highR [l1[p]]))) (T ++ entsR l0 ++ t.mem) := above_app.2 ⟨above_app.2 ⟨fun x hx y hy hk => b21 x (hres x hx) y (hoff y hy) hk, fun x hx y hy hk => b20 x hx y (hoff y hy) hk⟩, fun x hx y hy hk => b2m x hx y (hoff y hy) hk⟩
        have hMA : Above M (T ++ entsR l0 ++ t.mem) := above_app.2 ⟨above_app.2 ⟨fun x hx y hy hk => (hmm y hy).elim (fun h => absurd hk (hrest x hx y h)) (fun h => b21 x (hres x hx) y h hk), fun x hx y hy hk => (hmm y hy).elim (fun h => b10 x hx y (hte y h) hk) (fun h => b20 x hx y h hk)⟩, fun x hx y hy hk => (hmm y hy).elim (fun h => b1m x hx y (hte y h) hk) (fun h => b2m x hx y h hk)⟩
        obtain ⟨q1, q2⟩ := cell_mid (snaps := t.snaps) (last := true) (key := key) (s := s) hdd (by rw [← hM]; exact ok hallr) hBM hBA hMA (fun _ x hx y hy => hoffM x hx y hy) (hs.imp_right fun h e hem => (hmm e hem).elim (fun h' => by have := s1 e (hte e h'); omega) (fun h' => by have := s2 e h'; omega))
        have hp2 : (entsR (mergeR l0 l1 l2 1 [l1[p]] t.snaps) ++ T ++ entsR l0 ++ t.mem).Perm (entsR (offL l2 (lowR [l1[p]]) (highR [l1[p]])) ++ squash (isort eLess M) t.snaps true ++ (T ++ entsR l0 ++ t.mem)) := by
          have f2 := ((k3.append_right T).append_right (entsR l0)).append_right t.mem
          refine f2.trans ?_
          simp only [List.append_assoc]
          exact List.Perm.refl _
        show cellAll (entsR (mergeR l0 l1 l2 1 [l1[p]] t.snaps) ++ T ++ entsR l0 ++ t.mem) key s = _
        rw [cellAll_perm' hp2 ((hp2.symm.pairwise_iff (fun {x y} h => h.symm)).1 q1), q2, cellAll_perm' hp1 hd]
      · intro _; rfl
    · intro _; rfl
end Ev

/-! Ranges of keys of runs that are merged, plain. -/
namespace Ev
open Go
theorem lowR_head {a : List Rn} (hr : ∀ r ∈ a, runOk r = true) (hne : a ≠ []) {m : List Ent} (hp : m.Perm (entsR a)) (hs : m.Pairwise fun x y => eLess x y = true) (h0 : 0 < m.length) : m[0].key = lowR a := by
  obtain ⟨s1, r0, hr0, e0⟩ := lowR_spec hne
  apply slt_tot
  · obtain ⟨r, hra, her⟩ := entsR_mem.1 (hp.mem_iff.1 (List.getElem_mem h0))
    exact le_tr (s1 r hra) (key_range (hr r hra) her).1
  · obtain ⟨e, he, hk⟩ := low_mem (hr r0 hr0)
    rw [e0, hk]
    obtain ⟨i, hi, rfl⟩ := List.mem_iff_getElem.1 (hp.mem_iff.2 (entsR_mem.2 ⟨r0, hr0, he⟩))
    cases i with
    | zero => exact slt_irr _
    | succ i => exact eLess_key (List.pairwise_iff_getElem.1 hs 0 (i + 1) h0 hi (by omega))
theorem highR_last {a : List Rn} (hr : ∀ r ∈ a, runOk r = true) (hne : a ≠ []) {m : List Ent} (hp : m.Perm (entsR a)) (hs : m.Pairwise fun x y => eLess x y = true) (h0 : 0 < m.length) : (m[m.length - 1]'(by omega)).key = highR a := by
  obtain ⟨s1, r0, hr0, e0⟩ := highR_spec hne
  apply slt_tot
  · obtain ⟨e, he, hk⟩ := high_mem (hr r0 hr0)
    rw [e0, hk]
    obtain ⟨i, hi, rfl⟩ := List.mem_iff_getElem.1 (hp.mem_iff.2 (entsR_mem.2 ⟨r0, hr0, he⟩))
    by_cases hl : i = m.length - 1
    · subst hl; exact slt_irr _
    · exact eLess_key (List.pairwise_iff_getElem.1 hs i (m.length - 1) hi (by omega) (by omega))
  · obtain ⟨r, hra, her⟩ := entsR_mem.1 (hp.mem_iff.1 (List.getElem_mem (show m.length - 1 < m.length by omega)))
    exact le_tr (key_range (hr r hra) her).2 (s1 r hra)
theorem meet_empty {l : List Rn} {low high : ByteArray} (hr : ∀ r ∈ l, runOk r = true) (ha : ApartP l) : (inL l low high).isEmpty = decide (fromI l low = max (fromI l low) (toI l high)) := by
  rw [(meet_split (low := low) (high := high) hr ha).1]
  have h1 := (fromI_spec (low := low) hr ha).1
  have h2 := (toI_spec (high := high) hr ha).1
  rw [Bool.eq_iff_iff, List.isEmpty_iff_length_eq_zero, List.length_drop, List.length_take, decide_eq_true_eq]
  omega
theorem from_le {l : List Rn} {low high : ByteArray} (hr : ∀ r ∈ l, runOk r = true) (ha : ApartP l) : fromI l low ≤ max (fromI l low) (toI l high) ∧ max (fromI l low) (toI l high) ≤ l.length := by
  have h1 := (fromI_spec (low := low) hr ha).1
  have h2 := (toI_spec (high := high) hr ha).1
  omega
end Ev

/-! Times that are kept, plain. -/
namespace Ev
open Go
theorem snaps_pw {l : List Int} {seq : Int} : snapsB l seq = true ↔ l.length ≤ 4 ∧ (∀ s ∈ l, 0 ≤ s ∧ s ≤ seq) ∧ l.Pairwise (· < ·) := by
  rw [snaps_iff]
  constructor
  · rintro ⟨h1, h2⟩
    refine ⟨h1, fun s hs => ?_, List.pairwise_iff_getElem.2 fun i j hi hj hij => ?_⟩
    · obtain ⟨i, hi, rfl⟩ := List.mem_iff_getElem.1 hs
      have := h2 i hi
      unfold okSn at this
      rw [getD_lt hi] at this
      exact ⟨this.1, this.2.1⟩
    · have key : ∀ (d i : Nat) (h : i + d + 1 < l.length), l[i]'(by omega) < l[i + d + 1] := by
        intro d
        induction d with
        | zero =>
          intro i h
          have := (h2 (i + 1) h).2.2 (by omega)
          rw [show i + 1 - 1 = i by omega, getD_lt (by omega), getD_lt h] at this
          exact this
        | succ d ih =>
          intro i h
          have h3 := ih i (by omega)
          have h4 := (h2 (i + (d + 1) + 1) h).2.2 (by omega)
          rw [show i + (d + 1) + 1 - 1 = i + d + 1 by omega, getD_lt (by omega), getD_lt h] at h4
          omega
      have h5 := key (j - i - 1) i (by omega)
      simp only [show i + (j - i - 1) + 1 = j by omega] at h5
      exact h5
  · rintro ⟨h1, h2, h3⟩
    refine ⟨h1, fun i hi => ?_⟩
    unfold okSn
    rw [getD_lt hi]
    have := h2 _ (List.getElem_mem hi)
    refine ⟨this.1, this.2, fun h0 => ?_⟩
    rw [getD_lt (by omega)]
    exact List.pairwise_iff_getElem.1 h3 (i - 1) i (by omega) hi (by omega)
theorem treeOk_with {t : Tre} (h : treeOk t = true) {X : List Int} (hX : snapsB X t.seq = true) : treeOk { t with snaps := X } = true := by
  obtain ⟨l0, l1, l2, he, h3⟩ := treeOk_levels h
  unfold treeOk
  simp only [he]
  obtain ⟨⟨a1, a2, a3, a4, _⟩, b⟩ := treeP.1 h3
  exact treeP.2 ⟨⟨a1, a2, a3, a4, hX⟩, b⟩
theorem treeOk_snapsB {t : Tre} (h : treeOk t = true) : snapsB t.snaps t.seq = true := by
  obtain ⟨l0, l1, l2, he, h3⟩ := treeOk_levels h
  exact (treeP.1 h3).1.2.2.2.2
theorem filter_ok {t : Tre} (h : treeOk t = true) (p : Int → Bool) : treeOk { t with snaps := t.snaps.filter p } = true := by
  obtain ⟨h1, h2, h3⟩ := snaps_pw.1 (treeOk_snapsB h)
  exact treeOk_with h (snaps_pw.2 ⟨Nat.le_trans (List.length_filter_le ..) h1, fun s hs => h2 s ((List.mem_filter.1 hs).1), h3.filter _⟩)
theorem idxV_neg {l : List Int} {z : Int} (h : ¬ 0 ≤ idxV l z) : z ∉ l := fun hm => by
  apply h
  unfold idxV idxI
  cases hi : l.findIdx? (fun x => decide (x = z)) with
  | none =>
    rw [List.findIdx?_eq_none_iff] at hi
    have := hi z hm
    simp at this
  | some i => simp
theorem snapD_ok {t : Tre} (h : treeOk t = true) : treeOk (snapD t).1 = true := by
  unfold snapD
  split
  · exact h
  · rename_i hc
    have hn : ¬ 0 ≤ idxV t.snaps t.seq := fun hh => hc (.inl hh)
    have hl : ¬ 4 ≤ t.snaps.length := fun hh => hc (.inr hh)
    obtain ⟨h1, h2, h3⟩ := snaps_pw.1 (treeOk_snapsB h)
    have h0 := (treeOk_first h).1
    refine treeOk_with h (snaps_pw.2 ⟨by rw [List.length_append]; simp; omega, fun s hs => ?_, List.pairwise_append.2 ⟨h3, List.pairwise_singleton .., fun a ha b hb => ?_⟩⟩)
    · rcases List.mem_append.1 hs with hs | hs
      · exact h2 s hs
      · rw [List.mem_singleton.1 hs]; omega
    · rw [List.mem_singleton.1 hb]
      have h4 := h2 a ha
      have h5 : a ≠ t.seq := fun e => idxV_neg hn (e ▸ ha)
      omega
theorem treeDo_ok {t : Tre} {d : Tre → Tre × Bool} (h : treeOk t = true) (hd : treeOk (d t).1 = true) : treeOk (treeDo t d).1 = true := by
  unfold treeDo
  rw [if_pos h]
  split
  · exact hd
  · exact h
end Ev

/-! Frames, plain: texts of what was done at once. -/
namespace Ev
open Go
abbrev Bs := List UInt8
def tb (s : ByteArray) : Bs := s.data.toList
def bt (l : Bs) : ByteArray := ⟨l.toArray⟩
theorem tb_bt (l : Bs) : tb (bt l) = l := by simp [tb, bt]
theorem bt_tb (s : ByteArray) : bt (tb s) = s := by cases s; simp [tb, bt]
theorem tb_len (s : ByteArray) : (tb s).length = s.size := by cases s; rfl
theorem bt_size (l : Bs) : (bt l).size = l.length := by rw [← tb_len, tb_bt]
/-! ### Numerals -/
theorem digitVal_dig {d : Nat} (h : d < 10) : Lib.digitVal (UInt8.ofNat (48 + d)) = some d := by
  have key : ∀ d : Fin 10, Lib.digitVal (UInt8.ofNat (48 + d.val)) = some d.val := by decide
  exact key ⟨d, h⟩
theorem decFrom_snoc : ∀ (l : Bs) (acc n : Nat) (b : UInt8) (d : Nat), Lib.decFrom acc l = some n → Lib.digitVal b = some d → Lib.decFrom acc (l ++ [b]) = some (n * 10 + d)
  | [], acc, n, b, d, h, hd => by
    simp only [Lib.decFrom, Option.some.injEq] at h
    subst h
    simp [Lib.decFrom, hd]
  | a :: t, acc, n, b, d, h, hd => by
    simp only [List.cons_append, Lib.decFrom] at h ⊢
    cases ha : Lib.digitVal a with
    | none => simp [ha] at h
    | some e =>
      simp only [ha] at h ⊢
      exact decFrom_snoc t _ n b d h hd
theorem decFrom_digits (u : Nat) : Lib.decFrom 0 (Lib.decDigits u) = some u := by
  induction u using Nat.strongRecOn with
  | _ u ih =>
    by_cases h : u < 10
    · rw [Lib.decDigits, dif_pos h]
      unfold Lib.decFrom
      rw [digitVal_dig h]
      simp [Lib.decFrom]
    · rw [Lib.decDigits, dif_neg h]
      have := decFrom_snoc _ _ _ _ _ (ih (u / 10) (by omega)) (digitVal_dig (d := u % 10) (by omega))
      rw [this]
      congr 1
      omega
theorem digits_ne (u : Nat) : Lib.decDigits u ≠ [] := fun h => by
  have h1 := Lib.decDigits_length u
  have h2 := Lib.nDigits_pos u
  rw [h, List.length_nil] at h1
  omega
theorem dig_val {d : Nat} (h : d < 10) : (UInt8.ofNat (48 + d)).toNat = 48 + d := by
  have key : ∀ d : Fin 10, (UInt8.ofNat (48 + d.val)).toNat = 48 + d.val := by decide
  exact key ⟨d, h⟩
theorem digits_range (u : Nat) : ∀ b ∈ Lib.decDigits u, 48 ≤ b.toNat ∧ b.toNat ≤ 57 := by
  induction u using Nat.strongRecOn with
  | _ u ih =>
    by_cases h : u < 10
    · rw [Lib.decDigits, dif_pos h]
      intro b hb
      rw [List.mem_singleton.1 hb, dig_val h]
      omega
    · rw [Lib.decDigits, dif_neg h]
      intro b hb
      rcases List.mem_append.1 hb with hb | hb
      · exact ih (u / 10) (by omega) b hb
      · rw [List.mem_singleton.1 hb, dig_val (by omega)]
        omega
theorem head_app {l r : Bs} (h : l ≠ []) : (l ++ r).head? = l.head? := by cases l with | nil => exact absurd rfl h | cons a l => rfl
theorem digits_head {u : Nat} (h0 : 0 < u) : (Lib.decDigits u).head? ≠ some 48 := by
  induction u using Nat.strongRecOn with
  | _ u ih =>
    by_cases h : u < 10
    · rw [Lib.decDigits, dif_pos h]
      intro e
      have e1 : UInt8.ofNat (48 + u) = 48 := by simpa using e
      have e2 := dig_val h
      rw [e1] at e2
      have : (48 : UInt8).toNat = 48 := rfl
      omega
    · rw [Lib.decDigits, dif_neg h, head_app (digits_ne _)]
      exact ih (u / 10) (by omega) (by omega)
theorem nD_le : ∀ (k u : Nat), u < 10 ^ (k + 1) → Lib.nDigits u ≤ k + 1
  | 0, u, h => by
    rw [Lib.nDigits_small (by simpa using h)]
    exact Nat.le_refl _
  | k + 1, u, h => by
    by_cases h10 : u < 10
    · rw [Lib.nDigits_small h10]; omega
    · rw [Lib.nDigits_big h10]
      have := nD_le k (u / 10) (by rw [Nat.pow_succ] at h; omega)
      omega
theorem itoa_pos {n : Int} (h : 0 ≤ n) : Lib.itoa n = Lib.decDigits n.toNat := by unfold Lib.itoa; rw [if_neg (by omega)]
theorem itoa_neg {n : Int} (h : n < 0) : Lib.itoa n = 45 :: Lib.decDigits n.natAbs := by unfold Lib.itoa; rw [if_pos h]
theorem itoa_no32 (n : Int) : (32 : UInt8) ∉ Lib.itoa n := by
  have h32 : (32 : UInt8).toNat = 32 := rfl
  by_cases h : 0 ≤ n
  · rw [itoa_pos h]
    intro hm
    have := digits_range _ _ hm
    omega
  · rw [itoa_neg (by omega)]
    intro hm
    rcases List.mem_cons.1 hm with e | hm
    · exact absurd e (by decide)
    · have := digits_range _ _ hm
      omega
theorem itoa_len8 {n : Int} (h1 : -10000000 < n) (h2 : n < 100000000) : (Lib.itoa n).length ≤ 8 := by
  by_cases h : 0 ≤ n
  · rw [itoa_pos h, Lib.decDigits_length]
    exact nD_le 7 _ (by omega)
  · rw [itoa_neg (by omega), List.length_cons, Lib.decDigits_length]
    have := nD_le 6 n.natAbs (by omega)
    omega
/-- l9Num. -/
def numS (w : Bs) : Option Int :=
  if w.head? = some 45 then
    (if w.drop 1 = [] ∨ 17 < (w.drop 1).length ∨ (w.drop 1).head? = some 48 then none else (Lib.decFrom 0 (w.drop 1)).map fun (m : Nat) => -(m : Int))
  else (if w = [] ∨ 17 < w.length ∨ (w.head? = some 48 ∧ 1 < w.length) then none else (Lib.decFrom 0 w).map fun (m : Nat) => (m : Int))
theorem digits_h45 (u : Nat) : (Lib.decDigits u).head? ≠ some 45 := fun h => by
  have hm : (45 : UInt8) ∈ Lib.decDigits u := List.mem_of_mem_head? h
  have := digits_range _ _ hm
  have h45 : (45 : UInt8).toNat = 45 := rfl
  omega
theorem numS_itoa {n : Int} (h1 : -10000000 < n) (h2 : n < 100000000) : numS (Lib.itoa n) = some n := by
  unfold numS
  by_cases h : 0 ≤ n
  · rw [itoa_pos h, if_neg (digits_h45 _), if_neg, decFrom_digits, Option.map_some]
    · congr 1; omega
    · rintro (e | e | ⟨e1, e2⟩)
      · exact digits_ne _ e
      · rw [Lib.decDigits_length] at e
        have := nD_le 7 n.toNat (by omega)
        omega
      · by_cases h0 : n.toNat = 0
        · rw [h0, Lib.decDigits, dif_pos (by omega)] at e2
          simp at e2
        · exact digits_head (by omega) e1
  · rw [itoa_neg (by omega)]
    simp only [List.head?_cons, if_true, List.drop_one, List.tail_cons]
    rw [if_neg, decFrom_digits, Option.map_some]
    · congr 1; omega
    · rintro (e | e | e)
      · exact digits_ne _ e
      · rw [Lib.decDigits_length] at e
        have := nD_le 6 n.natAbs (by omega)
        omega
      · exact digits_head (by omega) e
theorem decFrom_ge : ∀ (l : Bs) (acc n : Nat), Lib.decFrom acc l = some n → acc ≤ n
  | [], acc, n, h => by
    simp only [Lib.decFrom, Option.some.injEq] at h
    omega
  | a :: t, acc, n, h => by
    simp only [Lib.decFrom] at h
    cases ha : Lib.digitVal a with
    | none => simp [ha] at h
    | some e =>
      simp only [ha] at h
      have := decFrom_ge t _ n h
      omega
theorem parse10 : ∀ (l : Bs) (acc n : Nat), Lib.decFrom acc l = some n → n < 1844674407370955162 → Lib.parseUint10 acc l = .ok n
  | [], acc, n, h, _ => by
    simp only [Lib.decFrom, Option.some.injEq] at h
    simp only [Lib.parseUint10, h]
  | a :: t, acc, n, h, hn => by
    simp only [Lib.decFrom] at h
    cases ha : Lib.digitVal a with
    | none => simp [ha] at h
    | some e =>
      simp only [ha] at h
      have hg := decFrom_ge t _ n h
      unfold Lib.digitVal at ha
      split at ha
      · rename_i hr
        have he : a.toNat - 48 = e := by simpa using ha
        rw [Lib.parseUint10, if_pos hr, if_neg (by omega), if_neg (by omega), he]
        exact parse10 t _ n h hn
      · cases ha
/-- strconv.Atoi. -/
def numI (w : Bs) : Option Int := match Lib.atoiAll w with
  | .ok v => some v
  | _ => none
theorem numI_itoa {n : Int} (h1 : -10000000 < n) (h2 : n < 100000000) : numI (Lib.itoa n) = some n := by
  have hp : ∀ u : Nat, u < 100000000 → Lib.parseMag (Lib.decDigits u) = .ok u := fun u hu => by
    unfold Lib.parseMag
    rw [if_neg (digits_ne u)]
    exact parse10 _ _ _ (decFrom_digits u) (by omega)
  unfold numI
  by_cases h : 0 ≤ n
  · rw [itoa_pos h]
    have hq := hp n.toNat (by omega)
    have hr := digits_range n.toNat
    generalize Lib.decDigits n.toNat = l at hq hr
    cases l with
    | nil => simp [Lib.parseMag] at hq
    | cons c r =>
      have := hr c (by simp)
      unfold Lib.atoiAll
      simp only
      rw [if_neg (by omega), hq]
      simp only
      rw [if_neg (by omega), if_neg (by omega), if_neg (by omega)]
      simp only
      congr 1
      omega
  · rw [itoa_neg (by omega)]
    have hq := hp n.natAbs (by omega)
    have h45 : (45 : UInt8).toNat = 45 := rfl
    unfold Lib.atoiAll
    simp only
    rw [if_pos (by omega), hq]
    simp only
    rw [if_neg (by omega), if_neg (by omega), if_pos (by omega)]
    simp only
    congr 1
    omega
/-! ### Texts -/
def consecB : List Ent → Bool
  | [] => true
  | [_] => true
  | a :: b :: l => decide (b.seq = a.seq + 1) && consecB (b :: l)
def batOk (b : List Ent) : Bool := decide (1 ≤ b.length) && (decide (b.length ≤ 12) && (b.all entOk && consecB b))
def entT (e : Ent) : Bs := tb e.key ++ 32 :: (Lib.itoa e.seq ++ 32 :: (Lib.itoa e.kind ++ 32 :: (Lib.itoa e.n ++ 32 :: (Lib.itoa (e.text.size : Int) ++ 32 :: tb e.text))))
def bodyT (b : List Ent) : Bs := b.flatMap entT
def frameT (b : List Ent) : Bs := if batOk b = true then Lib.itoa ((bodyT b).length : Int) ++ 32 :: (bodyT b ++ [10]) else []
theorem keyOk_no32 {s : ByteArray} (h : keyOk s = true) : (32 : UInt8) ∉ tb s ∧ (tb s).length ≤ 8 := by
  unfold keyOk at h
  simp only [Bool.and_eq_true, decide_eq_true_eq, List.all_eq_true, List.mem_range] at h
  refine ⟨fun hm => ?_, by rw [tb_len]; exact h.1.2⟩
  obtain ⟨i, hi, he⟩ := List.mem_iff_getElem.1 hm
  have hi' : i < s.size := by rw [← tb_len]; exact hi
  have h1 := h.2 i hi'
  have h2 : byteAt s (i : Int) = 32 := by
    unfold byteAt
    have h3 : ((i : Int).toNat) = i := by omega
    rw [dif_pos (by omega)]
    have h4 : s[(i : Int).toNat]'(by omega) = (32 : UInt8) := by
      simp only [h3]
      exact he
    rw [h4]
    rfl
  rw [h2] at h1
  exact absurd h1 (by decide)
theorem entOk_p {e : Ent} (h : entOk e = true) : keyOk e.key = true ∧ (1 ≤ e.seq ∧ e.seq ≤ 100000) ∧ e.text.size ≤ 60 ∧ (-1000000 ≤ e.n ∧ e.n ≤ 1000000) ∧ (1 ≤ e.kind ∧ e.kind ≤ 3) := by
  unfold entOk sumOk at h
  simp only [Bool.and_eq_true, Bool.or_eq_true, decide_eq_true_eq] at h
  obtain ⟨h1, h2, h3, h4, h5, h6⟩ := h
  exact ⟨h1, ⟨h2, h3⟩, h4, h5, by omega⟩
theorem entT_len {e : Ent} (h : entOk e = true) : (entT e).length ≤ 105 := by
  obtain ⟨h1, h2, h3, h4, h5⟩ := entOk_p h
  have k1 := (keyOk_no32 h1).2
  have k2 := itoa_len8 (n := e.seq) (by omega) (by omega)
  have k3 := itoa_len8 (n := e.kind) (by omega) (by omega)
  have k4 := itoa_len8 (n := e.n) (by omega) (by omega)
  have k5 := itoa_len8 (n := (e.text.size : Int)) (by omega) (by omega)
  have k6 := tb_len e.text
  unfold entT
  simp only [List.length_append, List.length_cons]
  omega
theorem bodyT_len : ∀ (b : List Ent), (∀ e ∈ b, entOk e = true) → (bodyT b).length ≤ 105 * b.length
  | [], _ => by simp [bodyT]
  | e :: b, h => by
    have h1 := entT_len (h e (by simp))
    have h2 := bodyT_len b fun x hx => h x (by simp [hx])
    unfold bodyT at h2 ⊢
    rw [List.flatMap_cons, List.length_append, List.length_cons]
    omega
theorem batOk_p {b : List Ent} (h : batOk b = true) : 1 ≤ b.length ∧ b.length ≤ 12 ∧ (∀ e ∈ b, entOk e = true) ∧ consecB b = true := by
  unfold batOk at h
  simp only [Bool.and_eq_true, decide_eq_true_eq, List.all_eq_true] at h
  exact ⟨h.1, h.2.1, h.2.2.1, h.2.2.2⟩
theorem frameT_pos {b : List Ent} (h : batOk b = true) : frameT b = Lib.itoa ((bodyT b).length : Int) ++ 32 :: (bodyT b ++ [10]) := by unfold frameT; rw [if_pos h]
theorem frameT_neg {b : List Ent} (h : ¬ batOk b = true) : frameT b = [] := by unfold frameT; rw [if_neg h]
theorem frameT_ne {b : List Ent} (h : frameT b ≠ []) : batOk b = true := by
  by_cases hb : batOk b = true
  · exact hb
  · exact absurd (frameT_neg hb) h
/-! ### Readers -/
structure Rdr where
  word : Bs → Option (Bs × Bs)
  num : Bs → Option Int
  word_eq : ∀ X w r, word X = some (w, r) → X = w ++ 32 :: r
  word_ok : ∀ w r : Bs, (32 : UInt8) ∉ w → w.length ≤ 8 → word (w ++ 32 :: r) = some (w, r)
  num_ok : ∀ n : Int, -10000000 < n → n < 100000000 → num (Lib.itoa n) = some n
def Rdr.numW (R : Rdr) (X : Bs) : Option (Int × Bs) := (R.word X).bind fun q => (R.num q.1).map fun n => (n, q.2)
def Rdr.ent (R : Rdr) (X : Bs) : Option (Ent × Bs) :=
  (R.word X).bind fun k => (R.numW k.2).bind fun a => (R.numW a.2).bind fun b => (R.numW b.2).bind fun c => (R.numW c.2).bind fun d =>
    if 0 ≤ d.1 ∧ d.1 ≤ d.2.length then some (⟨bt k.1, a.1, b.1, bt (d.2.take d.1.toNat), c.1⟩, d.2.drop d.1.toNat) else none
def Rdr.body (R : Rdr) : Nat → List Ent → Bs → Option (List Ent)
  | 0, out, X => if X = [] then some out else none
  | f + 1, out, X => if X = [] then some out else (R.ent X).bind fun q => R.body f (out ++ [q.1]) q.2
def Rdr.frame (R : Rdr) (X : Bs) : Option (List Ent × Bs) :=
  (R.numW X).bind fun q => if 0 ≤ q.1 ∧ q.1 + 1 ≤ q.2.length then (R.body 12 [] (q.2.take q.1.toNat)).bind fun b =>
    (if frameT b ++ q.2.drop (q.1.toNat + 1) = X then some (b, q.2.drop (q.1.toNat + 1)) else none) else none
theorem Rdr.numW_ok (R : Rdr) {n : Int} (h1 : -10000000 < n) (h2 : n < 100000000) (r : Bs) : R.numW (Lib.itoa n ++ 32 :: r) = some (n, r) := by
  unfold Rdr.numW
  rw [R.word_ok _ _ (itoa_no32 n) (itoa_len8 h1 h2), Option.bind_some, R.num_ok n h1 h2, Option.map_some]
theorem Rdr.ent_ok (R : Rdr) {e : Ent} (h : entOk e = true) (X : Bs) : R.ent (entT e ++ X) = some (e, X) := by
  obtain ⟨h1, h2, h3, h4, h5⟩ := entOk_p h
  have e1 : entT e ++ X = tb e.key ++ 32 :: (Lib.itoa e.seq ++ 32 :: (Lib.itoa e.kind ++ 32 :: (Lib.itoa e.n ++ 32 :: (Lib.itoa (e.text.size : Int) ++ 32 :: (tb e.text ++ X))))) := by
    simp [entT]
  unfold Rdr.ent
  rw [e1, R.word_ok _ _ (keyOk_no32 h1).1 (keyOk_no32 h1).2]
  simp only [Option.bind_some]
  rw [R.numW_ok (by omega) (by omega)]
  simp only [Option.bind_some]
  rw [R.numW_ok (by omega) (by omega)]
  simp only [Option.bind_some]
  rw [R.numW_ok (by omega) (by omega)]
  simp only [Option.bind_some]
  rw [R.numW_ok (by omega) (by omega)]
  simp only [Option.bind_some]
  have hl := tb_len e.text
  rw [if_pos ⟨by omega, by rw [List.length_append]; omega⟩]
  have ht : ((e.text.size : Int)).toNat = (tb e.text).length := by omega
  rw [ht, List.take_left, List.drop_left, bt_tb, bt_tb]
theorem entT_ne (e : Ent) : entT e ≠ [] := by unfold entT; simp
theorem Rdr.body_ok (R : Rdr) : ∀ (b : List Ent) (f : Nat) (out : List Ent), b.length ≤ f → (∀ e ∈ b, entOk e = true) → R.body f out (bodyT b) = some (out ++ b)
  | [], f, out, _, _ => by cases f <;> simp [Rdr.body, bodyT]
  | e :: b, 0, out, h, _ => by simp at h
  | e :: b, f + 1, out, h, he => by
    have e1 : bodyT (e :: b) = entT e ++ bodyT b := by simp [bodyT]
    have hn : bodyT (e :: b) ≠ [] := by rw [e1]; exact fun hh => entT_ne e (List.append_eq_nil_iff.1 hh).1
    rw [Rdr.body, if_neg hn, e1, R.ent_ok (he e (by simp)), Option.bind_some]
    rw [R.body_ok b f _ (by simpa using h) fun x hx => he x (by simp [hx])]
    simp
theorem Rdr.frame_ok (R : Rdr) {b : List Ent} (h : batOk b = true) (X : Bs) : R.frame (frameT b ++ X) = some (b, X) := by
  obtain ⟨h1, h2, h3, h4⟩ := batOk_p h
  have hl := bodyT_len b h3
  have e1 : frameT b ++ X = Lib.itoa ((bodyT b).length : Int) ++ 32 :: (bodyT b ++ 10 :: X) := by rw [frameT_pos h]; simp
  have e2 : ((bodyT b).length : Int).toNat = (bodyT b).length := by omega
  have e3 : (bodyT b ++ 10 :: X).drop ((bodyT b).length + 1) = X := by rw [List.drop_append]; simp
  unfold Rdr.frame
  rw [e1, R.numW_ok (by omega) (by omega)]
  simp only [Option.bind_some]
  rw [if_pos ⟨by omega, by simp; omega⟩, e2, List.take_left, R.body_ok b 12 [] h2 h3]
  simp only [Option.bind_some, List.nil_append]
  rw [e3, if_pos e1]
theorem Rdr.frame_inv (R : Rdr) {X : Bs} {b : List Ent} {r : Bs} (h : R.frame X = some (b, r)) : batOk b = true ∧ X = frameT b ++ r := by
  unfold Rdr.frame at h
  obtain ⟨⟨n, s⟩, hq, h⟩ := Option.bind_eq_some_iff.1 h
  simp only at h
  split at h
  · rename_i hn
    obtain ⟨b', hb, h⟩ := Option.bind_eq_some_iff.1 h
    split at h
    · rename_i he
      have e1 : b' = b ∧ s.drop (n.toNat + 1) = r := by simpa using h
      obtain ⟨rfl, rfl⟩ := e1
      refine ⟨frameT_ne fun h0 => ?_, he.symm⟩
      rw [h0, List.nil_append] at he
      unfold Rdr.numW at hq
      obtain ⟨⟨w, s'⟩, hw, hq⟩ := Option.bind_eq_some_iff.1 hq
      have hX := R.word_eq _ _ _ hw
      obtain ⟨m, _, hm⟩ := Option.map_eq_some_iff.1 hq
      have hs : s' = s := by simpa using congrArg Prod.snd hm
      have hl := congrArg List.length he
      rw [hX, hs] at hl
      simp only [List.length_drop, List.length_append, List.length_cons] at hl
      omega
    · cases h
  · cases h
/-- Readers of whatever kind read the same. -/
theorem Rdr.same (R R' : Rdr) (X : Bs) : R.frame X = R'.frame X := by
  cases h : R.frame X with
  | some q =>
    obtain ⟨h1, h2⟩ := R.frame_inv (b := q.1) (r := q.2) h
    rw [h2, R'.frame_ok h1]
  | none =>
    cases h' : R'.frame X with
    | none => rfl
    | some q =>
      obtain ⟨h1, h2⟩ := R'.frame_inv (b := q.1) (r := q.2) h'
      rw [h2, R.frame_ok h1] at h
      cases h
def wordS (X : Bs) : Option (Bs × Bs) := (X.findIdx? fun c => c == 32).map fun i => (X.take i, X.drop (i + 1))
def wordI (X : Bs) : Option (Bs × Bs) := ((X.take 9).findIdx? fun c => c == 32).map fun i => (X.take i, X.drop (i + 1))
theorem split32 {X : Bs} {i : Nat} (hi : i < X.length) (he : X[i] = 32) : X = X.take i ++ 32 :: X.drop (i + 1) := by
  have h := List.drop_eq_getElem_cons hi
  rw [he] at h
  rw [← h, List.take_append_drop]
theorem find32 (w r : Bs) (h : (32 : UInt8) ∉ w) : (w ++ 32 :: r).findIdx? (fun c => c == 32) = some w.length := by
  rw [List.findIdx?_eq_some_iff_getElem]
  refine ⟨by simp, by simp, fun j hj => ?_⟩
  rw [List.getElem_append_left hj]
  intro hh
  exact h ((by simpa using hh : w[j] = 32) ▸ List.getElem_mem hj)
def RS : Rdr where
  word := wordS
  num := numS
  word_eq X w r h := by
    unfold wordS at h
    obtain ⟨i, hi, he⟩ := Option.map_eq_some_iff.1 h
    rw [List.findIdx?_eq_some_iff_getElem] at hi
    obtain ⟨h1, h2, h3⟩ := hi
    have e1 : X.take i = w ∧ X.drop (i + 1) = r := by simpa using he
    rw [← e1.1, ← e1.2]
    exact split32 h1 (by simpa using h2)
  word_ok w r h _ := by
    unfold wordS
    rw [find32 w r h, Option.map_some, List.take_left]
    simp
  num_ok n := numS_itoa
def RI : Rdr where
  word := wordI
  num := numI
  word_eq X w r h := by
    unfold wordI at h
    obtain ⟨i, hi, he⟩ := Option.map_eq_some_iff.1 h
    rw [List.findIdx?_eq_some_iff_getElem] at hi
    obtain ⟨h1, h2, h3⟩ := hi
    have e1 : X.take i = w ∧ X.drop (i + 1) = r := by simpa using he
    rw [← e1.1, ← e1.2]
    rw [List.length_take] at h1
    refine split32 (by omega) ?_
    rw [List.getElem_take] at h2
    simpa using h2
  word_ok w r h hl := by
    unfold wordI
    have e1 : (w ++ 32 :: r).take 9 = w ++ 32 :: (r.take (8 - w.length)) := by
      rw [List.take_append, List.take_of_length_le (by omega), show 9 - w.length = (8 - w.length) + 1 by omega, List.take_succ_cons]
    rw [e1, find32 w _ h, Option.map_some, List.take_left]
    simp
  num_ok n := numI_itoa
def frameD (X : Bs) : Option (List Ent × Bs) := RS.frame X
theorem frameI_eq (X : Bs) : RI.frame X = frameD X := RI.same RS X
theorem frameD_ok {b : List Ent} (h : batOk b = true) (X : Bs) : frameD (frameT b ++ X) = some (b, X) := RS.frame_ok h X
theorem frameD_inv {X : Bs} {b : List Ent} {r : Bs} (h : frameD X = some (b, r)) : batOk b = true ∧ X = frameT b ++ r := RS.frame_inv h
theorem frameT_len {b : List Ent} (h : batOk b = true) : 2 ≤ (frameT b).length := by rw [frameT_pos h]; simp; omega
theorem frameD_lt {X : Bs} {b : List Ent} {r : Bs} (h : frameD X = some (b, r)) : r.length < X.length := by
  obtain ⟨h1, h2⟩ := frameD_inv h
  have := frameT_len h1
  rw [h2, List.length_append]
  omega
theorem frameD_nil : frameD [] = none := by
  cases h : frameD [] with
  | none => rfl
  | some q => exact absurd (frameD_lt (b := q.1) (r := q.2) h) (by simp)
def readN : Nat → Bs → List (List Ent) × Bs
  | 0, X => ([], X)
  | k + 1, X => match frameD X with
    | none => ([], X)
    | some (b, r) => (b :: (readN k r).1, (readN k r).2)
def readD (X : Bs) : List (List Ent) × Bs := readN X.length X
theorem readN_fuel : ∀ (k : Nat) (X : Bs), X.length ≤ k → readN k X = readN X.length X
  | 0, X, h => by rw [Nat.le_zero.1 h]
  | k + 1, X, h => by
    cases hX : X.length with
    | zero =>
      have : X = [] := List.length_eq_zero_iff.1 hX
      subst this
      simp [readN, frameD_nil]
    | succ m =>
      rw [readN, readN]
      cases hf : frameD X with
      | none => rfl
      | some q =>
        obtain ⟨b, r⟩ := q
        have hl := frameD_lt hf
        simp only
        rw [readN_fuel k r (by omega), readN_fuel m r (by omega)]
termination_by k => k
theorem readD_none {X : Bs} (h : frameD X = none) : readD X = ([], X) := by
  unfold readD
  cases hX : X.length with
  | zero => rfl
  | succ m => rw [readN, h]
theorem readD_some {X : Bs} {b : List Ent} {r : Bs} (h : frameD X = some (b, r)) : readD X = (b :: (readD r).1, (readD r).2) := by
  unfold readD
  have hl := frameD_lt h
  cases hX : X.length with
  | zero => omega
  | succ m =>
    rw [readN, h]
    simp only
    rw [readN_fuel m r (by omega)]
def logT (bs : List (List Ent)) : Bs := bs.flatMap frameT
theorem readD_app : ∀ (bs : List (List Ent)) (X : Bs), (∀ b ∈ bs, batOk b = true) → readD (logT bs ++ X) = (bs ++ (readD X).1, (readD X).2)
  | [], X, _ => by simp [logT]
  | b :: bs, X, h => by
    have e1 : logT (b :: bs) ++ X = frameT b ++ (logT bs ++ X) := by simp [logT]
    rw [e1, readD_some (frameD_ok (h b (by simp)) _), readD_app bs X fun x hx => h x (by simp [hx])]
    simp
theorem readD_inv (X : Bs) : (∀ b ∈ (readD X).1, batOk b = true) ∧ X = logT (readD X).1 ++ (readD X).2 ∧ frameD (readD X).2 = none := by
  induction hn : X.length using Nat.strongRecOn generalizing X with
  | _ n ih =>
    cases h : frameD X with
    | none =>
      rw [readD_none h]
      exact ⟨by simp, by simp [logT], h⟩
    | some q =>
      obtain ⟨b, r⟩ := q
      obtain ⟨h1, h2⟩ := frameD_inv h
      have hl := frameD_lt h
      obtain ⟨i1, i2, i3⟩ := ih r.length (by omega) r rfl
      rw [readD_some h]
      refine ⟨fun x hx => ?_, ?_, i3⟩
      · rcases List.mem_cons.1 hx with e | hx
        · rw [e]; exact h1
        · exact i1 x hx
      · show X = logT (b :: (readD r).1) ++ (readD r).2
        have e1 : logT (b :: (readD r).1) = frameT b ++ logT (readD r).1 := by simp [logT]
        rw [e1, List.append_assoc, ← i2]
        exact h2
theorem readD_nil : readD [] = ([], []) := readD_none frameD_nil
theorem readD_log {bs : List (List Ent)} (h : ∀ b ∈ bs, batOk b = true) : readD (logT bs) = (bs, []) := by
  have := readD_app bs [] h
  rw [List.append_nil, readD_nil, List.append_nil] at this
  exact this
end Ev

/-! What trees tell behind what is done to them, plain. -/
namespace Ev
open Go
/-- A right tree's parts. -/
theorem tree_base {t : Tre} {l0 l1 l2 : List Rn} (h3 : treeOk3 t.seq t.mem l0 l1 l2 t.snaps = true) : (baseE l0 l1 l2).flatten.Pairwise Dif ∧ ordOk t.mem = true ∧ Above (baseE l0 l1 l2).flatten t.mem ∧ (∀ e ∈ t.mem, e.seq ≤ t.seq) ∧ ∀ e ∈ (baseE l0 l1 l2).flatten, e.seq ≤ t.seq := by
  obtain ⟨⟨a1, a2, a3, a4, a5⟩, _, a7, a8⟩ := treeP.1 h3
  rw [layers_base] at a7 a8
  obtain ⟨b1, _, b3⟩ := List.pairwise_append.1 a8
  have hd := treeOk_dif h3
  rw [allE_base] at hd
  refine ⟨(List.pairwise_append.1 hd).1, a4, above_flat1.1 fun l hl => b3 l hl t.mem (by simp), fun e he => a7 t.mem (by simp) e he, fun e he => ?_⟩
  obtain ⟨l, hl, hel⟩ := List.mem_flatten.1 he
  exact a7 l (List.mem_append_left _ hl) e hel
theorem flushD_eq {t : Tre} {l0 l1 l2 : List Rn} (he : t.levels = [l0, l1, l2]) : flushD t = if t.mem.length = 0 ∨ 4 ≤ l0.length then (t, false) else ({ t with mem := [], levels := (l0 ++ [mkRun (squash t.mem t.snaps false)]) :: [l1, l2] }, true) := by unfold flushD; rw [he]
theorem base_snoc (l0 l1 l2 : List Rn) (m : List Ent) : (baseE (l0 ++ [mkRun m]) l1 l2).flatten ++ [] = (baseE l0 l1 l2).flatten ++ m := by
  unfold baseE
  simp [mkRun]
theorem flushD_cell {t : Tre} (h : treeOk t = true) (key : ByteArray) (s : Int) (hs : s ∈ t.snaps ∨ t.seq ≤ s) : cellAll (treeAll (flushD t).1) key s = cellAll (treeAll t) key s := by
  have hok2 := flushD_ok h
  obtain ⟨l0, l1, l2, he, h3⟩ := treeOk_levels h
  obtain ⟨hB, hM, hA, hms, _⟩ := tree_base h3
  rw [flushD_eq he] at hok2 ⊢
  split at hok2
  · rename_i hc
    rw [if_pos hc]
  · rename_i hc
    rw [if_neg hc]
    rw [treeCell_eq (t := { t with mem := [], levels := [l0 ++ [mkRun (squash t.mem t.snaps false)], l1, l2] }) rfl hok2, treeCell_eq he h, allE_base, allE_base, base_snoc]
    exact cell_squash hB hM hA (fun h => nomatch h) (hs.imp_right fun h e hem => by have := hms e hem; omega)
theorem flushD_len {t : Tre} (h : treeOk t = true) : (treeAll (flushD t).1).length ≤ (treeAll t).length := by
  have hok2 := flushD_ok h
  obtain ⟨l0, l1, l2, he, h3⟩ := treeOk_levels h
  rw [flushD_eq he] at hok2 ⊢
  split at hok2
  · rename_i hc
    rw [if_pos hc]
    exact Nat.le_refl _
  · rename_i hc
    rw [if_neg hc]
    rw [treeAll_ok (t := { t with mem := [], levels := [l0 ++ [mkRun (squash t.mem t.snaps false)], l1, l2] }) rfl hok2, treeAll_ok he h, isort_len, isort_len, allE_base, allE_base, base_snoc, List.length_append, List.length_append]
    have := squash_len (l := t.mem) (snaps := t.snaps) (last := false)
    omega
/-- Times that are kept are of no weight for what all entries are. -/
theorem treeAll_snaps {t t' : Tre} (h : treeOk t = true) (h' : treeOk t' = true) (hl : t'.levels = t.levels) (hm : t'.mem = t.mem) : treeAll t' = treeAll t := by
  obtain ⟨l0, l1, l2, he, h3⟩ := treeOk_levels h
  rw [treeAll_ok he h, treeAll_ok (hl.trans he) h', hm]
theorem snapD_all {t : Tre} (h : treeOk t = true) : treeAll (snapD t).1 = treeAll t := by
  have h2 := snapD_ok h
  unfold snapD at h2 ⊢
  split at h2
  · rename_i hc
    rw [if_pos hc]
  · rename_i hc
    rw [if_neg hc]
    exact treeAll_snaps h h2 rfl rfl
/-! ### Written to -/
theorem ins_last {l : List Ent} {e : Ent} (h : ∀ x ∈ l, x.seq < e.seq) : ins sLess l e = l ++ [e] := by
  unfold ins
  have h2 : ∀ x ∈ l.reverse, x.seq < e.seq := fun x hx => h x (List.mem_reverse.1 hx)
  have e1 : l = l.reverse.reverse := (List.reverse_reverse l).symm
  generalize l.reverse = r at *
  rw [e1]
  cases r with
  | nil => rfl
  | cons x r =>
    unfold insR
    have : sLess e x = false := by
      unfold sLess
      have := h2 x (by simp)
      exact decide_eq_false (by omega)
    rw [this]
    simp
theorem mine_sub {l : List Ent} {key : ByteArray} {s : Int} {x : Ent} (h : x ∈ mine l key s) : x ∈ l := by
  unfold mine at h
  exact findE_sub ((isort_perm _ _).mem_iff.1 h)
/-- Entries behind all others of their time are done last. -/
theorem mine_over : ∀ {S A : List Ent} {key : ByteArray} {s : Int}, (∀ e ∈ S, e.seq ≤ s) → (∀ x ∈ A, ∀ e ∈ S, x.seq < e.seq) → S.Pairwise (fun x y => x.seq < y.seq) → mine (A ++ S) key s = mine A key s ++ S.filter (fun e => decide (e.key = key))
  | [], A, key, s, _, _, _ => by simp
  | x :: S, A, key, s, h1, h2, h3 => by
    have hp := List.pairwise_cons.1 h3
    have e1 : A ++ x :: S = (A ++ [x]) ++ S := by simp
    rw [e1, mine_over (fun e he => h1 e (by simp [he])) (fun y hy e he => by
      rcases List.mem_append.1 hy with hy | hy
      · exact h2 y hy e (by simp [he])
      · rw [List.mem_singleton.1 hy]; exact hp.1 e he) hp.2, mine_snoc]
    have hx := h1 x (by simp)
    by_cases hk : x.key = key
    · rw [if_pos ⟨hk, hx⟩, ins_last fun y hy => h2 y (mine_sub hy) x (by simp), List.filter_cons_of_pos (by simpa using hk)]
      simp
    · rw [if_neg fun h => hk h.1, List.filter_cons_of_neg (by simpa using hk)]
theorem cellDo_stamp (c : Cel) (seq : Int) (i : Nat) (e : Ent) : cellDo c (stampE seq i e) = cellDo c e := rfl
theorem stamp_fold (key : ByteArray) (seq : Int) : ∀ (l : List Ent) (i : Nat) (c : Cel), ((stampT seq i l).filter fun e => decide (e.key = key)).foldl cellDo c = (l.filter fun e => decide (e.key = key)).foldl cellDo c
  | [], i, c => rfl
  | e :: l, i, c => by
    have e1 : stampT seq i (e :: l) = stampE seq i e :: stampT seq (i + 1) l := by unfold stampT; simp
    have hk : (stampE seq i e).key = e.key := rfl
    rw [e1]
    by_cases h : e.key = key
    · rw [List.filter_cons_of_pos (by rw [hk]; simpa using h), List.filter_cons_of_pos (by simpa using h), List.foldl_cons, List.foldl_cons, cellDo_stamp, stamp_fold key seq l]
    · rw [List.filter_cons_of_neg (by rw [hk]; simpa using h), List.filter_cons_of_neg (by simpa using h), stamp_fold key seq l]
theorem cell_le {l : List Ent} {key : ByteArray} {s s' : Int} (h : ∀ e ∈ l, e.seq ≤ s) (hs : s ≤ s') : cellAll l key s = cellAll l key s' := by
  have : findE l key s = findE l key s' := by
    unfold findE
    refine List.filter_congr fun e he => ?_
    have := h e he
    rw [decide_eq_true (show e.seq ≤ s by omega), decide_eq_true (show e.seq ≤ s' by omega)]
  unfold cellAll mine
  rw [this]
theorem cell_ahead {l : List Ent} {key : ByteArray} {s : Int} (h : ∀ e ∈ l, s < e.seq) : cellAll l key s = cel0 := by
  have : findE l key s = [] := by
    unfold findE
    refine List.filter_eq_nil_iff.2 fun e he => ?_
    have := h e he
    have h2 : decide (e.seq ≤ s) = false := decide_eq_false (by omega)
    simp [h2]
  unfold cellAll mine
  rw [this]
  rfl
theorem tree_seqs {t : Tre} (h : treeOk t = true) : ∀ e ∈ treeAll t, 1 ≤ e.seq ∧ e.seq ≤ t.seq := by
  obtain ⟨l0, l1, l2, he, h3⟩ := treeOk_levels h
  obtain ⟨_, _, _, hms, hbs⟩ := tree_base h3
  rw [treeAll_ok he h]
  intro e hem
  have hem2 := (isort_perm _ _).mem_iff.1 hem
  refine ⟨?_, ?_⟩
  · unfold allE at hem2
    obtain ⟨l, hl, hel⟩ := List.mem_flatten.1 hem2
    exact (entOk_p (ordOk_all (treeOk_ord h3 hl).1 e hel)).2.1.1
  · rw [allE_base] at hem2
    exact (List.mem_append.1 hem2).elim (hbs e) (hms e)
/-- What is told behind the last time, and ahead of the first. -/
theorem treeCell_late {t : Tre} (h : treeOk t = true) (key : ByteArray) {s : Int} (hs : t.seq ≤ s) : cellAll (treeAll t) key s = cellAll (treeAll t) key t.seq :=
  (cell_le (fun e he => (tree_seqs h e he).2) hs).symm
theorem treeCell_first {t : Tre} (h : treeOk t = true) (key : ByteArray) {s : Int} (hs : s ≤ 0) : cellAll (treeAll t) key s = cel0 :=
  cell_ahead fun e he => by have := (tree_seqs h e he).1; omega
theorem writeD_eq {batch : List Ent} {t : Tre} (hb : stampB t.seq batch = true ∧ t.mem.length + batch.length ≤ 60) : writeD batch t = ({ t with mem := isort eLess (t.mem ++ stampT t.seq 0 batch), seq := t.seq + batch.length }, true) := by
  unfold writeD; rw [if_pos hb]
/-- A tree that is written to: all its entries. -/
theorem writeD_all {batch : List Ent} {t : Tre} (h : treeOk t = true) (hb : stampB t.seq batch = true ∧ t.mem.length + batch.length ≤ 60) (key : ByteArray) (s : Int) :
    ∃ A, (∀ e ∈ A, e.seq ≤ t.seq) ∧ cellAll (treeAll (writeD batch t).1) key s = cellAll (A ++ stampT t.seq 0 batch) key s ∧ ∀ s', cellAll (treeAll t) key s' = cellAll A key s' := by
  have hok2 := writeD_ok (batch := batch) h
  obtain ⟨l0, l1, l2, he, h3⟩ := treeOk_levels h
  obtain ⟨_, _, _, hms, hbs⟩ := tree_base h3
  rw [writeD_eq hb] at hok2 ⊢
  refine ⟨(baseE l0 l1 l2).flatten ++ t.mem, fun e hem => (List.mem_append.1 hem).elim (hbs e) (hms e), ?_, fun s' => by rw [treeCell_eq he h, allE_base]⟩
  have he2 : ({ t with mem := isort eLess (t.mem ++ stampT t.seq 0 batch), seq := t.seq + batch.length } : Tre).levels = [l0, l1, l2] := he
  have hd2 := treeOk_levels hok2
  obtain ⟨m0, m1, m2, hem, h4⟩ := hd2
  have heq : [l0, l1, l2] = [m0, m1, m2] := he2.symm.trans hem
  simp only [List.cons.injEq, and_true] at heq
  obtain ⟨rfl, rfl, rfl⟩ := heq
  have hdif := treeOk_dif h4
  rw [treeCell_eq he2 hok2, allE_base]
  rw [allE_base] at hdif
  have hp : ((baseE l0 l1 l2).flatten ++ isort eLess (t.mem ++ stampT t.seq 0 batch)).Perm ((baseE l0 l1 l2).flatten ++ t.mem ++ stampT t.seq 0 batch) := by
    rw [List.append_assoc]
    exact (isort_perm _ _).append_left _
  exact cellAll_perm' hp hdif key s
theorem writeD_past {batch : List Ent} {t : Tre} (h : treeOk t = true) (key : ByteArray) {s : Int} (hs : s ≤ t.seq) : cellAll (treeAll (writeD batch t).1) key s = cellAll (treeAll t) key s := by
  by_cases hb : stampB t.seq batch = true ∧ t.mem.length + batch.length ≤ 60
  · obtain ⟨A, h1, h2, h3⟩ := writeD_all h hb key s
    rw [h2, h3]
    have : findE (stampT t.seq 0 batch) key s = [] := by
      refine List.filter_eq_nil_iff.2 fun e he => ?_
      have := (stamp_seq hb.1 e he).2.1
      have h2 : decide (e.seq ≤ s) = false := decide_eq_false (by omega)
      simp [h2]
    unfold cellAll mine
    rw [findE_app, this, List.append_nil]
  · unfold writeD
    rw [if_neg hb]
theorem writeD_now {batch : List Ent} {t : Tre} (h : treeOk t = true) (hb : stampB t.seq batch = true ∧ t.mem.length + batch.length ≤ 60) (key : ByteArray) {s : Int} (hs : t.seq + batch.length ≤ s) :
    cellAll (treeAll (writeD batch t).1) key s = (batch.filter fun e => decide (e.key = key)).foldl cellDo (cellAll (treeAll t) key t.seq) := by
  obtain ⟨A, h1, h2, h3⟩ := writeD_all h hb key s
  have hse := stamp_seq hb.1
  rw [h2, h3, cell_le h1 (show t.seq ≤ s by omega)]
  unfold cellAll
  rw [mine_over (fun e he => by have := (hse e he).2.2; omega) (fun x hx e he => by have := h1 x hx; have := (hse e he).2.1; omega) stampT_desc, List.foldl_append, stamp_fold]
end Ev

/-! Readers by places, plain. -/
namespace Ev
open Go
theorem bt_app (a b : Bs) : bt a ++ bt b = bt (a ++ b) := by
  apply ByteArray.ext
  simp [bt]
theorem dig_cons (k : Nat) (out : ByteArray) : dig k ++ out = bt (UInt8.ofNat (48 + k % 10) :: tb out) := by
  have h1 : dig k = bt [UInt8.ofNat (48 + k % 10)] := rfl
  rw [h1, ← bt_tb out, bt_app, tb_bt]
  rfl
theorem dec_step {j : Nat} {out : ByteArray} (h : 9 < j) : bt (Lib.decDigits (j / 10) ++ tb (dig j ++ out)) = bt (Lib.decDigits j ++ tb out) := by
  rw [dig_cons, tb_bt]
  have e1 : Lib.decDigits j = Lib.decDigits (j / 10) ++ [UInt8.ofNat (48 + j % 10)] := by rw [Lib.decDigits, dif_neg (by omega)]
  rw [e1, List.append_assoc]
  rfl
theorem dec_last {j : Nat} {out : ByteArray} (h : j ≤ 9) : dig j ++ out = bt (Lib.decDigits j ++ tb out) := by
  rw [dig_cons, Lib.decDigits, dif_pos (by omega), Nat.mod_eq_of_lt (by omega)]
  rfl
theorem dec_size {k j : Nat} {out : ByteArray} (hk : k ≤ 9223372036854775808) (h : bt (Lib.decDigits j ++ tb out) = bt (Lib.decDigits k)) : out.size ≤ 19 := by
  have h1 := congrArg ByteArray.size h
  rw [bt_size, bt_size, List.length_append, tb_len, Lib.decDigits_length, Lib.decDigits_length] at h1
  have := nD_le 18 k (by omega)
  omega
/-- l6Word. -/
def wordA (s : ByteArray) (p : Nat) : ByteArray × Int := match wordS ((tb s).drop p) with
  | none => (⟨#[]⟩, -1)
  | some (w, r) => (bt w, (s.size : Int) - r.length)
theorem byteAt_tb {s : ByteArray} {i : Nat} (h : i < (tb s).length) : byteAt s i = ((tb s)[i].toNat : Int) := by
  have hi : i < s.size := by rw [← tb_len]; exact h
  unfold byteAt
  have h3 : ((i : Int).toNat) = i := by omega
  rw [dif_pos (by omega)]
  simp only [h3]
  rfl
theorem extract_tb (s : ByteArray) (a b : Nat) : s.extract a b = bt (((tb s).drop a).take (b - a)) := by
  apply ByteArray.ext
  rw [ByteArray.data_extract]
  apply Array.ext'
  simp [bt, tb, List.take_drop]
theorem byte32 {s : ByteArray} {i : Nat} (h : i < (tb s).length) : (tb s)[i] = 32 ↔ byteAt s i = 32 := by
  rw [byteAt_tb h]
  constructor
  · intro e; rw [e]; rfl
  · intro e
    have h1 : (tb s)[i].toNat = (32 : UInt8).toNat := by
      have : (32 : UInt8).toNat = 32 := rfl
      omega
    exact UInt8.toNat_inj.1 h1
theorem wordA_hit {s : ByteArray} {p i : Nat} (hp : p ≤ i) (hi : i < s.size) (h : byteAt s i = 32) (hn : ∀ j : Nat, p ≤ j → j < i → byteAt s j ≠ 32) : wordA s p = (s.extract p i, ((i + 1 : Nat) : Int)) := by
  have hil : i < (tb s).length := by rw [tb_len]; exact hi
  have hf : ((tb s).drop p).findIdx? (fun c => c == 32) = some (i - p) := by
    rw [List.findIdx?_eq_some_iff_getElem]
    refine ⟨by rw [List.length_drop]; omega, ?_, fun j hj => ?_⟩
    · rw [List.getElem_drop]
      simp only [show p + (i - p) = i by omega, beq_iff_eq]
      exact (byte32 hil).2 h
    · rw [List.getElem_drop]
      intro e
      rw [beq_iff_eq] at e
      exact hn (p + j) (by omega) (by omega) ((byte32 (by omega)).1 e)
  unfold wordA wordS
  rw [hf, Option.map_some]
  simp only
  rw [extract_tb, List.length_drop, List.length_drop, tb_len]
  congr 1
  omega
theorem wordA_none {s : ByteArray} {p : Nat} (hn : ∀ j : Nat, p ≤ j → j < s.size → byteAt s j ≠ 32) : wordA s p = (⟨#[]⟩, -1) := by
  have hf : ((tb s).drop p).findIdx? (fun c => c == 32) = none := by
    rw [List.findIdx?_eq_none_iff]
    intro c hc
    obtain ⟨j, hj, he⟩ := List.mem_iff_getElem.1 hc
    rw [List.length_drop, tb_len] at hj
    rw [List.getElem_drop] at he
    rw [beq_eq_false_iff_ne]
    intro e
    rw [← he] at e
    exact hn (p + j) (by omega) (by omega) ((byte32 (by rw [tb_len]; omega)).1 e)
  unfold wordA wordS
  rw [hf]
  rfl
/-! ### l9Num -/
theorem head_tb {s : ByteArray} (b : UInt8) : (tb s).head? = some b ↔ 0 < s.size ∧ byteAt s 0 = (b.toNat : Int) := by
  have hl := tb_len s
  constructor
  · intro h
    have h0 : 0 < (tb s).length := by
      cases ht : tb s with
      | nil => rw [ht] at h; cases h
      | cons a l => simp
    refine ⟨by omega, ?_⟩
    have h1 := byteAt_tb (s := s) h0
    have h2 : (tb s)[0] = b := by
      rw [List.head?_eq_getElem?, List.getElem?_eq_getElem h0] at h
      simpa using h
    rw [h2] at h1
    exact h1
  · rintro ⟨h0, h1⟩
    have h0' : 0 < (tb s).length := by omega
    have h2 := byteAt_tb (s := s) h0'
    have h3 : (tb s)[0] = b := by
      apply UInt8.toNat_inj.1
      have : byteAt s ((0 : Nat) : Int) = byteAt s 0 := rfl
      omega
    rw [List.head?_eq_getElem?, List.getElem?_eq_getElem h0', h3]
theorem dig_bad {s : ByteArray} {i : Nat} (hi : i < s.size) (h : byteAt s i < 48 ∨ 57 < byteAt s i) : Lib.decFrom 0 (tb s) = none := by
  have hl : i < (tb s).length := by rw [tb_len]; exact hi
  cases hd : Lib.decFrom 0 (tb s) with
  | none => rfl
  | some n =>
    obtain ⟨d, hd2⟩ := Lib.digit_of_decFrom _ _ _ hd i (tb s)[i] (List.getElem?_eq_getElem hl)
    rw [byteAt_tb hl] at h
    unfold Lib.digitVal at hd2
    rw [if_neg (by omega)] at hd2
    cases hd2
theorem dig_next {s : ByteArray} {i v : Nat} (hi : i < s.size) (h1 : 48 ≤ byteAt s i) (h2 : byteAt s i ≤ 57) (hv : Lib.decFrom 0 ((tb s).take i) = some v) : Lib.decFrom 0 ((tb s).take (i + 1)) = some (v * 10 + ((byteAt s i).toNat - 48)) := by
  have hl : i < (tb s).length := by rw [tb_len]; exact hi
  rw [byteAt_tb hl] at h1 h2 ⊢
  refine Lib.decFrom_take _ i 0 v (tb s)[i] _ hv (List.getElem?_eq_getElem hl) ?_
  unfold Lib.digitVal
  rw [if_pos (by omega)]
  rfl
theorem dig_lt {s : ByteArray} {i v : Nat} (hi : i ≤ 17) (hs : i ≤ s.size) (hv : Lib.decFrom 0 ((tb s).take i) = some v) : v < 100000000000000000 := by
  have h1 := Lib.decFrom_lt _ _ _ hv
  rw [List.length_take, tb_len, Nat.min_eq_left hs] at h1
  have h2 : 10 ^ i ≤ 10 ^ 17 := Nat.pow_le_pow_right (by omega) hi
  omega
def numP (neg : Bool) (d : ByteArray) : Option Int := if d.size = 0 ∨ 17 < d.size ∨ (byteAt d 0 = 48 ∧ (1 < d.size ∨ neg = true)) then none else (Lib.decFrom 0 (tb d)).map fun (m : Nat) => bif neg then -(m : Int) else (m : Int)
theorem numS_pos {s : ByteArray} (h : s.size = 0 ∨ byteAt s 0 ≠ 45) : numS (tb s) = numP false s := by
  have h45 : (45 : UInt8).toNat = 45 := rfl
  have h48 : (48 : UInt8).toNat = 48 := rfl
  have hn : ¬ (tb s).head? = some 45 := fun e => by
    have := (head_tb 45).1 e
    omega
  have hl := tb_len s
  unfold numS numP
  rw [if_neg hn]
  have hc : (tb s = [] ∨ 17 < (tb s).length ∨ ((tb s).head? = some 48 ∧ 1 < (tb s).length)) ↔ (s.size = 0 ∨ 17 < s.size ∨ (byteAt s 0 = 48 ∧ (1 < s.size ∨ false = true))) := by
    rw [head_tb, ← List.length_eq_zero_iff, hl]
    simp only [Bool.false_eq_true, or_false]
    omega
  by_cases hh : s.size = 0 ∨ 17 < s.size ∨ (byteAt s 0 = 48 ∧ (1 < s.size ∨ false = true))
  · rw [if_pos hh, if_pos (hc.2 hh)]
  · rw [if_neg hh, if_neg fun e => hh (hc.1 e)]
    rfl
theorem numS_neg {s : ByteArray} (h0 : 0 < s.size) (h : byteAt s 0 = 45) : numS (tb s) = numP true (s.extract 1 s.size) := by
  have h45 : (45 : UInt8).toNat = 45 := rfl
  have h48 : (48 : UInt8).toNat = 48 := rfl
  have hn : (tb s).head? = some 45 := (head_tb 45).2 ⟨h0, by omega⟩
  have hl := tb_len s
  have he : (tb s).drop 1 = tb (s.extract 1 s.size) := by
    rw [extract_tb, tb_bt, List.take_of_length_le (by rw [List.length_drop]; omega)]
  unfold numS numP
  rw [if_pos hn, he]
  generalize s.extract 1 s.size = d
  have hl := tb_len d
  have hc : (tb d = [] ∨ 17 < (tb d).length ∨ (tb d).head? = some 48) ↔ (d.size = 0 ∨ 17 < d.size ∨ (byteAt d 0 = 48 ∧ (1 < d.size ∨ true = true))) := by
    rw [head_tb, ← List.length_eq_zero_iff, hl]
    simp only [or_true, and_true]
    omega
  by_cases hh : d.size = 0 ∨ 17 < d.size ∨ (byteAt d 0 = 48 ∧ (1 < d.size ∨ true = true))
  · rw [if_pos hh, if_pos (hc.2 hh)]
  · rw [if_neg hh, if_neg fun e => hh (hc.1 e)]
    rfl
end Ev

/-! Frames read by places, plain. -/
namespace Ev
open Go
theorem wordS_p {s : ByteArray} {p : Nat} {w r : Bs} (hp : p ≤ s.size) (h : wordS ((tb s).drop p) = some (w, r)) : ∃ q : Nat, p < q ∧ q ≤ s.size ∧ r = (tb s).drop q ∧ wordA s p = (bt w, (q : Int)) ∧ w.length ≤ s.size := by
  have he := RS.word_eq _ _ _ h
  have hl := congrArg List.length he
  rw [List.length_drop, tb_len, List.length_append, List.length_cons] at hl
  refine ⟨p + (w.length + 1), by omega, by omega, ?_, ?_, by omega⟩
  · rw [← List.drop_drop, he]
    simp
  · unfold wordA
    rw [h]
    simp only
    congr 1
    omega
theorem wordA_no {s : ByteArray} {p : Nat} (h : wordS ((tb s).drop p) = none) : wordA s p = (⟨#[]⟩, -1) := by unfold wordA; rw [h]
theorem numS_nil : numS [] = none := by decide
theorem numS_lt {w : Bs} {n : Int} (h : numS w = some n) : -100000000000000000 < n ∧ n < 100000000000000000 := by
  have key : ∀ (l : Bs) (m : Nat), l.length ≤ 17 → Lib.decFrom 0 l = some m → m < 100000000000000000 := fun l m hl hm => by
    have h1 := Lib.decFrom_lt _ _ _ hm
    have h2 : 10 ^ l.length ≤ 10 ^ 17 := Nat.pow_le_pow_right (by omega) hl
    omega
  unfold numS at h
  split at h
  · split at h
    · cases h
    · rename_i hn
      obtain ⟨m, h1, h2⟩ := Option.map_eq_some_iff.1 h
      have := key _ m (by omega) h1
      omega
  · split at h
    · cases h
    · rename_i hn
      obtain ⟨m, h1, h2⟩ := Option.map_eq_some_iff.1 h
      have := key _ m (by omega) h1
      omega
/-- l6Num. -/
def numA (s : ByteArray) (z : Int) : Int × Int := if z < 0 then (0, -1) else match numS (tb (wordA s z.toNat).1) with
  | none => (0, -1)
  | some n => (n, (wordA s z.toNat).2)
theorem numA_neg {s : ByteArray} {z : Int} (h : z < 0) : numA s z = (0, -1) := by unfold numA; rw [if_pos h]
theorem numA_no {s : ByteArray} {p : Nat} (h : RS.numW ((tb s).drop p) = none) : numA s p = (0, -1) := by
  unfold numA
  rw [if_neg (by omega), show ((p : Int)).toNat = p by omega]
  cases hw : wordS ((tb s).drop p) with
  | none =>
    rw [wordA_no hw]
    have : tb (⟨#[]⟩ : ByteArray) = [] := rfl
    simp only [this, numS_nil]
  | some q =>
    obtain ⟨w, r⟩ := q
    have h1 : RS.numW ((tb s).drop p) = (numS w).map fun n => (n, r) := by
      unfold Rdr.numW
      have : RS.word ((tb s).drop p) = some (w, r) := hw
      rw [this]
      rfl
    rw [h1] at h
    have h2 : numS w = none := by
      cases hn : numS w with
      | none => rfl
      | some n => rw [hn] at h; cases h
    have h3 : (wordA s p).1 = bt w := by unfold wordA; rw [hw]
    rw [h3, tb_bt, h2]
theorem numA_some {s : ByteArray} {p : Nat} {n : Int} {r : Bs} (hp : p ≤ s.size) (h : RS.numW ((tb s).drop p) = some (n, r)) : ∃ q : Nat, p < q ∧ q ≤ s.size ∧ r = (tb s).drop q ∧ numA s p = (n, (q : Int)) := by
  unfold Rdr.numW at h
  obtain ⟨⟨w, r'⟩, hw, h⟩ := Option.bind_eq_some_iff.1 h
  obtain ⟨m, hm, he⟩ := Option.map_eq_some_iff.1 h
  have e1 : m = n := congrArg Prod.fst he
  have e2 : r' = r := congrArg Prod.snd he
  subst e1; subst e2
  obtain ⟨q, h1, h2, h3, h4, _⟩ := wordS_p hp hw
  refine ⟨q, h1, h2, h3, ?_⟩
  have hm' : numS w = some m := hm
  unfold numA
  rw [if_neg (by omega), show ((p : Int)).toNat = p by omega, h4]
  simp only [tb_bt, hm']
theorem wordA_rng (s : ByteArray) (p : Nat) (hp : p ≤ s.size) : -1 ≤ (wordA s p).2 ∧ (wordA s p).2 ≤ s.size ∧ (wordA s p).1.size ≤ s.size := by
  cases h : wordS ((tb s).drop p) with
  | none => rw [wordA_no h]; exact ⟨by decide, by show (-1 : Int) ≤ s.size; omega, Nat.zero_le _⟩
  | some q =>
    obtain ⟨q, h1, h2, h3, h4, h5⟩ := wordS_p (w := q.1) (r := q.2) hp h
    rw [h4]
    refine ⟨by show (-1 : Int) ≤ q; omega, by show (q : Int) ≤ s.size; omega, ?_⟩
    simp only [bt_size]
    exact h5
theorem numA_rng (s : ByteArray) (z : Int) (hz : z ≤ s.size) : -1 ≤ (numA s z).2 ∧ (numA s z).2 ≤ s.size ∧ -100000000000000000 < (numA s z).1 ∧ (numA s z).1 < 100000000000000000 := by
  unfold numA
  by_cases h : z < 0
  · rw [if_pos h]; exact ⟨by decide, by show (-1 : Int) ≤ s.size; omega, by decide, by decide⟩
  · rw [if_neg h]
    have := wordA_rng s z.toNat (by omega)
    cases hn : numS (tb (wordA s z.toNat).1) with
    | none => exact ⟨Int.le_refl _, by show (-1 : Int) ≤ s.size; omega, (by decide : (-100000000000000000 : Int) < 0), (by decide : (0 : Int) < 100000000000000000)⟩
    | some n =>
      have := numS_lt hn
      exact ⟨by simp only; omega, by simp only; omega, by simp only; omega, by simp only; omega⟩
/-- l6Entry. -/
def entA (s : ByteArray) (p : Nat) : Ent × Int :=
  if (numA s (numA s (numA s (numA s (wordA s p).2).2).2).2).2 < 0 ∨ (numA s (numA s (numA s (numA s (wordA s p).2).2).2).2).1 < 0 ∨ (s.size : Int) - (numA s (numA s (numA s (numA s (wordA s p).2).2).2).2).2 < (numA s (numA s (numA s (numA s (wordA s p).2).2).2).2).1 then (ent0, -1)
  else (⟨(wordA s p).1, (numA s (wordA s p).2).1, (numA s (numA s (wordA s p).2).2).1, s.extract (numA s (numA s (numA s (numA s (wordA s p).2).2).2).2).2.toNat ((numA s (numA s (numA s (numA s (wordA s p).2).2).2).2).2 + (numA s (numA s (numA s (numA s (wordA s p).2).2).2).2).1).toNat, (numA s (numA s (numA s (wordA s p).2).2).2).1⟩,
    (numA s (numA s (numA s (numA s (wordA s p).2).2).2).2).2 + (numA s (numA s (numA s (numA s (wordA s p).2).2).2).2).1)
theorem entA_bad {s : ByteArray} {p : Nat} (h : (numA s (numA s (numA s (numA s (wordA s p).2).2).2).2).2 < 0) : entA s p = (ent0, -1) := by unfold entA; rw [if_pos (.inl h)]
theorem numA_bad {s : ByteArray} {z : Int} (h : z < 0) : (numA s z).2 < 0 := by rw [numA_neg h]; decide
theorem entA_no {s : ByteArray} {p : Nat} (hp : p ≤ s.size) (h : RS.ent ((tb s).drop p) = none) : entA s p = (ent0, -1) := by
  unfold Rdr.ent at h
  cases hw : wordS ((tb s).drop p) with
  | none =>
    apply entA_bad
    rw [wordA_no hw]
    exact numA_bad (numA_bad (numA_bad (numA_bad (by decide))))
  | some q0 =>
    have hw' : RS.word ((tb s).drop p) = some q0 := hw
    rw [hw', Option.bind_some] at h
    obtain ⟨p0, _, i0, r0, j0, _⟩ := wordS_p (w := q0.1) (r := q0.2) hp hw
    rw [r0] at h
    cases h1 : RS.numW ((tb s).drop p0) with
    | none => exact entA_bad (by rw [j0]; exact numA_bad (numA_bad (numA_bad (by rw [numA_no h1]; decide))))
    | some q1 =>
      rw [h1, Option.bind_some] at h
      obtain ⟨p1, _, i1, r1, j1⟩ := numA_some (n := q1.1) (r := q1.2) i0 h1
      rw [r1] at h
      cases h2 : RS.numW ((tb s).drop p1) with
      | none => exact entA_bad (by rw [j0, j1]; exact numA_bad (numA_bad (by rw [numA_no h2]; decide)))
      | some q2 =>
        rw [h2, Option.bind_some] at h
        obtain ⟨p2, _, i2, r2, j2⟩ := numA_some (n := q2.1) (r := q2.2) i1 h2
        rw [r2] at h
        cases h3 : RS.numW ((tb s).drop p2) with
        | none => exact entA_bad (by rw [j0, j1, j2]; exact numA_bad (by rw [numA_no h3]; decide))
        | some q3 =>
          rw [h3, Option.bind_some] at h
          obtain ⟨p3, _, i3, r3, j3⟩ := numA_some (n := q3.1) (r := q3.2) i2 h3
          rw [r3] at h
          cases h4 : RS.numW ((tb s).drop p3) with
          | none => exact entA_bad (by rw [j0, j1, j2, j3, numA_no h4]; decide)
          | some q4 =>
            rw [h4, Option.bind_some] at h
            obtain ⟨p4, _, i4, r4, j4⟩ := numA_some (n := q4.1) (r := q4.2) i3 h4
            have hl : q4.2.length = s.size - p4 := by rw [r4, List.length_drop, tb_len]
            rw [hl] at h
            unfold entA
            rw [j0, j1, j2, j3, j4, if_pos]
            simp only
            by_cases hd : 0 ≤ q4.1 ∧ q4.1 ≤ ((s.size - p4 : Nat) : Int)
            · rw [if_pos hd] at h; cases h
            · omega
theorem entA_some {s : ByteArray} {p : Nat} {e : Ent} {r : Bs} (hp : p ≤ s.size) (h : RS.ent ((tb s).drop p) = some (e, r)) : ∃ q : Nat, p < q ∧ q ≤ s.size ∧ r = (tb s).drop q ∧ entA s p = (e, (q : Int)) := by
  unfold Rdr.ent at h
  obtain ⟨q0, h0, h⟩ := Option.bind_eq_some_iff.1 h
  obtain ⟨p0, l0, i0, r0, j0, _⟩ := wordS_p (w := q0.1) (r := q0.2) hp h0
  rw [r0] at h
  obtain ⟨q1, h1, h⟩ := Option.bind_eq_some_iff.1 h
  obtain ⟨p1, l1, i1, r1, j1⟩ := numA_some (n := q1.1) (r := q1.2) i0 h1
  rw [r1] at h
  obtain ⟨q2, h2, h⟩ := Option.bind_eq_some_iff.1 h
  obtain ⟨p2, l2, i2, r2, j2⟩ := numA_some (n := q2.1) (r := q2.2) i1 h2
  rw [r2] at h
  obtain ⟨q3, h3, h⟩ := Option.bind_eq_some_iff.1 h
  obtain ⟨p3, l3, i3, r3, j3⟩ := numA_some (n := q3.1) (r := q3.2) i2 h3
  rw [r3] at h
  obtain ⟨q4, h4, h⟩ := Option.bind_eq_some_iff.1 h
  obtain ⟨p4, l4, i4, r4, j4⟩ := numA_some (n := q4.1) (r := q4.2) i3 h4
  have hl : q4.2.length = s.size - p4 := by rw [r4, List.length_drop, tb_len]
  by_cases hd : 0 ≤ q4.1 ∧ q4.1 ≤ (q4.2.length : Int)
  · rw [if_pos hd] at h
    injection h with h
    injection h with he hr
    refine ⟨p4 + q4.1.toNat, by omega, by omega, ?_, ?_⟩
    · rw [← hr, r4, List.drop_drop]
    · unfold entA
      rw [j0, j1, j2, j3, j4, if_neg (by simp only; omega)]
      rw [← he]
      simp only
      rw [extract_tb, r4]
      refine Prod.ext ?_ (by simp only; omega)
      simp only
      congr 2
      rw [show ((p4 : Int) + q4.1).toNat - ((p4 : Int)).toNat = q4.1.toNat by omega]
      rfl
  · rw [if_neg hd] at h; cases h
/-- l6Body. -/
def bodyN (s : ByteArray) : Nat → Int → List Ent → List Ent
  | 0, _, out => out
  | k + 1, z, out => if z < 0 ∨ (s.size : Int) ≤ z then out else bodyN s k (entA s z.toNat).2 (out ++ [(entA s z.toNat).1])
def bodyA (s : ByteArray) : List Ent := bodyN s 13 0 []
theorem drop_nil {s : ByteArray} {p : Nat} : (tb s).drop p = [] ↔ s.size ≤ p := by rw [List.drop_eq_nil_iff, tb_len]
theorem bodyN_ok (s : ByteArray) (b : List Ent) : ∀ (f : Nat) (out : List Ent) (p : Nat), p ≤ s.size → RS.body f out ((tb s).drop p) = some b → bodyN s (f + 1) p out = b
  | 0, out, p, hp, h => by
    rw [Rdr.body] at h
    by_cases hn : (tb s).drop p = []
    · rw [if_pos hn] at h
      have := drop_nil.1 hn
      rw [bodyN, if_pos (by omega)]
      exact Option.some.inj h
    · rw [if_neg hn] at h; cases h
  | f + 1, out, p, hp, h => by
    rw [Rdr.body] at h
    by_cases hn : (tb s).drop p = []
    · rw [if_pos hn] at h
      have := drop_nil.1 hn
      rw [bodyN, if_pos (by omega)]
      exact Option.some.inj h
    · rw [if_neg hn] at h
      have hlt : ¬ s.size ≤ p := fun h => hn (drop_nil.2 h)
      obtain ⟨q, hq, h⟩ := Option.bind_eq_some_iff.1 h
      obtain ⟨p', h1, h2, h3, h4⟩ := entA_some (e := q.1) (r := q.2) hp hq
      rw [h3] at h
      rw [bodyN, if_neg (by omega), show ((p : Int)).toNat = p by omega, h4]
      exact bodyN_ok s b f _ p' h2 h
theorem bat_len {b : List Ent} (h : 12 < b.length) : batOk b = false := by
  cases hb : batOk b with
  | false => rfl
  | true => have := (batOk_p hb).2.1; omega
theorem bat_ent {b : List Ent} {e : Ent} (h : e ∈ b) (he : entOk e = false) : batOk b = false := by
  cases hb : batOk b with
  | false => rfl
  | true => rw [(batOk_p hb).2.2.1 e h] at he; cases he
theorem ent0_bad : entOk ent0 = false := by
  cases h : entOk ent0 with
  | false => rfl
  | true => have := (entOk_p h).2.1.1; simp [ent0] at this
theorem bodyN_neg (s : ByteArray) (k : Nat) (out : List Ent) {z : Int} (h : z < 0) : bodyN s k z out = out := by
  cases k with
  | zero => rfl
  | succ k => rw [bodyN, if_pos (.inl h)]
theorem bodyN_no (s : ByteArray) : ∀ (f : Nat) (out : List Ent) (p : Nat), p ≤ s.size → f + out.length = 12 → RS.body f out ((tb s).drop p) = none → batOk (bodyN s (f + 1) p out) = false
  | 0, out, p, hp, hl, h => by
    rw [Rdr.body] at h
    by_cases hn : (tb s).drop p = []
    · rw [if_pos hn] at h; cases h
    · have hlt : ¬ s.size ≤ p := fun h => hn (drop_nil.2 h)
      rw [bodyN, if_neg (by omega), bodyN]
      exact bat_len (by rw [List.length_append, List.length_singleton]; omega)
  | f + 1, out, p, hp, hl, h => by
    rw [Rdr.body] at h
    by_cases hn : (tb s).drop p = []
    · rw [if_pos hn] at h; cases h
    · have hlt : ¬ s.size ≤ p := fun h => hn (drop_nil.2 h)
      rw [if_neg hn] at h
      rw [bodyN, if_neg (by omega), show ((p : Int)).toNat = p by omega]
      cases hq : RS.ent ((tb s).drop p) with
      | none =>
        rw [entA_no hp hq, bodyN_neg _ _ _ (by decide)]
        exact bat_ent (List.mem_append_right _ (List.mem_singleton.2 rfl)) ent0_bad
      | some q =>
        rw [hq, Option.bind_some] at h
        obtain ⟨p', h1, h2, h3, h4⟩ := entA_some (e := q.1) (r := q.2) hp hq
        rw [h3] at h
        rw [h4]
        exact bodyN_no s f _ p' h2 (by rw [List.length_append, List.length_singleton]; omega) h
theorem bodyA_ok {s : ByteArray} {b : List Ent} (h : RS.body 12 [] (tb s) = some b) : bodyA s = b := bodyN_ok s b 12 [] 0 (Nat.zero_le _) h
theorem bodyA_no {s : ByteArray} (h : RS.body 12 [] (tb s) = none) : batOk (bodyA s) = false := bodyN_no s 12 [] 0 (Nat.zero_le _) rfl h
/-- l6Frame. -/
def frameA (s : ByteArray) (p : Nat) : List Ent × Int :=
  if (numA s p).2 < 0 ∨ (numA s p).1 < 0 ∨ (s.size : Int) - (numA s p).2 - 1 < (numA s p).1 then ([], -1)
  else if bt (frameT (bodyA (s.extract (numA s p).2.toNat ((numA s p).2 + (numA s p).1).toNat))) = s.extract p ((numA s p).2 + (numA s p).1 + 1).toNat then (bodyA (s.extract (numA s p).2.toNat ((numA s p).2 + (numA s p).1).toNat), (numA s p).2 + (numA s p).1 + 1) else ([], -1)
theorem bt_inj {a b : Bs} (h : bt a = bt b) : a = b := by rw [← tb_bt a, h, tb_bt]
theorem frame_parts (s : ByteArray) (p q : Nat) (n : Int) (hn : 0 ≤ n) (hpq : p < q) (hl : (q : Int) + n + 1 ≤ s.size) :
    s.extract q ((q : Int) + n).toNat = bt (((tb s).drop q).take n.toNat) ∧ ∀ b : Bs, bt b = s.extract p ((q : Int) + n + 1).toNat ↔ b ++ ((tb s).drop q).drop (n.toNat + 1) = (tb s).drop p := by
  constructor
  · rw [extract_tb, show ((q : Int) + n).toNat - q = n.toNat by omega]
  · intro b
    rw [extract_tb, List.drop_drop]
    have e1 : (tb s).drop p = ((tb s).drop p).take (((q : Int) + n + 1).toNat - p) ++ (tb s).drop (q + (n.toNat + 1)) := by
      have e2 : (tb s).drop (q + (n.toNat + 1)) = ((tb s).drop p).drop (((q : Int) + n + 1).toNat - p) := by
        rw [List.drop_drop]; congr 1; omega
      rw [e2, List.take_append_drop]
    constructor
    · intro h
      have h1 := bt_inj h
      rw [h1, ← e1]
    · intro h
      rw [e1] at h
      rw [List.append_cancel_right h]
theorem frameA_no {s : ByteArray} {p : Nat} (hp : p ≤ s.size) (h : frameD ((tb s).drop p) = none) : frameA s p = ([], -1) := by
  unfold frameD Rdr.frame at h
  cases hq : RS.numW ((tb s).drop p) with
  | none => unfold frameA; rw [numA_no hq, if_pos (.inl (by decide))]
  | some q =>
    rw [hq, Option.bind_some] at h
    obtain ⟨p1, h1, h2, h3, h4⟩ := numA_some (n := q.1) (r := q.2) hp hq
    unfold frameA
    rw [h4]
    simp only
    have hl : q.2.length = s.size - p1 := by rw [h3, List.length_drop, tb_len]
    by_cases hc : (p1 : Int) < 0 ∨ q.1 < 0 ∨ (s.size : Int) - p1 - 1 < q.1
    · rw [if_pos hc]
    · rw [if_neg hc]
      rw [if_pos (by omega)] at h
      obtain ⟨f1, f2⟩ := frame_parts s p p1 q.1 (by omega) h1 (by omega)
      rw [show ((p1 : Int)).toNat = p1 by omega, if_neg]
      intro he
      have he2 := (f2 _).1 he
      rw [f1] at he2
      rw [h3] at h
      cases hb : RS.body 12 [] (((tb s).drop p1).take q.1.toNat) with
      | none =>
        have h5 : RS.body 12 [] (tb (bt (((tb s).drop p1).take q.1.toNat))) = none := by rw [tb_bt]; exact hb
        rw [frameT_neg (by rw [bodyA_no h5]; decide), List.nil_append, List.drop_drop] at he2
        have := congrArg List.length he2
        rw [List.length_drop, List.length_drop, tb_len] at this
        omega
      | some b =>
        have h5 : RS.body 12 [] (tb (bt (((tb s).drop p1).take q.1.toNat))) = some b := by rw [tb_bt]; exact hb
        rw [bodyA_ok h5] at he2
        rw [hb, Option.bind_some, if_pos he2] at h
        cases h
theorem frameA_some {s : ByteArray} {p : Nat} {b : List Ent} {r : Bs} (hp : p ≤ s.size) (h : frameD ((tb s).drop p) = some (b, r)) : ∃ q : Nat, p < q ∧ q ≤ s.size ∧ r = (tb s).drop q ∧ frameA s p = (b, (q : Int)) := by
  unfold frameD Rdr.frame at h
  obtain ⟨q, hq, h⟩ := Option.bind_eq_some_iff.1 h
  obtain ⟨p1, h1, h2, h3, h4⟩ := numA_some (n := q.1) (r := q.2) hp hq
  have hl : q.2.length = s.size - p1 := by rw [h3, List.length_drop, tb_len]
  by_cases hc : 0 ≤ q.1 ∧ q.1 + 1 ≤ (q.2.length : Int)
  · rw [if_pos hc] at h
    obtain ⟨b', hb, h⟩ := Option.bind_eq_some_iff.1 h
    rw [h3] at hb h
    obtain ⟨f1, f2⟩ := frame_parts s p p1 q.1 (by omega) h1 (by omega)
    have h5 : RS.body 12 [] (tb (bt (((tb s).drop p1).take q.1.toNat))) = some b' := by rw [tb_bt]; exact hb
    by_cases he : frameT b' ++ ((tb s).drop p1).drop (q.1.toNat + 1) = (tb s).drop p
    · rw [if_pos he] at h
      injection h with h
      injection h with hbb hr
      subst hbb
      refine ⟨p1 + (q.1.toNat + 1), by omega, by omega, ?_, ?_⟩
      · rw [← hr, List.drop_drop]
      · unfold frameA
        rw [h4]
        simp only
        rw [if_neg (by omega), show ((p1 : Int)).toNat = p1 by omega, f1, bodyA_ok h5, if_pos ((f2 _).2 he)]
        refine Prod.ext rfl ?_
        simp only
        omega
    · rw [if_neg he] at h; cases h
  · rw [if_neg hc] at h; cases h
theorem bodyN_len (s : ByteArray) : ∀ (k : Nat) (z : Int) (out : List Ent), (bodyN s k z out).length ≤ out.length + k
  | 0, _, out => by rw [bodyN]; omega
  | k + 1, z, out => by
    rw [bodyN]
    split
    · omega
    · have := bodyN_len s k (entA s z.toNat).2 (out ++ [(entA s z.toNat).1])
      rw [List.length_append, List.length_singleton] at this
      omega
/-! ### Batches -/
theorem consecB_iff : ∀ {b : List Ent}, consecB b = true ↔ ∀ (j : Nat) (x y : Ent), b[j]? = some x → b[j + 1]? = some y → y.seq = x.seq + 1
  | [] => by simp [consecB]
  | [a] => by simp [consecB]
  | a :: c :: l => by
    rw [consecB, Bool.and_eq_true, decide_eq_true_iff, consecB_iff]
    constructor
    · rintro ⟨h1, h2⟩ j x y hx hy
      cases j with
      | zero => simp at hx hy; subst hx; subst hy; exact h1
      | succ j => exact h2 j x y (by simpa using hx) (by simpa using hy)
    · intro h
      exact ⟨h 0 a c rfl rfl, fun j x y hx hy => h (j + 1) x y (by simpa using hx) (by simpa using hy)⟩
theorem bat_bad1 {b : List Ent} {i : Nat} {e : Ent} (h : b[i]? = some e) (he : entOk e = false) : batOk b = false := bat_ent (List.mem_of_getElem? h) he
theorem bat_bad2 {b : List Ent} {i : Nat} {x y : Ent} (h1 : b[i]? = some x) (h2 : b[i + 1]? = some y) (hne : y.seq ≠ x.seq + 1) : batOk b = false := by
  cases hb : batOk b with
  | false => rfl
  | true => exact absurd (consecB_iff.1 (batOk_p hb).2.2.2 i x y h1 h2) hne
theorem bat_good {b : List Ent} (h : ∀ (i : Nat) (e : Ent), b[i]? = some e → entOk e = true) (h2 : ∀ (j : Nat) (x y : Ent), b[j]? = some x → b[j + 1]? = some y → y.seq = x.seq + 1) : batOk b = (decide (1 ≤ b.length) && decide (b.length ≤ 12)) := by
  have h3 : b.all entOk = true := List.all_eq_true.2 fun e he => by
    obtain ⟨i, hi⟩ := List.mem_iff_getElem?.1 he
    exact h i e hi
  unfold batOk
  rw [h3, consecB_iff.2 h2]
  simp
theorem bat_get {b : List Ent} (h : batOk b = true) {i : Nat} {e : Ent} (hi : b[i]? = some e) : entOk e = true := (batOk_p h).2.2.1 e (List.mem_of_getElem? hi)
theorem body_step {b : List Ent} {i : Nat} {e : Ent} (h : b[i]? = some e) : bodyT (b.take (i + 1)) = bodyT (b.take i) ++ entT e := by
  have hl := (List.getElem?_eq_some_iff.1 h).1
  have he : b[i] = e := (List.getElem?_eq_some_iff.1 h).2
  unfold bodyT
  rw [List.take_succ_eq_append_getElem hl, List.flatMap_append, he]
  simp
theorem body_lt {b : List Ent} (h : batOk b = true) (i : Nat) : (bodyT (b.take i)).length ≤ 105 * 12 := by
  obtain ⟨h1, h2, h3, h4⟩ := batOk_p h
  have := bodyT_len (b.take i) fun e he => h3 e (List.mem_of_mem_take he)
  rw [List.length_take] at this
  omega
theorem ent_text (o : Bs) (e : Ent) : bt o ++ e.key ++ bt [32] ++ bt (Lib.itoa e.seq) ++ bt [32] ++ bt (Lib.itoa e.kind) ++ bt [32] ++ bt (Lib.itoa e.n) ++ bt [32] ++ bt (Lib.itoa (e.text.size : Int)) ++ bt [32] ++ e.text = bt (o ++ entT e) := by
  have e1 : bt o ++ e.key = bt (o ++ tb e.key) := by rw [← bt_app, bt_tb]
  have e2 : ∀ l : Bs, bt l ++ e.text = bt (l ++ tb e.text) := fun l => by rw [← bt_app, bt_tb]
  rw [e1]
  simp only [bt_app]
  rw [e2]
  congr 1
  unfold entT
  simp
theorem frame_text {b : List Ent} (h : batOk b = true) : bt (Lib.itoa ((bt (bodyT b)).size : Int)) ++ bt [32] ++ bt (bodyT b) ++ bt [10] = bt (frameT b) := by
  rw [frameT_pos h, bt_size]
  simp only [bt_app]
  congr 1
  simp
theorem ext_size (s : ByteArray) (a b : Nat) : (s.extract a b).size ≤ s.size := by rw [ByteArray.size_extract]; omega
theorem entA_Ok (s : ByteArray) (p : Nat) (hs : s.size ≤ maxLen) (hp : p ≤ s.size) : (entA s p).1.Ok := by
  have h0 := wordA_rng s p hp
  have h1 := ext_size s
  unfold entA
  split
  · exact ⟨Nat.zero_le _, Nat.zero_le _⟩
  · exact ⟨by show (wordA s p).1.size ≤ maxLen; omega, Nat.le_trans (h1 _ _) hs⟩
theorem bodyN_Ok (s : ByteArray) (hs : s.size ≤ maxLen) : ∀ (k : Nat) (z : Int) (out : List Ent), OkE out → OkE (bodyN s k z out)
  | 0, _, out, h => by rw [bodyN]; exact h
  | k + 1, z, out, h => by
    rw [bodyN]
    split
    · exact h
    · refine bodyN_Ok s hs k _ _ fun e he => ?_
      rcases List.mem_append.1 he with he | he
      · exact h e he
      · rw [List.mem_singleton.1 he]
        exact entA_Ok s _ hs (by omega)
theorem bodyA_Ok {s : ByteArray} (hs : s.size ≤ maxLen) : OkE (bodyA s) := bodyN_Ok s hs 13 0 [] fun e he => nomatch he
theorem bodyA_len (s : ByteArray) : (bodyA s).length ≤ 13 := bodyN_len s 13 0 []
theorem frameA_rng {s : ByteArray} {p : Nat} (hp : p ≤ s.size) : (frameA s p = ([], -1) ∧ frameD ((tb s).drop p) = none) ∨ ∃ (b : List Ent) (q : Nat), frameA s p = (b, (q : Int)) ∧ p < q ∧ q ≤ s.size ∧ frameD ((tb s).drop p) = some (b, (tb s).drop q) := by
  cases h : frameD ((tb s).drop p) with
  | none => exact .inl ⟨frameA_no hp h, rfl⟩
  | some q =>
    obtain ⟨q', h1, h2, h3, h4⟩ := frameA_some (b := q.1) (r := q.2) hp h
    exact .inr ⟨q.1, q', h4, h1, h2, by rw [← h3]⟩
theorem numA_gt {s : ByteArray} {p : Nat} (hp : p ≤ s.size) (h : ¬ (numA s p).2 < 0) : (p : Int) < (numA s p).2 := by
  cases hq : RS.numW ((tb s).drop p) with
  | none => rw [numA_no hq] at h; exact absurd (by decide) h
  | some q =>
    obtain ⟨q', h1, h2, h3, h4⟩ := numA_some (n := q.1) (r := q.2) hp hq
    rw [h4]
    show (p : Int) < q'
    omega
end Ev

/-! ## slices.Grow of nothing, by the library's contract -/
namespace Ev
open Go Go.Proofs
theorem Keeps.same {w : World} {ow : Own} : Keeps w w ow := ⟨rfl, rfl, rfl, Nat.le_refl _, fun _ _ _ => rfl⟩
theorem grow_ok {P : Program} {ρ : Go.Shelf.Ren} (L : Lays8.n4 P ρ) {f : FuncId} (hf : ρ.f 4 = f) {e : TypeId} (he : ρ.t 25 = e) {i0 : TypeInfo} {z : Value} (hi0 : P.info? e = some i0) (hz0 : i0.zero = some z) (hs0 : 0 < i0.size) (hzc : z.cells.size = P.cellsOf e) (hp : 0 < P.cellsOf e)
    (n : Nat) (hb : n * i0.bytes ≤ 140737488355328) (hn : n ≤ 4611686018427387904) : AFn P f [.one (.c (.v nilV)), av (.int .i64 n)] [] (.one (.us e [])) [] := by
  subst hf; subst he
  refine ⟨L.f4.enters rfl, ?_⟩
  intro w F0 ow0 Lp vs hF how _ _ hlen hargs
  match vs, hlen with
  | [v0, v1], _ =>
    have h0 := avr_one_v (hargs 0 _ v0 rfl rfl)
    have h1 := avr_one_v (hargs 1 _ v1 rfl rfl)
    subst h0; subst h1
    rcases Nat.eq_zero_or_pos n with h | h
    · subst h
      refine (Any8.slices_Grow_room L none 0 0 0 w (Nat.le_refl _) (by omega) (by omega) (by omega)).mono ?_
      rintro e w' ⟨rfl, rfl⟩
      refine ⟨nilV, fun _ => none, rfl, Keeps.same, fun _ _ h => (nomatch h), .one (.us (inner := []) (World.ownsRow_nil w' 0 _ _) hp (by simp) (fun g hg => nomatch hg) (by simp)), rfl, fun id cells h => by simp at h⟩
    · refine (Any8.slices_Grow_grow L i0 z hi0 hz0 hs0 none 0 0 n [] w (Nat.le_refl _) (by omega) (by rw [Nat.zero_add]; exact hb) (by omega) (by simp) (fun _ => rfl) (fun a h => nomatch h)).mono ?_
      rintro e w' ⟨rfl, rfl⟩
      have hge := grownCap_ge w (0 + n) 0 (ρ.t 25)
      have hle := grownCap_le_maxLen w (0 + n) 0 (ρ.t 25) (by unfold maxLen; omega)
      generalize grownCap w (0 + n) 0 (ρ.t 25) = cap at *
      refine ⟨_, fun k => if k = w.heap.size then some [0, 0] else none, rfl, ⟨rfl, rfl, rfl, by simp, fun k hk _ => ?_⟩, fun k p hkp => ?_, ?_, rfl, fun id cells h => by simp at h⟩
      · show (w.heap.push _)[k]? = _
        rw [Array.getElem?_push, if_neg (Nat.ne_of_lt hk)]
      · by_cases hk : k = w.heap.size
        · subst hk; exact ⟨by simp, .inr (Nat.le_refl _)⟩
        · simp [hk] at hkp
      · refine .one (.us (rows := []) (inner := []) ⟨by simp, .inr ⟨w.heap.size, cap, _, rfl, Nat.zero_le _, by show (w.heap.push _)[w.heap.size]? = _; rw [Array.getElem?_push, if_pos rfl], Nat.zero_le _, hle, ?_, by simp⟩⟩ hp (by simp) (fun g hg => ?_) (by simp))
        · simp only [Array.size_append, size_zeroCells, hzc, List.size_toArray, List.length_nil]
          rw [Nat.zero_add, ← Nat.add_mul]
          congr 1; omega
        · injection hg with hg; subst hg; simp
end Ev

/-! Ranges over functions. -/
namespace Ev
open Go
/-- What a callee leaves as it was. -/
theorem Keeps.grown {w w' : World} (h : Keeps w w' fun _ => none) : w.grownBy w' none :=
  ⟨h.os, h.tape, h.output, h.size, fun k hk _ => h.block k hk rfl⟩
end Ev
namespace Ev
open Go
/-- The machine in the middle of another walk: what it may read is frozen. -/
theorem ev_at {E : Env} (hE : EOk E) (hm : E.m = 0) {c : Code} {K : Exit → St → Prop} {sl : List (Option AV)} {k : Nat} {a : Act} {W : World} {F0 : Frs} (hwp : WP E.P W fun _ => none) (h0 : ∀ k, F0 k → k < W.heap.size) (hlen : sl.length = a.tmps.size)
    (hs : ∀ (n : Nat) (av : AV), sl[n]? = some (some av) → ∃ v, a.tmps[n]? = some v ∧ AVR E.P W F0 (fun _ => .vals []) (List.replicate k ⟨0, 0, none⟩) av v) (hev : ev E c ⟨sl, List.replicate k ⟨0, 0, none⟩⟩ K) :
    c.wp E.P (Post E ⟨W, F0, fun _ => none, 0, fun _ => .vals [], a.defers⟩ K) a W := by
  refine ev_sound hE (x := ⟨W, F0, fun _ => none, 0, fun _ => .vals [], a.defers⟩) hm.symm c _ _ _ W (fun _ => .vals []) (fun _ => none) hev ?_
  have nob : ∀ {id : Nat} {ob : Ob} {cells : List C}, (List.replicate k (⟨0, 0, none⟩ : Ob))[id]? = some ob → ob.cells = some cells → False := fun {id ob cells} h1 h2 => by
    rw [List.getElem?_replicate] at h1
    split at h1
    · injection h1 with h1; subst h1; cases h2
    · cases h1
  refine ⟨⟨fun k hk => ⟨h0 k hk, rfl⟩, hwp⟩, ⟨rfl, rfl, rfl, Nat.le_refl _, fun _ _ _ => rfl⟩, fun k p hk => (nomatch hk), fun n av hn => ?_, fun id ob cells h1 h2 => (nob h1 h2).elim, fun id ob cells h1 h2 _ => (nob h1 h2).elim, rfl, hlen, fun id hid => absurd hid (Nat.not_lt_zero _)⟩
  obtain ⟨v, h1, h2⟩ := hs n av hn
  exact ⟨v, h1, h2.step (fun k hk => ⟨rfl, .inl hk⟩) (fun id ob cells h1 h2 => (nob h1 h2).elim)⟩
end Ev

/-! ## Rows of bytes that are written by strings.Builder -/
namespace Ev
open Go
/-- Where the row lies behind an append of a text. -/
theorem appStr_at {P : Program} (w : World) (t u ty e : TypeId) (i : TypeInfo) (ht : P.underlying t = some (.slice e)) (hu : P.underlying u = some .string) (hi : P.info? e = some i) (hz : i.zero = some (.int .u8 0)) (hsize : i.size = 1) (hby : i.bytes = 1)
    (v : Value) (n : Nat) (xs : List Value) (hown : w.ownsRow 0 e 1 v n xs) (s : ByteArray) (hb : n + s.size ≤ 140737488355328) {v' : Value} {w' : World} (hr : (Builtin.append_ #[t, u] ty #[v, .string s]).run P w = .ok v' w') (hnil : v' = .slice none 0 0 ↔ v = .slice none 0 0 ∧ s.size = 0) :
    v'.ownBlock = none ∨ v'.ownBlock = v.ownBlock ∨ v'.ownBlock = some w.heap.size := by
  have hm : n + s.size ≤ maxLen := by unfold maxLen; omega
  rcases hown.2 with ⟨hv, hn⟩ | ⟨g, cap, cur, hv, _, hg, hnc, hcm, hcs, htake⟩
  · by_cases hs : s.size = 0
    · exact .inl (by rw [hnil.2 ⟨hv, hs⟩]; rfl)
    · have h1 := run_append_nil_string (P := P) w t u ty e i (.int .u8 0) ht hu hi hz s (by omega) (by omega) (by rw [hby]; omega)
      rw [hv] at hr
      rw [hr] at h1
      injection h1 with h1 _
      exact .inr (.inr (by rw [h1]; rfl))
  · rw [hv] at hr
    by_cases hroom : n + s.size ≤ cap
    · have h1 := Lib.run_append_room_string (P := P) w t u ty e i ht hu hi hsize g n cap cur hg s hroom (by omega)
      rw [hr] at h1
      injection h1 with h1 _
      exact .inr (.inl (by rw [h1, hv]; rfl))
    · have hxl : xs.length = n := by simpa using hown.1
      have hold : ∀ j u, xs[j]? = some u → w.cell? ((⟨g, 0, none⟩ : Addr).add j) = some u := by
        rw [hv] at hown
        exact hown.cells (g := g) rfl
      have h1 := Lib.run_append_grow_string (P := P) w t u ty e i (.int .u8 0) ht hu hi hz ⟨g, 0, none⟩ n cap xs (by rw [hsize]; simpa using hxl) hold s (by omega) (by unfold maxLen at hm; omega) (by rw [hby]; exact growslice_fits (by omega) (by omega))
      rw [hr] at h1
      injection h1 with h1 _
      exact .inr (.inr (by rw [h1]; rfl))
theorem wpList_appStr {P : Program} {w : World} {ops : Array Oper} {rest : List Oper} {o : Oper} {a : Act} {Q : Exit → Act → World → Prop} (hgd : o.guard = none) (sl x : Operand) (t u : TypeId)
    (ho : o.op = .call { callee := .builtin .append, args := #[sl, x], argTypes := #[t, u] }) (e : TypeId) (i : TypeInfo) (ht : P.underlying t = some (.slice e)) (hu : P.underlying u = some .string) (hi : P.info? e = some i) (hz : i.zero = some (.int .u8 0)) (hsize : i.size = 1) (hby : i.bytes = 1)
    (v : Value) (n : Nat) (xs : List Value) (hs : a.eval sl = v) (hown : w.ownsRow 0 e 1 v n xs) (s : ByteArray) (hx : a.eval x = .string s) (hb : n + s.size ≤ 140737488355328)
    (h : ∀ v' w', w'.ownsRow 0 e 1 v' (n + s.size) (xs ++ Lib.strCells s) → w.grownBy w' v.ownBlock → (v'.ownBlock = none ∨ v'.ownBlock = v.ownBlock ∨ v'.ownBlock = some w.heap.size) → wpList P ops Q rest (a.put o.dst v') w') : wpList P ops Q (o :: rest) a w := by
  refine wpList_plain hgd fun K hK => ?_
  obtain ⟨v', w', hr, h2, h3, h4⟩ := Lib.run_append_own_string (P := P) w 0 t u o.type e i ht hu hi hz hsize hby v n xs hown s (by unfold maxLen; omega) hb (Nat.zero_le _)
  have hat := appStr_at w t u o.type e i ht hu hi hz hsize hby v n xs hown s hb hr h4
  unfold Oper.wp execOp
  simp only [ho, resolve, invoke, builtin, Sem.run_bind, Sem.run_pure, Result.andThen_ok, List.map_toArray, List.map_cons, List.map_nil, hs, hx, hr]
  exact hK _ _ (h v' w' h2 h3 hat)
/-- Bytes as rows of one cell. -/
def encU (b : UInt8) : List C := [.v (.int .u8 b.toNat)]
def strU (l : Bs) : List (List C) := l.map encU
theorem strU_len (l : Bs) : (strU l).length = l.length := List.length_map ..
theorem clU (l : Bs) : ∀ r ∈ strU l, ClL r := fun r hr => by
  obtain ⟨b, _, rfl⟩ := List.mem_map.1 hr
  exact .v .nil
/-- Rows of bytes hold just these bytes. -/
theorem us_bytes {P : Program} {w : World} {F : Frs} {ow : Own} {p : List Nat} {e : TypeId} {l : Bs} {v : Value} (h : OC P w F ow p (.us e (strU l)) v) (hc : P.cellsOf e = 1) :
    w.ownsRow 0 e 1 v l.length (Lib.byteCells l) ∧ ∀ g, v.ownBlock = some g → ow g = some p := by
  cases h with
  | @us _ _ _ _ inner hown hp hsz how ih =>
    rw [hc] at hown ih
    rw [strU_len] at hown
    refine ⟨?_, how⟩
    have hl : inner.length = l.length := by have := hown.1; omega
    have : inner = Lib.byteCells l := by
      apply List.ext_getElem?
      intro i
      by_cases hi : i < l.length
      · have h1 := ih i (encU l[i]) 0 (.v (.int .u8 l[i].toNat)) (by simp [strU, hi]) rfl
        rw [List.getD_eq_getElem?_getD, Nat.mul_one, Nat.add_zero, List.getElem?_eq_getElem (by omega)] at h1
        simp only [Option.getD_some] at h1
        rw [List.getElem?_eq_getElem (by omega)]
        have h2 : (Lib.byteCells l)[i]? = some (.int .u8 l[i].toNat) := by simp [Lib.byteCells, hi]
        rw [h2]
        generalize inner[i]'(by omega) = u at h1
        cases h1 with
        | v => rfl
      · rw [List.getElem?_eq_none (by omega), List.getElem?_eq_none (by rw [Lib.byteCells_length]; omega)]
    rw [← this]
    exact hown
theorem bytes_us {P : Program} {w : World} {F : Frs} {ow : Own} {p : List Nat} {e : TypeId} {l : Bs} {v : Value} (hc : P.cellsOf e = 1) (hown : w.ownsRow 0 e 1 v l.length (Lib.byteCells l)) (how : ∀ g, v.ownBlock = some g → ow g = some p) : OC P w F ow p (.us e (strU l)) v := by
  refine .us (inner := Lib.byteCells l) (by rw [strU_len, hc]; exact hown) (by omega) (fun r hr => ?_) how fun i r j c hi hj => ?_
  · obtain ⟨b, _, rfl⟩ := List.mem_map.1 hr
    rw [hc]; rfl
  · obtain ⟨b, hb, rfl⟩ := Option.map_eq_some_iff.1 (by rw [← List.getElem?_map]; exact hi : (l[i]?).map encU = some r)
    cases j with
    | zero =>
      simp [encU] at hj
      subst hj
      have : (Lib.byteCells l).getD (i * P.cellsOf e + 0) undef = .int .u8 b.toNat := by
        rw [hc, Nat.mul_one, Nat.add_zero, List.getD_eq_getElem?_getD]
        simp [Lib.byteCells, hb]
      rw [this]
      exact .v rfl
    | succ j => simp [encU] at hj
theorem byteCells_app (l m : Bs) : Lib.byteCells l ++ Lib.byteCells m = Lib.byteCells (l ++ m) := (Lib.byteCells_append l m).symm
theorem strCells_eq (s : ByteArray) : Lib.strCells s = Lib.byteCells (tb s) := rfl
end Ev

/-! Frames read by the program's own reader, plain. -/
namespace Ev
open Go
theorem idx_find (c : UInt8) : ∀ (l : Bs), Lib.indexByte l c = match l.findIdx? (fun b => b == c) with
    | none => -1
    | some i => (i : Int)
  | [] => rfl
  | b :: l => by
    have ih := idx_find c l
    rw [Lib.indexByte, List.findIdx?_cons, ih]
    cases hb : b == c with
    | true => simp
    | false =>
      simp only [Bool.false_eq_true, if_false]
      cases h : l.findIdx? (fun b => b == c) with
      | none => rfl
      | some i =>
        simp only [Option.map_some]
        rw [if_neg]
        · push_cast; rfl
        · simp only [beq_iff_eq]; omega
/-- (*logReader).word. -/
def wordB (s : ByteArray) (p : Nat) : Option (ByteArray × Nat) := (((tb s).drop p).take 9).findIdx? (fun c => c == 32) |>.map fun i => (s.extract p (p + i), p + i + 1)
theorem wordB_some {s : ByteArray} {p q : Nat} {w : ByteArray} (hp : p ≤ s.size) (h : wordB s p = some (w, q)) : wordI ((tb s).drop p) = some (tb w, (tb s).drop q) ∧ p < q ∧ q ≤ s.size ∧ w.size ≤ 8 := by
  unfold wordB at h
  obtain ⟨i, hi, he⟩ := Option.map_eq_some_iff.1 h
  have hi2 := hi
  rw [List.findIdx?_eq_some_iff_getElem] at hi
  obtain ⟨h1, _, _⟩ := hi
  rw [List.length_take, List.length_drop, tb_len] at h1
  injection he with e1 e2
  subst e1; subst e2
  refine ⟨?_, by omega, by omega, ?_⟩
  · unfold wordI
    rw [hi2, Option.map_some, extract_tb, tb_bt, List.drop_drop]
    congr 3
    omega
  · rw [ByteArray.size_extract]; omega
theorem wordB_none {s : ByteArray} {p : Nat} : wordB s p = none ↔ wordI ((tb s).drop p) = none := by
  unfold wordB wordI
  rw [Option.map_eq_none_iff, Option.map_eq_none_iff]
theorem ext_take (s : ByteArray) (p e i : Nat) (h : p + i ≤ e) : (s.extract p e).extract 0 i = s.extract p (p + i) := by
  rw [extract_tb, extract_tb, extract_tb, tb_bt]
  congr 1
  rw [List.drop_zero, List.take_take]
  congr 1
  omega
theorem ahead_tb (s : ByteArray) (p : Nat) (hp : p ≤ s.size) (e : Nat) (he : e = min s.size (p + 9)) : tb (s.extract p e) = ((tb s).drop p).take 9 := by
  rw [extract_tb, tb_bt, he]
  by_cases h : s.size ≤ p + 9
  · rw [Nat.min_eq_left h, List.take_of_length_le (by rw [List.length_drop, tb_len]; omega), List.take_of_length_le (by rw [List.length_drop, tb_len]; omega)]
  · rw [Nat.min_eq_right (by omega)]
    congr 1
    omega
theorem numI_atoi {w : Bs} (h : w.length ≤ 18) : Lib.atoiAll w = Lib.NumEnd.ofOption (numI w) := by
  unfold numI
  have := Lib.atoiAll_short w h
  rw [this]
  cases Lib.atoi w <;> rfl
theorem numI_rng {w : Bs} {n : Int} (h : numI w = some n) : -9223372036854775808 ≤ n ∧ n ≤ 9223372036854775807 := by
  unfold numI at h
  split at h
  · rename_i v hv
    injection h with h
    subst h
    exact Lib.atoiAll_bounds hv
  · cases h
/-- (*logReader).number: the number, whether there is one, and where the reader stands then. -/
def numB (s : ByteArray) (p : Nat) : Int × Bool × Nat := match wordB s p with
  | none => (0, false, p)
  | some (w, q) => match numI (tb w) with
    | none => (0, false, q)
    | some n => (n, true, q)
theorem numB_le {s : ByteArray} {p : Nat} (hp : p ≤ s.size) : p ≤ (numB s p).2.2 ∧ (numB s p).2.2 ≤ s.size := by
  unfold numB
  cases h : wordB s p with
  | none => exact ⟨Nat.le_refl _, hp⟩
  | some r =>
    obtain ⟨_, h1, h2, _⟩ := wordB_some (w := r.1) (q := r.2) hp h
    simp only
    cases numI (tb r.1) with
    | none => exact ⟨by show p ≤ r.2; omega, h2⟩
    | some n => exact ⟨by show p ≤ r.2; omega, h2⟩
theorem numB_ok {s : ByteArray} {p q : Nat} {n : Int} (hp : p ≤ s.size) (h : numB s p = (n, true, q)) : RI.numW ((tb s).drop p) = some (n, (tb s).drop q) ∧ p < q ∧ q ≤ s.size ∧ -9223372036854775808 ≤ n ∧ n ≤ 9223372036854775807 := by
  unfold numB at h
  cases hw : wordB s p with
  | none => rw [hw] at h; cases h
  | some r =>
    obtain ⟨h0, h1, h2, _⟩ := wordB_some (w := r.1) (q := r.2) hp hw
    rw [hw] at h
    simp only at h
    cases hn : numI (tb r.1) with
    | none => rw [hn] at h; cases h
    | some m =>
      rw [hn] at h
      injection h with e1 e2
      injection e2 with _ e2
      subst e1; subst e2
      refine ⟨?_, h1, h2, numI_rng hn⟩
      unfold Rdr.numW
      have hR : RI.word ((tb s).drop p) = some (tb r.1, (tb s).drop r.2) := h0
      have hN : RI.num (tb r.1) = some m := hn
      rw [hR, Option.bind_some, hN]
      rfl
theorem numB_no {s : ByteArray} {p q : Nat} {n : Int} (hp : p ≤ s.size) (h : numB s p = (n, false, q)) : RI.numW ((tb s).drop p) = none ∧ n = 0 := by
  unfold numB at h
  cases hw : wordB s p with
  | none =>
    rw [hw] at h
    injection h with e1 _
    have hR : RI.word ((tb s).drop p) = none := wordB_none.1 hw
    exact ⟨by unfold Rdr.numW; rw [hR]; rfl, e1.symm⟩
  | some r =>
    obtain ⟨h0, h1, h2, _⟩ := wordB_some (w := r.1) (q := r.2) hp hw
    rw [hw] at h
    simp only at h
    cases hn : numI (tb r.1) with
    | some m => rw [hn] at h; cases h
    | none =>
      rw [hn] at h
      injection h with e1 _
      have hR : RI.word ((tb s).drop p) = some (tb r.1, (tb s).drop r.2) := h0
      have hN : RI.num (tb r.1) = none := hn
      exact ⟨by unfold Rdr.numW; rw [hR, Option.bind_some, hN]; rfl, e1.symm⟩
end Ev

/-! The program's reader of batches, plain. -/
namespace Ev
open Go
theorem RIb_nil (R : Rdr) (f : Nat) (out : List Ent) : R.body f out [] = some out := by cases f <;> simp [Rdr.body]
theorem RIb_zero (R : Rdr) {out : List Ent} {X : Bs} (h : X ≠ []) : R.body 0 out X = none := by rw [Rdr.body, if_neg h]
theorem RIb_step (R : Rdr) {f : Nat} {out : List Ent} {X : Bs} {e : Ent} {r : Bs} (h : X ≠ []) (he : R.ent X = some (e, r)) : R.body (f + 1) out X = R.body f (out ++ [e]) r := by rw [Rdr.body, if_neg h, he, Option.bind_some]
theorem RIb_bad (R : Rdr) {f : Nat} {out : List Ent} {X : Bs} (h : X ≠ []) (he : R.ent X = none) : R.body f out X = none := by
  cases f with
  | zero => exact RIb_zero R h
  | succ f => rw [Rdr.body, if_neg h, he, Option.bind_none]
theorem Rdr.word_len (R : Rdr) {X w r : Bs} (h : R.word X = some (w, r)) : w.length ≤ X.length ∧ r.length ≤ X.length := by
  have := congrArg List.length (R.word_eq _ _ _ h)
  rw [List.length_append, List.length_cons] at this
  omega
theorem Rdr.numW_len (R : Rdr) {X r : Bs} {n : Int} (h : R.numW X = some (n, r)) : r.length ≤ X.length := by
  unfold Rdr.numW at h
  obtain ⟨q, h1, h2⟩ := Option.bind_eq_some_iff.1 h
  obtain ⟨m, _, h3⟩ := Option.map_eq_some_iff.1 h2
  injection h3 with _ h3
  subst h3
  exact (R.word_len (w := q.1) (r := q.2) h1).2
theorem Rdr.ent_Ok (R : Rdr) {X r : Bs} {e : Ent} (h : R.ent X = some (e, r)) (hX : X.length ≤ maxLen) : e.Ok := by
  unfold Rdr.ent at h
  obtain ⟨q0, h0, h⟩ := Option.bind_eq_some_iff.1 h
  have l0 := R.word_len (w := q0.1) (r := q0.2) h0
  obtain ⟨q1, h1, h⟩ := Option.bind_eq_some_iff.1 h
  have l1 := R.numW_len (n := q1.1) (r := q1.2) h1
  obtain ⟨q2, h2, h⟩ := Option.bind_eq_some_iff.1 h
  have l2 := R.numW_len (n := q2.1) (r := q2.2) h2
  obtain ⟨q3, h3, h⟩ := Option.bind_eq_some_iff.1 h
  have l3 := R.numW_len (n := q3.1) (r := q3.2) h3
  obtain ⟨q4, h4, h⟩ := Option.bind_eq_some_iff.1 h
  have l4 := R.numW_len (n := q4.1) (r := q4.2) h4
  split at h
  · injection h with h
    injection h with h _
    subst h
    refine ⟨?_, ?_⟩
    · show (bt q0.1).size ≤ maxLen
      rw [bt_size]; omega
    · show (bt (q4.2.take q4.1.toNat)).size ≤ maxLen
      rw [bt_size, List.length_take]; omega
  · cases h
/-- What a frame is, by its numbers. -/
theorem frameI_no {s : ByteArray} {p : Nat} (h : RI.numW ((tb s).drop p) = none) : frameD ((tb s).drop p) = none := by
  rw [← frameI_eq]
  unfold Rdr.frame
  rw [h, Option.bind_none]
theorem frameI_cut {s : ByteArray} {p q : Nat} {n : Int} (hq : q ≤ s.size) (h : RI.numW ((tb s).drop p) = some (n, (tb s).drop q)) (hn : n < 0 ∨ (s.size : Int) - q < n + 1) : frameD ((tb s).drop p) = none := by
  rw [← frameI_eq]
  unfold Rdr.frame
  rw [h, Option.bind_some, if_neg]
  rw [List.length_drop, tb_len]
  omega
theorem frameI_body {s : ByteArray} {p q n : Nat} (hpq : p < q) (hl : q + n + 1 ≤ s.size) (h : RI.numW ((tb s).drop p) = some ((n : Int), (tb s).drop q)) :
    frameD ((tb s).drop p) = (RI.body 12 [] (tb (s.extract q (q + n)))).bind fun b => if bt (frameT b) = s.extract p (q + n + 1) then some (b, (tb s).drop (q + n + 1)) else none := by
  obtain ⟨f1, f2⟩ := frame_parts s p q n (by omega) hpq (by omega)
  rw [show ((q : Int) + n).toNat = q + n by omega, show ((n : Int)).toNat = n by omega] at f1
  rw [show ((q : Int) + n + 1).toNat = q + n + 1 by omega, show ((n : Int)).toNat = n by omega] at f2
  rw [← frameI_eq, f1, tb_bt]
  unfold Rdr.frame
  rw [h, Option.bind_some]
  simp only
  rw [if_pos (by rw [List.length_drop, tb_len]; omega), show ((n : Int)).toNat = n by omega]
  congr 1
  funext b
  by_cases hb : bt (frameT b) = s.extract p (q + n + 1)
  · rw [if_pos hb, if_pos ((f2 _).1 hb), List.drop_drop]
    rfl
  · rw [if_neg hb, if_neg fun e => hb ((f2 _).2 e)]
theorem frameI_none {s : ByteArray} {p q n : Nat} {b : List Ent} (hpq : p < q) (hl : q + n + 1 ≤ s.size) (hb : batOk b = false) : bt (frameT b) ≠ s.extract p (q + n + 1) := fun h => by
  rw [frameT_neg (by rw [hb]; decide)] at h
  have := congrArg ByteArray.size h
  rw [ByteArray.size_extract] at this
  simp [bt_size] at this
  omega
theorem log_ents : ∀ {bs : List (List Ent)}, (∀ b ∈ bs, batOk b = true) → bs.flatten.length ≤ 12 * (logT bs).length ∧ bs.length ≤ (logT bs).length
  | [], _ => ⟨by simp, by simp⟩
  | b :: bs, h => by
    obtain ⟨i1, i2⟩ := log_ents fun x hx => h x (List.mem_cons_of_mem _ hx)
    have hb := h b (List.mem_cons_self ..)
    have h1 := frameT_len hb
    have h2 := (batOk_p hb).2.1
    have e1 : logT (b :: bs) = frameT b ++ logT bs := by simp [logT]
    rw [e1, List.length_append, List.flatten_cons, List.length_append, List.length_cons]
    exact ⟨by omega, by omega⟩
theorem readD_ents {X r : Bs} {R : List (List Ent)} (h : readD X = (R, r)) : R.flatten.length ≤ 12 * X.length ∧ R.length ≤ X.length ∧ r.length ≤ X.length ∧ ∀ b ∈ R, batOk b = true := by
  obtain ⟨h1, h2, h3⟩ := readD_inv X
  rw [h] at h1 h2 h3
  simp only at h1 h2
  obtain ⟨i1, i2⟩ := log_ents h1
  have h4 := congrArg List.length h2
  rw [List.length_append] at h4
  exact ⟨by omega, by omega, by omega, h1⟩
end Ev

/-! What a row's list of package variables gives. -/
namespace Ev
open Go
theorem var_heap {P : Program} {W : World} {nm : String} {g : Nat} {cs : Array Value} (hg : P.globalNamed nm = some g) (hv : W.var? P nm = some cs) : ∃ t z, W.heap[g]? = some (.cells cs t z) := by
  unfold World.var? at hv
  rw [hg, Option.bind_some] at hv
  split at hv
  · rename_i h
    injection hv with hv
    subst hv
    exact ⟨_, _, h⟩
  · cases hv
theorem laid_tail {P : Program} {x : String × DataW Unit} {r : List (String × DataW Unit)} {w : World} (h : laidMet P (x :: r) w) : laidMet P r w := by
  obtain ⟨ps, ⟨g, t, cs, f, p, q, h1, h2, h3, h4, h5, h6⟩, h7, h8⟩ := h
  subst h6
  exact ⟨q, h5, (List.nodup_append.1 h7).2.1, fun b off hm => h8 b off (List.mem_append_right _ hm)⟩
/-- A variable that reads as an interface value's datum holds an interface value. -/
theorem laid_iface {P : Program} {W : World} {n : String} {x : String} {d : DataW Unit} {r : List (String × DataW Unit)} {g : Nat} {ti : TypeId} {ms : Array (String × TypeId)} (h : laidMet P ((n, .iface x d) :: r) W)
    (hg : P.globalNamed n = some g) (ht : (P.globals[g]?).map (·.type) = some ti) (hi : P.underlying ti = some (.interface ms)) : ∃ t p, W.cell? ⟨g, 0, none⟩ = some (.iface t p) := by
  obtain ⟨ps, ⟨g0, t0, cs0, f0, p0, q0, hg0, ht0, hv0, hd0, _, e0⟩, _, _⟩ := h
  obtain rfl := Option.some.inj (hg.symm.trans hg0)
  obtain rfl := Option.some.inj (ht.symm.trans ht0)
  obtain ⟨f1, u, v, hcs, _, _⟩ := iface_of_trod hi hd0
  refine ⟨u, v, ?_⟩
  have := World.var?_cell hg0 hv0 0
  rw [this, ← Array.getElem?_toList, hcs]
  rfl
theorem WP.of {P : Program} {W : World} {nm : String} {g : Nat} (h1 : P.globalNamed nmPow = some g) (h2 : P.globalNamed nm = some g) (h3 : Lib.TabIs P W nm .u64 Lib.pow10Tab)
    (h4 : P.globalNamed "strconv.ErrSyntax" = none ∨ ∃ g', P.globalNamed "strconv.ErrSyntax" = some g' ∧ ∃ t p, W.cell? ⟨g', 0, none⟩ = some (.iface t p)) : WP P W fun _ => none := by
  obtain ⟨t, z, h5⟩ := var_heap h2 h3
  refine ⟨fun g' hg' => ?_, fun g' hg' => ?_⟩
  · rw [h1] at hg'
    injection hg' with hg'
    subst hg'
    exact ⟨(Array.getElem?_eq_some_iff.1 h5).1, rfl, t, z, h5⟩
  · rcases h4 with h4 | ⟨g2, h4, t, p, h6⟩
    · rw [h4] at hg'; cases hg'
    · rw [h4] at hg'
      injection hg' with hg'
      subst hg'
      refine ⟨?_, rfl, t, p, h6⟩
      rcases Nat.lt_or_ge g2 W.heap.size with h | h
      · exact h
      · simp [World.cell?, Array.getElem?_eq_none h] at h6
end Ev

/-! Batches that are drawn, and what a cut leaves, plain. -/
namespace Ev
open Go
theorem stampP_mem {seq : Int} : ∀ {l : List Ent} {i : Nat} {e : Ent}, e ∈ (stampP seq i l).1 → ∃ (j : Nat) (a : Ent), a ∈ l ∧ e = stampE seq j a ∧ entOk e = true
  | [], i, e, h => by simp [stampP] at h
  | a :: l, i, e, h => by
    rw [stampP_cons] at h
    split at h
    · rename_i hc
      rcases List.mem_cons.1 h with h | h
      · exact ⟨i, a, List.mem_cons_self .., h, by rw [h]; exact hc.2⟩
      · obtain ⟨j, b, h1, h2, h3⟩ := stampP_mem h
        exact ⟨j, b, List.mem_cons_of_mem _ h1, h2, h3⟩
    · cases h
theorem stampP_le {seq : Int} : ∀ (l : List Ent) (i : Nat), (stampP seq i l).1.length ≤ l.length
  | [], i => by simp [stampP]
  | a :: l, i => by
    rw [stampP_cons]
    split
    · have := stampP_le (seq := seq) l (i + 1)
      simpa using this
    · simp
theorem stampP_DE {seq : Int} {l : List Ent} (h : ∀ e ∈ l, DE e) : ∀ e ∈ (stampP seq 0 l).1, DE e := fun e he => by
  obtain ⟨j, a, h1, rfl, h3⟩ := stampP_mem he
  obtain ⟨d1, d2, d3, d4, d5, d6⟩ := h a h1
  have := (entOk_p h3).2.1
  exact ⟨d1, d2, ⟨by omega, by omega⟩, d4, d5, d6⟩
theorem frameD_pre {b : List Ent} (hb : batOk b = true) {Y Z : Bs} (h : frameT b = Y ++ Z) (hZ : Z ≠ []) : frameD Y = none := by
  cases hY : frameD Y with
  | none => rfl
  | some q =>
    obtain ⟨h1, h2⟩ := frameD_inv (b := q.1) (r := q.2) hY
    have h3 := frameD_ok hb []
    rw [List.append_nil, h, h2, List.append_assoc, frameD_ok h1] at h3
    injection h3 with h3
    injection h3 with _ h3
    exact absurd (List.append_eq_nil_iff.1 h3).2 hZ
theorem logT_app (a b : List (List Ent)) : logT (a ++ b) = logT a ++ logT b := by simp [logT]
theorem logT_one (b : List Ent) : logT [b] = frameT b := by simp [logT]
theorem logT_step {bs : List (List Ent)} {k : Nat} {b : List Ent} (h : bs[k]? = some b) : logT (bs.take (k + 1)) = logT (bs.take k) ++ frameT b := by
  have hl := (List.getElem?_eq_some_iff.1 h).1
  have he : bs[k] = b := (List.getElem?_eq_some_iff.1 h).2
  rw [List.take_succ_eq_append_getElem hl, logT_app, he, logT_one]
/-- What is read of a log that is cut. -/
theorem readD_cut {bs : List (List Ent)} (hb : ∀ b ∈ bs, batOk b = true) {k c : Nat} (hk : k ≤ bs.length) (h1 : (logT (bs.take k)).length ≤ c) (h2 : ∀ b, bs[k]? = some b → c < (logT (bs.take k)).length + (frameT b).length) (X : Bs) (hX : c ≤ (logT bs).length) :
    readD ((logT bs ++ X).take c) = (bs.take k, (logT bs).drop (logT (bs.take k)).length |>.take (c - (logT (bs.take k)).length)) := by
  have e0 : (logT bs ++ X).take c = (logT bs).take c := List.take_append_of_le_length hX
  have e1 : logT bs = logT (bs.take k) ++ logT (bs.drop k) := by rw [← logT_app, List.take_append_drop]
  have e2 : (logT bs).drop (logT (bs.take k)).length = logT (bs.drop k) := by
    rw [e1, List.drop_left]
  rw [e0, e2, e1, List.take_append, List.take_of_length_le h1]
  rw [readD_app (bs.take k) _ fun b h => hb b (List.mem_of_mem_take h)]
  have hn : frameD ((logT (bs.drop k)).take (c - (logT (bs.take k)).length)) = none := by
    cases hg : bs[k]? with
    | none =>
      rw [List.drop_eq_nil_of_le (List.getElem?_eq_none_iff.1 hg)]
      simp [logT, frameD_nil]
    | some b =>
      have hl := (List.getElem?_eq_some_iff.1 hg).1
      have he : bs[k] = b := (List.getElem?_eq_some_iff.1 hg).2
      have hlt := h2 b hg
      have e3 : logT (bs.drop k) = frameT b ++ logT (bs.drop (k + 1)) := by rw [List.drop_eq_getElem_cons hl, he]; simp [logT]
      rw [e3, List.take_append_of_le_length (by omega)]
      refine frameD_pre (hb b (List.mem_of_getElem? hg)) (Z := (frameT b).drop (c - (logT (bs.take k)).length)) (List.take_append_drop _ _).symm fun h => ?_
      have := congrArg List.length h
      rw [List.length_drop] at this
      simp at this
      omega
  rw [readD_none hn, List.append_nil]
theorem readD_frame (b : List Ent) : readD (frameT b) = (if batOk b = true then [b] else [], []) := by
  by_cases h : batOk b = true
  · rw [if_pos h]
    have := readD_log (bs := [b]) (by simpa using h)
    rwa [logT_one] at this
  · rw [if_neg h, frameT_neg h]
    exact readD_nil
end Ev

namespace Ev
open Go
/-! ## Values that are told exactly -/
theorem av_ex {P : Program} {w : World} {F : Frs} {L : Nat → Pl} {o : List Ob} {sq : Int} {a b c : List (List C)} {v : Value} (h : AVR P w F L o (.agg [.c (vi sq), .c (.sl a), .c (.sl b), .c (.sl c)]) v) :
    ∃ u1 u2 u3, v = .agg #[.int .i64 sq, u1, u2, u3] ∧ AVR P w F L o (.agg [.c (vi sq), .c (.ex u1 a), .c (.ex u2 b), .c (.ex u3 c)]) v := by
  cases h with
  | @agg _ vs hl h2 =>
    obtain ⟨vs⟩ := vs
    match vs, hl, h2 with
    | [u0, u1, u2, u3], _, h2 =>
      have g0 := h2 0 _ u0 rfl rfl
      have g1 := h2 1 _ u1 rfl rfl
      have g2 := h2 2 _ u2 rfl rfl
      have g3 := h2 3 _ u3 rfl rfl
      have e0 : u0 = .int .i64 sq := by cases g0 with | c h => cases h; rfl
      subst e0
      refine ⟨u1, u2, u3, rfl, .agg rfl fun i s v hi hv => ?_⟩
      match i with
      | 0 => simp at hi hv; subst hi; subst hv; exact g0
      | 1 => simp at hi hv; subst hi; subst hv; cases g1 with | c h => exact .c (.ex h)
      | 2 => simp at hi hv; subst hi; subst hv; cases g2 with | c h => exact .c (.ex h)
      | 3 => simp at hi hv; subst hi; subst hv; cases g3 with | c h => exact .c (.ex h)
      | i + 4 => simp at hi
theorem args_ex {P : Program} {w : World} {F : Frs} {L : Nat → Pl} {o : List Ob} {a a' : AV} {args : List AV} {vs : List Value} {v0 : Value} (h0 : vs[0]? = some v0) (h : AVR P w F L o a' v0)
    (hv : ∀ (i : Nat) (b : AV) (v : Value), (a :: args)[i]? = some b → vs[i]? = some v → AVR P w F L o b v) : ∀ (i : Nat) (b : AV) (v : Value), (a' :: args)[i]? = some b → vs[i]? = some v → AVR P w F L o b v := fun i b v hi hvi => by
  cases i with
  | zero => simp at hi; subst hi; rw [h0] at hvi; injection hvi with hvi; subst hvi; exact h
  | succ i => exact hv (i + 1) b v (by simpa using hi) hvi
/-- A contract for all exact values is one for rows. -/
theorem AFn.arg3 {P : Program} {f : FuncId} {sq : Int} {a b c : List (List C)} {args : List AV} {R : Value → Value → Value → RV} {R' : RV}
    (hR : ∀ (x1 x2 x3 : Value) (w : World) (F : Frs) (ow : Own) (m : Nat) (v : Value), RVR P w F ow m 0 (R x1 x2 x3) v → RVR P w F ow m 0 R' v)
    (h : ∀ x1 x2 x3, AFn P f (.agg [.c (vi sq), .c (.ex x1 a), .c (.ex x2 b), .c (.ex x3 c)] :: args) [] (R x1 x2 x3) []) : AFn P f (.agg [.c (vi sq), .c (.sl a), .c (.sl b), .c (.sl c)] :: args) [] R' [] := by
  refine ⟨(h undef undef undef).1, fun w F0 ow0 L vs h1 h2 h3 h4 h5 h6 => ?_⟩
  match vs, h5, h6 with
  | v0 :: vs, h5, h6 =>
    obtain ⟨u1, u2, u3, rfl, g⟩ := av_ex (h6 0 _ v0 rfl rfl)
    refine ((h u1 u2 u3).2 w F0 ow0 L _ h1 h2 h3 h4 h5 (args_ex rfl g h6)).mono ?_
    rintro e w' ⟨v, ow', k1, k2, k3, k4, k5⟩
    exact ⟨v, ow', k1, k2, k3, hR _ _ _ _ _ _ _ _ k4, k5⟩
/-- A contract that returns what it got, for all exact values. -/
theorem ASame.of {P : Program} {f : FuncId} {sq : Int} {a b c : List (List C)} {args : List AV}
    (h : ∀ x1 x2 x3, AFn P f (.agg [.c (vi sq), .c (.ex x1 a), .c (.ex x2 b), .c (.ex x3 c)] :: args) [] (.tup [.agg [vi sq, .ex x1 a, .ex x2 b, .ex x3 c], .one (vb false)]) []) : ASame P f (.agg [.c (vi sq), .c (.sl a), .c (.sl b), .c (.sl c)] :: args) := by
  refine ⟨(h undef undef undef).1, fun w F0 ow0 L vs h1 h2 h5 h6 => ?_⟩
  match vs, h5, h6 with
  | v0 :: vs, h5, h6 =>
    obtain ⟨u1, u2, u3, rfl, g⟩ := av_ex (h6 0 _ v0 rfl rfl)
    refine ((h u1 u2 u3).2 w F0 ow0 L _ h1 h2 (fun id cells hi => by simp at hi) (fun id k hi => by simp at hi) h5 (args_ex rfl g h6)).mono ?_
    rintro e w' ⟨v, ow', k1, k2, k3, k4, k5⟩
    refine ⟨_, ow', rfl, ?_, k2, k3⟩
    rw [k1]
    cases k4 with
    | @tagg _ _ _ v1 vs1 q1 q2 =>
      cases q1 with
      | @agg _ _ us hl hs =>
        obtain ⟨us⟩ := us
        match us, hl, hs with
        | [y0, y1, y2, y3], _, hs =>
          have g0 := hs 0 _ y0 rfl rfl
          have g1 := hs 1 _ y1 rfl rfl
          have g2 := hs 2 _ y2 rfl rfl
          have g3 := hs 3 _ y3 rfl rfl
          cases g0; cases g1; cases g2; cases g3
          match vs1, q2 with
          | [], q2 => nomatch q2
          | z0 :: vs2, q2 =>
            cases q2 with
            | tone q3 q4 =>
              cases q3
              match vs2, q4 with
              | [], _ => rfl
              | _ :: _, q4 => nomatch q4
def unexC : C → C
  | .ex _ rows => .sl rows
  | c => c
theorem OC.unex {P : Program} {w : World} {F : Frs} {ow : Own} {p : List Nat} {c : C} {v : Value} (h : OC P w F ow p c v) : OC P w F ow p (unexC c) v := by
  cases h with
  | v h => exact .v h
  | x h => exact .x h
  | sl h => exact .sl h
  | ex h => exact .sl h
  | us h1 h2 h3 h4 h5 => exact .us h1 h2 h3 h4 h5
  | me h1 => exact .me h1
  | mp h1 h2 h3 => exact .mp h1 h2 h3
theorem RVR.unex {P : Program} {w : World} {F : Frs} {ow : Own} {m : Nat} {cs : List C} {l : List RV} {v : Value} (h : RVR P w F ow m 0 (.tup (.agg cs :: l)) v) : RVR P w F ow m 0 (.tup (.agg (cs.map unexC) :: l)) v := by
  cases h with
  | @tagg _ _ _ v1 vs1 q1 q2 =>
    cases q1 with
    | @agg _ _ us hl hs =>
      refine .tagg (.agg (by rw [List.length_map]; exact hl) fun i c u hi hu => ?_) (by rw [List.length_map]; exact q2)
      rw [List.getElem?_map] at hi
      cases hc : cs[i]? with
      | none => rw [hc] at hi; cases hi
      | some c0 => rw [hc] at hi; injection hi with hi; subst hi; exact (hs i c0 u hc hu).unex
end Ev

/-! A box that is written no more, told by its cells. -/
namespace Ev
open Go
def isC : SC → Bool
  | .c _ => true
  | _ => false
def okA (id a : Nat) : AV → Bool
  | .one (.c _) => true
  | .agg l => l.all isC
  | .cp l _ => l.all isC
  | .bx i _ => !Nat.beq i id && !Nat.beq i a
  | _ => false
def okS (id a : Nat) : Option AV → Bool
  | some b => okA id a b
  | none => true
def ubO (id a : Nat) (ow : Own) : Own := fun k => match ow k with
  | some (i :: r) => if i = id then (match r with
    | 1 :: r' => some (a :: 0 :: r')
    | 2 :: r' => some (a :: 1 :: r')
    | _ => none) else some (i :: r)
  | x => x
theorem ubO_sub {id a : Nat} {ow : Own} {k : Nat} {p : List Nat} (h : ubO id a ow k = some p) : ∃ q, ow k = some q := by
  unfold ubO at h
  cases ho : ow k with
  | none => rw [ho] at h; cases h
  | some q => exact ⟨q, rfl⟩
theorem Weak.unbox {P : Program} {m : Nat} {st : St} (n id a : Nat) (c0 c3 : C) (e1 e2 : TypeId) (r1 r2 : List (List C)) (g : Nat) (hs : st.s[n]? = some (some (.bx id 0))) (ho : st.o[id]? = some ⟨g, 0, some [c0, .us e1 r1, .us e2 r2, c3]⟩)
    (ha : st.o[a]? = some ⟨0, 0, none⟩) (h0 : c0.isUs = false) (h3 : c3.isUs = false) (hid : m ≤ id) (ham : m ≤ a) (hne : id ≠ a) (hok : (st.s.set n none).all (okS id a) = true) :
    Weak P m st ⟨st.s.set n (some (.cp [.c c0, .ref a 0 (.cell 0), .ref a 0 (.cell 1), .c c3] 0)), (st.o.set id ⟨0, 0, none⟩).set a ⟨0, 1, some [.us e1 r1, .us e2 r2]⟩⟩ := by
  intro x act w L ow hm h
  have hnl := (List.getElem?_eq_some_iff.1 hs).1
  have hal := (List.getElem?_eq_some_iff.1 ha).1
  have hR := h.objs id _ _ ho rfl
  obtain ⟨v, hv1, hv2⟩ := h.slots n _ hs
  cases hv2 with
  | @bx _ _ b ob cells k2 k3 k4 =>
    obtain ⟨hown, cs, e, hheap, hsz⟩ := hR.blk b k4
    obtain ⟨u0, w0, o0⟩ := hR.cell 0 c0 rfl
    obtain ⟨u1, w1, o1⟩ := hR.cell 1 _ rfl
    obtain ⟨u2, w2, o2⟩ := hR.cell 2 _ rfl
    obtain ⟨u3, w3, o3⟩ := hR.cell 3 c3 rfl
    rw [k4] at w0 w1 w2 w3
    have hO : ∀ k i r, ow k = some (i :: r) → i ≠ id → ubO id a ow k = some (i :: r) := fun k i r hk hi => by unfold ubO; rw [hk]; simp only [if_neg hi]
    have hN : ∀ k, ow k = none → ubO id a ow k = none := fun k hk => by unfold ubO; rw [hk]
    have hF : FStep w w (x.F w ow) (x.F w (ubO id a ow)) := fun k hk => ⟨rfl, FF_grow (Nat.le_refl _) hk (hN k (h.F_own hk))⟩
    have hb : x.F w (ubO id a ow) b := .inr ⟨(h.owOk b _ hown).1, by unfold ubO; rw [hown]; simp, (h.owOk b _ hown).2⟩
    have hoa : ((st.o.set id ⟨0, 0, none⟩).set a ⟨0, 1, some [.us e1 r1, .us e2 r2]⟩)[a]? = some ⟨0, 1, some [.us e1 r1, .us e2 r2]⟩ := List.getElem?_set_self (by rw [List.length_set]; exact hal)
    have hoi : ∀ i, i ≠ id → i ≠ a → ((st.o.set id ⟨0, 0, none⟩).set a ⟨0, 1, some [.us e1 r1, .us e2 r2]⟩)[i]? = st.o[i]? := fun i h1 h2 => by
      rw [List.getElem?_set_ne (Ne.symm h2), List.getElem?_set_ne (Ne.symm h1)]
    let L' : Nat → Pl := fun i => if i = a then .vals [u1, u2] else L i
    have hLa : L' a = .vals [u1, u2] := if_pos rfl
    have hLi : ∀ i, i ≠ a → L' i = L i := fun i h1 => if_neg h1
    have n1 : OC P w (x.F w (ubO id a ow)) (ubO id a ow) [a, 0] (.us e1 r1) u1 := o1.move hF fun k r hk => ⟨rfl, by unfold ubO; rw [hk]; simp⟩
    have n2 : OC P w (x.F w (ubO id a ow)) (ubO id a ow) [a, 1] (.us e2 r2) u2 := o2.move hF fun k r hk => ⟨rfl, by unfold ubO; rw [hk]; simp⟩
    refine ⟨L', ubO id a ow, h.cx, h.keeps, fun k p hk => by obtain ⟨q, hq⟩ := ubO_sub hk; exact h.owOk k q hq, fun k av hk => ?_, fun i ob cells g1 g2 => ?_, fun i ob cells g1 g2 g3 => ?_, h.defers, by rw [List.length_set]; exact h.len, fun i hi => ?_⟩
    · by_cases hkn : k = n
      · subst hkn
        rw [List.getElem?_set_self hnl] at hk
        injection hk with hk; injection hk with hk; subst hk
        refine ⟨_, hv1, .cp (vs := [u0, u1, u2, u3]) rfl hb (fun j u hj => ?_) fun j s u hj hu => ?_⟩
        · match j with
          | 0 => simp at hj; subst hj; exact w0
          | 1 => simp at hj; subst hj; exact w1
          | 2 => simp at hj; subst hj; exact w2
          | 3 => simp at hj; subst hj; exact w3
          | j + 4 => simp at hj
        · match j with
          | 0 => simp at hj hu; subst hj; subst hu; exact .c ((o0.toFR h0).move hF)
          | 1 => simp at hj hu; subst hj; subst hu; exact .ref o1.one hoa rfl (Nat.le_refl _) (fun _ _ _ _ => by rw [hLa]; rfl) fun l off hl hp => by rw [hLa] at hl; injection hl with hl; subst hl; injection hp with hp; subst hp; rfl
          | 2 => simp at hj hu; subst hj; subst hu; exact .ref o2.one hoa rfl (Nat.le_refl _) (fun _ _ _ _ => by rw [hLa]; rfl) fun l off hl hp => by rw [hLa] at hl; injection hl with hl; subst hl; injection hp with hp; subst hp; rfl
          | 3 => simp at hj hu; subst hj; subst hu; exact .c ((o3.toFR h3).move hF)
          | j + 4 => simp at hj
      · rw [List.getElem?_set_ne (Ne.symm hkn)] at hk
        obtain ⟨u, hu1, hu2⟩ := h.slots k av hk
        refine ⟨u, hu1, ?_⟩
        have hka : okA id a av = true := by
          have := List.all_eq_true.1 hok (some av) (List.mem_of_getElem? (by rw [List.getElem?_set_ne (Ne.symm hkn)]; exact hk))
          exact this
        have key : ∀ (s : SC) (u : Value), isC s = true → SCR P w (x.F w ow) L st.o s u → SCR P w (x.F w (ubO id a ow)) L' ((st.o.set id ⟨0, 0, none⟩).set a ⟨0, 1, some [.us e1 r1, .us e2 r2]⟩) s u := fun s u hs hr => by
          cases hr with
          | c hf => exact .c (hf.move hF)
          | ref => cases hs
          | view => cases hs
        cases hu2 with
        | one hr =>
          cases hr with
          | c hf => exact .one (.c (hf.move hF))
          | ref => cases hka
          | view => cases hka
        | agg q1 q2 => exact .agg q1 fun i s u' hi hu' => key s u' (List.all_eq_true.1 hka s (List.mem_of_getElem? hi)) (q2 i s u' hi hu')
        | cp q1 q2 q3 q4 => exact .cp q1 (hF _ q2).2 q3 fun j s u' hj hu' => key s u' (List.all_eq_true.1 hka s (List.mem_of_getElem? hj)) (q4 j s u' hj hu')
        | @bx i off gg ob cells q2 q3 q4 =>
          simp only [okA, Bool.and_eq_true, Bool.not_eq_true'] at hka
          have i1 : i ≠ id := Nat.ne_of_beq_eq_false hka.1
          have i2 : i ≠ a := Nat.ne_of_beq_eq_false hka.2
          exact .bx ((hoi i i1 i2).trans q2) q3 ((hLi i i2).trans q4)
        | tup => cases hka
        | dp => cases hka
        | ep => cases hka
        | bs => cases hka
        | clo => cases hka
        | ifc => cases hka
    · by_cases hia : i = a
      · subst hia
        rw [hoa] at g1
        injection g1 with g1; subst g1
        injection g2 with g2; subst g2
        rw [hLa]
        refine ⟨(fun _ hg => nomatch hg), fun j c hj => ?_, fun _ _ hg => nomatch hg⟩
        match j with
        | 0 => simp at hj; subst hj; exact ⟨u1, rfl, n1⟩
        | 1 => simp at hj; subst hj; exact ⟨u2, rfl, n2⟩
        | j + 2 => simp at hj
      · by_cases hii : i = id
        · subst hii
          rw [List.getElem?_set_ne (Ne.symm hia), List.getElem?_set_self (List.getElem?_eq_some_iff.1 ho).1] at g1
          injection g1 with g1; subst g1; cases g2
        · rw [hoi i hii hia] at g1
          rw [hLi i hia]
          exact (h.objs i ob cells g1 g2).move hF fun k r hk => ⟨rfl, hO k i r hk hii⟩
    · by_cases hia : i = a
      · subst hia; exact ⟨_, hLa⟩
      · by_cases hii : i = id
        · subst hii
          rw [List.getElem?_set_ne (Ne.symm hia), List.getElem?_set_self (List.getElem?_eq_some_iff.1 ho).1] at g1
          injection g1 with g1; subst g1; cases g2
        · rw [hoi i hii hia] at g1
          rw [hLi i hia]
          exact h.kinds i ob cells g1 g2 g3
    · obtain ⟨⟨ob, cells, g1, g2⟩, g3⟩ := h.pass i hi
      rw [hm] at hi
      have i1 : i ≠ id := by omega
      have i2 : i ≠ a := by omega
      exact ⟨⟨ob, cells, (hoi i i1 i2).trans g1, g2⟩, (hLi i i2).trans g3⟩
end Ev
