/-
  An abstract machine, sound for the model: part 1.
-/
import Derived.Calls
import Derived.Laws.AppendOwn
import Derived.Shelf.Abstract
import Derived.Lib.ItoaNum
import Derived.Maps.AppendAt
import Derived.Laws.MakeOwn
import Derived.Laws.Cells
import Derived.OwnWalk
import Derived.Laws.Slices
import Derived.Laws.StructEq
set_option linter.unusedVariables false
set_option linter.unusedSimpArgs false
namespace Ev
open Go
inductive C where
 | v (x : Value)
 | sl (rows : List (List C))
 | us (e : TypeId) (rows : List (List C))
 | x
 | mp (es : List (ByteArray × Int))
 | ex (x : Value) (rows : List (List C))
 | me (T : TypeId)
 deriving Inhabited
inductive Pth where
 | cell (off : Nat)
 | elem (off i j : Nat)
 deriving DecidableEq
inductive SC where
 | c (c : C)
 | ref (id g : Nat) (p : Pth)
 | view (id g off lo n : Nat)
inductive AV where
 | one (s : SC)
 | agg (l : List SC)
 | tup (l : List AV)
 | bx (id off : Nat)
 | dp (id g off i j : Nat)
 | ep (row : List C) (off : Nat) (ad : Option (Nat × Nat) := none)
 | cp (l : List SC) (off : Nat)
 | bs (id off n : Nat) (e : TypeId)
 | clo (f : FuncId) (caps : List AV)
 | ifc (t : TypeId) (a : AV)
inductive RV where
 | one (c : C)
 | agg (l : List C)
 | tup (l : List RV)
 | bx (l : List C)
 | ifc (t : TypeId) (l : List C)
structure Ob where
 g : Nat
 kind : Nat   -- 0: a box; 1: values in slots; 2: a row written out
 cells : Option (List C)
structure St where
 s : List (Option AV)
 o : List Ob
inductive Loc where
 | s (n : Nat)
 | o (n : Nat)
 | h (n : Nat)
abbrev Own := Nat → Option (List Nat)
abbrev Frs := Nat → Prop
inductive Pl where
 | blk (g : Nat)
 | vals (l : List Value)
def getC (cells : List C) : Pth → Option C
 | .cell off => cells[off]?
 | .elem off i j => match cells[off]? with
  | some (.us _ rows) => match rows[i]? with
   | some r => r[j]?
   | none => none
  | _ => none
def putC (cells : List C) (n : C) : Pth → List C
 | .cell off => cells.set off n
 | .elem off i j => match cells[off]? with
  | some (.us e rows) => match rows[i]? with
   | some r => cells.set off (.us e (rows.set i (r.set j n)))
   | none => cells
  | _ => cells
inductive FR (w : World) (F : Frs) : C → Value → Prop where
 | v {x : Value} : x.oneCell' = true → FR w F (.v x) x
 | x {x : Value} : x.oneCell' = true → FR w F .x x
 | sl {rows : List (List C)} {a : Option Addr} {n cap sz : Nat} (val : Nat → Nat → Value)
   (hn : rows.length = n) (hc : n ≤ cap) (hm : cap ≤ maxLen) (hsz : ∀ r ∈ rows, r.length = sz)
   (hcell : ∀ (i : Nat) (r : List C) (j : Nat) (c : C), rows[i]? = some r → r[j]? = some c →
    ∃ b o, a = some ⟨b, o, none⟩ ∧ F b ∧ w.cell? ⟨b, o + (i * sz + j), none⟩ = some (val i j))
   (ih : ∀ (i : Nat) (r : List C) (j : Nat) (c : C), rows[i]? = some r → r[j]? = some c → FR w F c (val i j)) : FR w F (.sl rows) (.slice a n cap)
 | ex {x : Value} {rows : List (List C)} (h : FR w F (.sl rows) x) : FR w F (.ex x rows) x
def MapIs (arr : Array MapEntry) (es : List (ByteArray × Int)) : Prop := arr.toList.map (fun e => (e.key, e.val)) = es.map fun q => (Value.string q.1, Value.int .i64 q.2)
inductive OC (P : Program) (w : World) (F : Frs) (ow : Own) : List Nat → C → Value → Prop where
 | v {p : List Nat} {x : Value} : x.oneCell' = true → OC P w F ow p (.v x) x
 | x {p : List Nat} {x : Value} : x.oneCell' = true → OC P w F ow p .x x
 | sl {p : List Nat} {rows : List (List C)} {v : Value} : FR w F (.sl rows) v → OC P w F ow p (.sl rows) v
 | ex {p : List Nat} {x : Value} {rows : List (List C)} (h : FR w F (.sl rows) x) : OC P w F ow p (.ex x rows) x
 | me {p : List Nat} {T : TypeId} {x : Value} : x.oneCell' = true → OC P w F ow p (.me T) x
 | us {p : List Nat} {e : TypeId} {rows : List (List C)} {v : Value} {inner : List Value}
   (hown : w.ownsRow 0 e (P.cellsOf e) v rows.length inner) (hp : 0 < P.cellsOf e)
   (hsz : ∀ r ∈ rows, r.length = P.cellsOf e) (how : ∀ g, v.ownBlock = some g → ow g = some p)
   (ih : ∀ (i : Nat) (r : List C) (j : Nat) (c : C), rows[i]? = some r → r[j]? = some c → OC P w F ow (p ++ [i, j]) c (inner.getD (i * P.cellsOf e + j) undef)) :
   OC P w F ow p (.us e rows) v
 | mp {p : List Nat} {es : List (ByteArray × Int)} {r : Nat} {arr : Array MapEntry} {clk : Nat} (hh : w.heap[r]? = some (.map arr clk)) (he : MapIs arr es) (ho : ow r = some p) : OC P w F ow p (.mp es) (.map (some r))
def Pl.val (w : World) : Pl → Nat → Option Value
 | .blk g, j => w.cell? ⟨g, j, none⟩
 | .vals l, j => l[j]?
structure ObjR (P : Program) (w : World) (F : Frs) (ow : Own) (id : Nat) (pl : Pl) (cells : List C) : Prop where
 blk : ∀ g, pl = .blk g → ow g = some [id] ∧ ∃ cs e, w.heap[g]? = some (.cells cs e (0, 0)) ∧ cs.size = cells.length
 cell : ∀ j c, cells[j]? = some c → ∃ u, pl.val w j = some u ∧ OC P w F ow [id, j] c u
 me : ∀ T g, pl = .blk g → cells[0]? = some (.me T) → ∃ u cs, pl.val w 0 = some u ∧ (u = .pointer none ∨ u = .pointer (some ⟨g, 0, none⟩)) ∧ w.heap[g]? = some (.cells cs T (0, 0))
def ValAt (P : Program) (w : World) (pl : Pl) (cells : List C) : Pth → Value → Prop
 | .cell off, v => pl.val w off = some v
 | .elem off i j, v => ∃ e rows u g, cells[off]? = some (.us e rows) ∧ pl.val w off = some u ∧ u.ownBlock = some g ∧
   w.cell? ⟨g, i * P.cellsOf e + j, none⟩ = some v
def resliced (v : Value) (lo n sz : Nat) : Value := match v with
 | .slice a _ cap => .slice (if cap = lo then a else a.map (·.add (lo * sz))) n (cap - lo)
 | v => v
inductive SCR (P : Program) (w : World) (F : Frs) (L : Nat → Pl) (o : List Ob) : SC → Value → Prop where
 | c {c : C} {v : Value} : FR w F c v → SCR P w F L o (.c c) v
 | ref {id g : Nat} {p : Pth} {v : Value} {ob : Ob} {cells : List C} (h1 : v.oneCell' = true) (h2 : o[id]? = some ob) (h3 : ob.cells = some cells) (h4 : g ≤ ob.g)
   (h5 : ob.g = g → ∀ e rows, getC cells p = some (.us e rows) → ValAt P w (L id) cells p v) (h6 : ∀ l off, L id = .vals l → p = .cell off → l[off]? = some v) : SCR P w F L o (.ref id g p) v
 | view {id g off lo n : Nat} {v : Value} {ob : Ob} {cells : List C} (h1 : ∃ a cap, v = .slice a n cap) (h2 : o[id]? = some ob) (h3 : ob.cells = some cells) (h4 : g ≤ ob.g)
   (h5 : ob.g = g → ∀ e rows, cells[off]? = some (.us e rows) → lo + n ≤ rows.length ∧ ∃ v0, ValAt P w (L id) cells (.cell off) v0 ∧ v = resliced v0 lo n (P.cellsOf e)) :
   SCR P w F L o (.view id g off lo n) v
inductive AVR (P : Program) (w : World) (F : Frs) (L : Nat → Pl) (o : List Ob) : AV → Value → Prop where
 | one {s : SC} {v : Value} : SCR P w F L o s v → AVR P w F L o (.one s) v
 | agg {l : List SC} {vs : Array Value} (h : l.length = vs.size) (h2 : ∀ (i : Nat) (s : SC) (v : Value), l[i]? = some s → vs[i]? = some v → SCR P w F L o s v) : AVR P w F L o (.agg l) (.agg vs)
 | tup {l : List AV} {vs : Array Value} (h : l.length = vs.size) (h2 : ∀ (i : Nat) (s : AV) (v : Value), l[i]? = some s → vs[i]? = some v → AVR P w F L o s v) : AVR P w F L o (.tup l) (.tuple vs)
 | bx {id off g : Nat} {ob : Ob} {cells : List C} (h2 : o[id]? = some ob) (h3 : ob.cells = some cells) (h4 : L id = .blk g) : AVR P w F L o (.bx id off) (.pointer (some ⟨g, off, none⟩))
 | dp {id g off i j : Nat} {a : Addr} {ob : Ob} {cells : List C} (h2 : o[id]? = some ob) (h3 : ob.cells = some cells) (h4 : g ≤ ob.g)
   (h5 : ob.g = g → ∀ e rows r, cells[off]? = some (.us e rows) → rows[i]? = some r → ∃ u b, (L id).val w off = some u ∧ u.ownBlock = some b ∧ a = ⟨b, i * P.cellsOf e + j, none⟩) :
   AVR P w F L o (.dp id g off i j) (.pointer (some a))
 | ep {row : List C} {off b k : Nat} {ad : Option (Nat × Nat)} (had : ∀ p, ad = some p → p = (b, k)) (h : ∀ j c, row[j]? = some c → F b ∧ ∃ u, w.cell? ⟨b, k + j, none⟩ = some u ∧ FR w F c u) :
   AVR P w F L o (.ep row off ad) (.pointer (some ⟨b, k + off, none⟩))
 | cp {l : List SC} {off b : Nat} {vs : List Value} (hl : l.length = vs.length) (hb : F b) (hv : ∀ (j : Nat) (v : Value), vs[j]? = some v → w.cell? ⟨b, j, none⟩ = some v) (hs : ∀ (j : Nat) (s : SC) (v : Value), l[j]? = some s → vs[j]? = some v → SCR P w F L o s v) :
   AVR P w F L o (.cp l off) (.pointer (some ⟨b, off, none⟩))
 | bs {id off n g : Nat} {e : TypeId} {ob : Ob} {cells : List C} (h2 : o[id]? = some ob) (h3 : ob.cells = some cells) (h4 : L id = .blk g) : AVR P w F L o (.bs id off n e) (.slice (some ⟨g, off, none⟩) n n)
 | clo {f : FuncId} {l : List AV} {vs : Array Value} (h : l.length = vs.size) (h2 : ∀ (i : Nat) (s : AV) (v : Value), l[i]? = some s → vs[i]? = some v → AVR P w F L o s v) :
   AVR P w F L o (.clo f l) (.func (.func f) #[] vs)
 | ifc {t : TypeId} {a : AV} {v : Value} : AVR P w F L o a v → AVR P w F L o (.ifc t a) (.iface t v)
structure Keeps (w w' : World) (ow : Own) : Prop where
 os : w'.os = w.os
 tape : w'.tape = w.tape
 output : w'.output = w.output
 size : w.heap.size ≤ w'.heap.size
 block : ∀ k, k < w.heap.size → ow k = none → w'.heap[k]? = w.heap[k]?
def FF (w0 : World) (F0 : Frs) (ow0 : Own) (w : World) (ow : Own) : Frs :=
 fun k => F0 k ∨ (k < w.heap.size ∧ ow k = none ∧ (ow0 k ≠ none ∨ w0.heap.size ≤ k))
theorem cell_of_heap {w w' : World} {b o : Nat} (h : w'.heap[b]? = w.heap[b]?) : w'.cell? ⟨b, o, none⟩ = w.cell? ⟨b, o, none⟩ := by simp [World.cell?, h]
theorem FR.move {w w' : World} {F F' : Frs} {c : C} {v : Value} (h : FR w F c v) (hF : ∀ k, F k → w'.heap[k]? = w.heap[k]? ∧ F' k) : FR w' F' c v := by
 induction h with
 | v hx => exact .v hx
 | x hx => exact .x hx
 | sl val hn hc hm hsz hcell _ ih =>
  refine .sl val hn hc hm hsz (fun i r j c hi hj => ?_) ih
  obtain ⟨b, o, ha, hb, hcl⟩ := hcell i r j c hi hj
  exact ⟨b, o, ha, (hF b hb).2, (cell_of_heap (hF b hb).1).trans hcl⟩
 | ex _ ih => exact .ex ih
theorem FR.one {w : World} {F : Frs} {c : C} {v : Value} (h : FR w F c v) : v.oneCell' = true := by
 cases h with
 | v h => exact h
 | x h => exact h
 | sl => rfl
 | ex h => cases h; rfl
theorem OC.one {P : Program} {w : World} {F : Frs} {ow : Own} {p : List Nat} {c : C} {v : Value} (h : OC P w F ow p c v) : v.oneCell' = true := by
 cases h with
 | v h => exact h
 | x h => exact h
 | sl h => exact h.one
 | ex h => exact h.one
 | me h => exact h
 | us hown => rcases hown.2 with ⟨rfl, _⟩ | ⟨_, _, _, rfl, _⟩ <;> rfl
 | mp => rfl
theorem ownsRow_move {w w' : World} {e : TypeId} {sz n : Nat} {v : Value} {inner : List Value} (h : w.ownsRow 0 e sz v n inner) (hk : ∀ g, v.ownBlock = some g → w'.heap[g]? = w.heap[g]?) : w'.ownsRow 0 e sz v n inner := by
 refine ⟨h.1, ?_⟩
 rcases h.2 with hn | ⟨g, cap, cur, rfl, hb, hg, rest⟩
 ·exact .inl hn
 ·exact .inr ⟨g, cap, cur, rfl, hb, (hk g rfl).trans hg, rest⟩
theorem OC.move {P : Program} {w w' : World} {F F' : Frs} {ow ow' : Own} {p : List Nat} {c : C} {v : Value} (h : OC P w F ow p c v) : ∀ {p' : List Nat}, (∀ k, F k → w'.heap[k]? = w.heap[k]? ∧ F' k) →
  (∀ k r, ow k = some (p ++ r) → w'.heap[k]? = w.heap[k]? ∧ ow' k = some (p' ++ r)) → OC P w' F' ow' p' c v := by
 induction h with
 | v hx => exact fun _ _ => .v hx
 | x hx => exact fun _ _ => .x hx
 | sl hf => exact fun hF _ => .sl (hf.move hF)
 | ex hf => exact fun hF _ => .ex (hf.move hF)
 | me hx => exact fun _ _ => .me hx
 | us hown hp hsz how _ ih =>
  intro p' hF hO
  refine .us (ownsRow_move hown fun g hg => ?_) hp hsz (fun g hg => ?_) (fun i r j c hi hj => ih i r j c hi hj hF fun k q hk => ?_)
  ·exact (hO g [] (by rw [List.append_nil]; exact how g hg)).1
  ·have := (hO g [] (by rw [List.append_nil]; exact how g hg)).2
   rwa [List.append_nil] at this
  ·rw [List.append_assoc] at hk ⊢
   exact hO k ([i, j] ++ q) hk
 | @mp p es r arr clk hh he ho =>
  intro p' hF hO
  obtain ⟨h1, h2⟩ := hO r [] (by rw [List.append_nil]; exact ho)
  rw [List.append_nil] at h2
  exact .mp (h1.trans hh) he h2
inductive Frz : C → C → Prop where
 | v {x : Value} : Frz (.v x) (.v x)
 | nil : Frz (.v (.slice none 0 0)) (.sl [])
 | sl {rows : List (List C)} : Frz (.sl rows) (.sl rows)
 | ex {x : Value} {rows : List (List C)} : Frz (.ex x rows) (.sl rows)
 | us {e : TypeId} {rows rows' : List (List C)} (hl : rows.length = rows'.length) (hr : ∀ (i : Nat) (r r' : List C), rows[i]? = some r → rows'[i]? = some r' → r.length = r'.length)
   (ih : ∀ (i : Nat) (r r' : List C) (j : Nat) (c c' : C), rows[i]? = some r → rows'[i]? = some r' → r[j]? = some c → r'[j]? = some c' → Frz c c') : Frz (.us e rows) (.sl rows')
theorem ownsRow_cell {w : World} {e : TypeId} {sz n : Nat} {v : Value} {inner : List Value} (h : w.ownsRow 0 e sz v n inner) {k : Nat} (hk : k < n * sz) :
  ∃ g cap, v = .slice (some ⟨g, 0, none⟩) n cap ∧ n ≤ cap ∧ cap ≤ maxLen ∧ w.cell? ⟨g, k, none⟩ = some (inner.getD k undef) ∧ w.frozen? ⟨g, k, none⟩ = false ∧ g < w.heap.size := by
 rcases h.2 with ⟨rfl, rfl⟩ | ⟨g, cap, cur, rfl, _, hg, hc, hm, hs, ht⟩
 ·simp at hk
 ·refine ⟨g, cap, rfl, hc, hm, ?_, frozen_of_row w g k cur e hg, (Array.getElem?_eq_some_iff.1 hg).1⟩
  rw [cell_of_row w g k cur e (0, 0) hg, ← ht]
  have h1 : n * sz ≤ cap * sz := Nat.mul_le_mul_right _ hc
  have : k < cur.size := by omega
  simp [List.getD_eq_getElem?_getD, hk, this]
theorem idx_lt {i n j sz : Nat} (h : i < n) (hj : j < sz) : i * sz + j < n * sz := by
 have : (i + 1) * sz ≤ n * sz := Nat.mul_le_mul_right _ h
 rw [Nat.add_mul] at this; omega
theorem OC.freeze {P : Program} {w w' : World} {F F' : Frs} {ow : Own} {p : List Nat} {c : C} {v : Value} (h : OC P w F ow p c v) : ∀ {c' : C}, Frz c c' → (∀ k, F k → w'.heap[k]? = w.heap[k]? ∧ F' k) →
  (∀ k r, ow k = some (p ++ r) → w'.heap[k]? = w.heap[k]? ∧ F' k) → FR w' F' c' v := by
 induction h with
 | v hx =>
  intro c' hz hF hO
  cases hz with
  | v => exact .v hx
  | nil => exact .sl (sz := 0) (fun _ _ => undef) rfl (Nat.le_refl _) (by simp [maxLen]) (by simp) (by simp) (by simp)
 | x hx => intro c' hz; cases hz
 | sl hf => intro c' hz hF _; cases hz; exact hf.move hF
 | ex hf => intro c' hz hF _; cases hz; exact hf.move hF
 | me hx => intro c' hz; cases hz
 | @us p e rows v inner hown hp hsz how _ ih =>
  intro c' hz hF hO
  cases hz with
  | @us _ _ rows' hl hr ihz =>
   have key : ∀ i r' j c', rows'[i]? = some r' → r'[j]? = some c' → ∃ r c, rows[i]? = some r ∧ r[j]? = some c ∧ i * P.cellsOf e + j < rows.length * P.cellsOf e := by
    intro i r' j c' hi hj
    have hi' : i < rows.length := by rw [hl]; exact (List.getElem?_eq_some_iff.1 hi).1
    have h1 : rows[i]? = some rows[i] := List.getElem?_eq_getElem hi'
    have h2 := hr i _ _ h1 hi
    have hj' : j < rows[i].length := by rw [h2]; exact (List.getElem?_eq_some_iff.1 hj).1
    refine ⟨_, rows[i][j], h1, List.getElem?_eq_getElem hj', idx_lt hi' ?_⟩
    rw [← hsz _ (List.getElem_mem hi')]; exact hj'
   have mk : ∀ (a : Option Addr) (cap : Nat), v = .slice a rows.length cap → rows.length ≤ cap → cap ≤ maxLen → FR w' F' (.sl rows') v := by
    intro a cap hv hc hm
    subst hv
    refine .sl (sz := P.cellsOf e) (fun i j => inner.getD (i * P.cellsOf e + j) undef) hl.symm hc hm (fun r' hr' => ?_) (fun i r' j c' hi hj => ?_) (fun i r' j c' hi hj => ?_)
    ·obtain ⟨i, hi⟩ := List.mem_iff_getElem?.1 hr'
     have hi' : i < rows.length := by rw [hl]; exact (List.getElem?_eq_some_iff.1 hi).1
     rw [← hr i _ _ (List.getElem?_eq_getElem hi') hi]
     exact hsz _ (List.getElem_mem hi')
    ·obtain ⟨r, c, hr1, hc1, hlt⟩ := key i r' j c' hi hj
     obtain ⟨g, cap', hv', _, _, hcell, _, _⟩ := ownsRow_cell hown hlt
     injection hv' with ha _ _
     have hg := hO g [] (by rw [List.append_nil]; exact how g (by rw [ha]; rfl))
     exact ⟨g, 0, ha, hg.2, by rw [Nat.zero_add]; exact (cell_of_heap hg.1).trans hcell⟩
    ·obtain ⟨r, c, hr1, hc1, _⟩ := key i r' j c' hi hj
     refine ih i r j c hr1 hc1 (ihz i r r' j c c' hr1 hi hc1 hj) hF fun k q hk => ?_
     rw [List.append_assoc] at hk
     exact hO k _ hk
   rcases hown.2 with ⟨hv, hn⟩ | ⟨g, cap, cur, hv, _, _, hc, hm, _⟩
   ·exact mk none 0 (by rw [hv, hn]) (by omega) (by simp [maxLen])
   ·exact mk _ cap hv hc hm
 | mp => intro c' hz; cases hz
def nmPow : String := "internal" ++ String.singleton (Char.ofNat 47) ++ "strconv.uint64pow10"
def WP (P : Program) (w : World) (ow : Own) : Prop :=
 (∀ g, P.globalNamed nmPow = some g → g < w.heap.size ∧ ow g = none ∧ ∃ t z, w.heap[g]? = some (.cells (Lib.pow10Tab.map fun z => Value.int .u64 z).toArray t z)) ∧
 (∀ g, P.globalNamed "strconv.ErrSyntax" = some g → g < w.heap.size ∧ ow g = none ∧ ∃ t p, w.cell? ⟨g, 0, none⟩ = some (.iface t p))
theorem WP.next {P : Program} {w w' : World} {ow ow' : Own} (h : WP P w ow) (hs : w.heap.size ≤ w'.heap.size) (hb : ∀ g, g < w.heap.size → ow g = none → w'.heap[g]? = w.heap[g]? ∧ ow' g = none) : WP P w' ow' := by
 refine ⟨fun g hg => ?_, fun g hg => ?_⟩
 ·obtain ⟨h1, h2, t, z, h3⟩ := h.1 g hg
  exact ⟨Nat.lt_of_lt_of_le h1 hs, (hb g h1 h2).2, t, z, (hb g h1 h2).1.trans h3⟩
 ·obtain ⟨h1, h2, t, z, h3⟩ := h.2 g hg
  exact ⟨Nat.lt_of_lt_of_le h1 hs, (hb g h1 h2).2, t, z, (cell_of_heap (hb g h1 h2).1).trans h3⟩
theorem WP.no {P : Program} {w : World} {ow : Own} (h1 : P.globalNamed nmPow = none) (h2 : P.globalNamed "strconv.ErrSyntax" = none) : WP P w ow :=
 by
 refine ⟨fun g hg => ?_, fun g hg => ?_⟩
 ·rw [h1] at hg; cases hg
 ·rw [h2] at hg; cases hg
structure CxOk (P : Program) (w : World) (F0 : Frs) (ow0 : Own) : Prop where
 fr : ∀ k, F0 k → k < w.heap.size ∧ ow0 k = none
 wp : WP P w ow0
end Ev

namespace Ev
open Go
structure Cx where
 w0 : World
 F0 : Frs
 ow0 : Own
 m : Nat
 L0 : Nat → Pl
 ds : List Deferred := []
abbrev Cx.F (x : Cx) (w : World) (ow : Own) : Frs := FF x.w0 x.F0 x.ow0 w ow
structure Rel (P : Program) (x : Cx) (st : St) (a : Act) (w : World) (L : Nat → Pl) (ow : Own) : Prop where
 cx : CxOk P x.w0 x.F0 x.ow0
 keeps : Keeps x.w0 w x.ow0
 owOk : ∀ k p, ow k = some p → k < w.heap.size ∧ (x.ow0 k ≠ none ∨ x.w0.heap.size ≤ k)
 slots : ∀ (n : Nat) (av : AV), st.s[n]? = some (some av) → ∃ v, a.tmps[n]? = some v ∧ AVR P w (x.F w ow) L st.o av v
 objs : ∀ (id : Nat) (ob : Ob) (cells : List C), st.o[id]? = some ob → ob.cells = some cells → ObjR P w (x.F w ow) ow id (L id) cells
 kinds : ∀ (id : Nat) (ob : Ob) (cells : List C), st.o[id]? = some ob → ob.cells = some cells → ob.kind ≠ 0 → ∃ l, L id = .vals l
 defers : a.defers = x.ds
 len : st.s.length = a.tmps.size
 pass : ∀ (id : Nat), id < x.m → (∃ ob cells, st.o[id]? = some ob ∧ ob.cells = some cells) ∧ L id = x.L0 id
def ObStep (P : Program) (w w' : World) (pl : Pl) (cells cells' : List C) : Prop :=
 ∀ (off : Nat) (e : TypeId) (rows' : List (List C)), cells'[off]? = some (.us e rows') → ∃ rows, cells[off]? = some (.us e rows) ∧ rows.length = rows'.length ∧ pl.val w' off = pl.val w off ∧
  ∀ (i : Nat) (r' : List C) (j : Nat) (e2 : TypeId) (rows2' : List (List C)), rows'[i]? = some r' → r'[j]? = some (.us e2 rows2') → ∃ r rows2, rows[i]? = some r ∧ r[j]? = some (.us e2 rows2) ∧
   ∀ u g, pl.val w off = some u → u.ownBlock = some g → w'.cell? ⟨g, i * P.cellsOf e + j, none⟩ = w.cell? ⟨g, i * P.cellsOf e + j, none⟩
def OStep (P : Program) (w w' : World) (L L' : Nat → Pl) (o o' : List Ob) : Prop :=
 ∀ (id : Nat) (ob : Ob) (cells : List C), o[id]? = some ob → ob.cells = some cells → ∃ ob' cells', o'[id]? = some ob' ∧ ob'.cells = some cells' ∧ ob.g ≤ ob'.g ∧ L' id = L id ∧ (ob'.g = ob.g → ObStep P w w' (L id) cells cells')
def FStep (w w' : World) (F F' : Frs) : Prop := ∀ k, F k → w'.heap[k]? = w.heap[k]? ∧ F' k
section
variable {P : Program} {x : Cx} {st : St} {a : Act} {w w' : World} {L L' : Nat → Pl} {ow ow' : Own} {o o' : List Ob} {F F' : Frs}
theorem ObStep.valAt {pl : Pl} {cells cells' : List C} (h : ObStep P w w' pl cells cells') {p : Pth} {e : TypeId} {rows' : List (List C)} (hg : getC cells' p = some (.us e rows')) :
  ∃ rows, getC cells p = some (.us e rows) ∧ (∀ off, p = .cell off → rows.length = rows'.length) ∧ ∀ v, ValAt P w pl cells p v → ValAt P w' pl cells' p v := by
 cases p with
 | cell off =>
  obtain ⟨rows, h1, h2, h3, _⟩ := h off e rows' hg
  exact ⟨rows, h1, fun _ _ => h2, fun v hv => h3.trans hv⟩
 | elem off i j =>
  simp only [getC] at hg
  cases hc : cells'[off]? with
  | none => simp [hc] at hg
  | some c =>
   cases c with
   | us e1 rows1 =>
    simp only [hc] at hg
    cases hr : rows1[i]? with
    | none => simp [hr] at hg
    | some r1 =>
     simp only [hr] at hg
     obtain ⟨rows, h1, h2, h3, h4⟩ := h off e1 rows1 hc
     obtain ⟨r, rows2, h5, h6, h7⟩ := h4 i r1 j e rows' hr hg
     refine ⟨rows2, by simp [getC, h1, h5, h6], (fun _ hh => nomatch hh), fun v hv => ?_⟩
     obtain ⟨e3, rows3, u, g, g1, g2, g3, g4⟩ := hv
     rw [h1] at g1
     injection g1 with g1
     injection g1 with ge gr
     subst ge
     exact ⟨e1, rows1, u, g, hc, h3.trans g2, g3, (h7 u g g2 g3).trans g4⟩
   | v _ => simp [hc] at hg
   | sl _ => simp [hc] at hg
   | x => simp [hc] at hg
   | mp _ => simp [hc] at hg
   | ex _ _ => simp [hc] at hg
   | me _ => simp [hc] at hg
theorem SCR.step {s : SC} {v : Value} (h : SCR P w F L o s v) (hF : FStep w w' F F') (hO : OStep P w w' L L' o o') : SCR P w' F' L' o' s v := by
 cases h with
 | c hf => exact .c (hf.move hF)
 | ref h1 h2 h3 h4 h5 h6 =>
  obtain ⟨ob', cells', g1, g2, g3, g4, g5⟩ := hO _ _ _ h2 h3
  refine .ref h1 g1 g2 (Nat.le_trans h4 g3) (fun hg e rows' hc => ?_) (fun l off hl => h6 l off (g4 ▸ hl))
  have hge := Nat.le_antisymm g3 (hg ▸ h4)
  obtain ⟨rows, k1, _, k3⟩ := (g5 hge.symm).valAt hc
  rw [g4]
  exact k3 _ (h5 (by omega) e rows k1)
 | view h1 h2 h3 h4 h5 =>
  obtain ⟨ob', cells', g1, g2, g3, g4, g5⟩ := hO _ _ _ h2 h3
  refine .view h1 g1 g2 (Nat.le_trans h4 g3) (fun hg e rows' hc => ?_)
  have hge := Nat.le_antisymm g3 (hg ▸ h4)
  obtain ⟨rows, k1, k2, k3⟩ := (g5 hge.symm).valAt (p := .cell _) hc
  obtain ⟨q1, v0, q2, q3⟩ := h5 (by omega) e rows k1
  rw [g4]
  exact ⟨by rw [← k2 _ rfl]; exact q1, v0, k3 _ q2, q3⟩
theorem AVR.step {av : AV} {v : Value} (h : AVR P w F L o av v) (hF : FStep w w' F F') (hO : OStep P w w' L L' o o') : AVR P w' F' L' o' av v := by
 induction h with
 | one hs => exact .one (hs.step hF hO)
 | agg hl hs => exact .agg hl fun i s v hi hv => (hs i s v hi hv).step hF hO
 | tup hl _ ih => exact .tup hl fun i s v hi hv => ih i s v hi hv
 | bx h2 h3 h4 =>
  obtain ⟨ob', cells', g1, g2, g3, g4, g5⟩ := hO _ _ _ h2 h3
  exact .bx g1 g2 (g4.trans h4)
 | bs h2 h3 h4 =>
  obtain ⟨ob', cells', g1, g2, g3, g4, g5⟩ := hO _ _ _ h2 h3
  exact .bs g1 g2 (g4.trans h4)
 | dp h2 h3 h4 h5 =>
  obtain ⟨ob', cells', g1, g2, g3, g4, g5⟩ := hO _ _ _ h2 h3
  refine .dp g1 g2 (Nat.le_trans h4 g3) (fun hg e rows' r' hc hr => ?_)
  have hge := Nat.le_antisymm g3 (hg ▸ h4)
  obtain ⟨rows, k1, k2, k3, _⟩ := g5 hge.symm _ e rows' hc
  have hi := (List.getElem?_eq_some_iff.1 hr).1
  obtain ⟨u, b, q1, q2, q3⟩ := h5 (by omega) e rows _ k1 (List.getElem?_eq_getElem (by omega))
  exact ⟨u, b, by rw [g4, k3]; exact q1, q2, q3⟩
 | ep had hh => exact .ep had fun j c hj => ⟨(hF _ (hh j c hj).1).2, by obtain ⟨hb, u, hu, hr⟩ := hh j c hj; exact ⟨u, (cell_of_heap (hF _ hb).1).trans hu, hr.move hF⟩⟩
 | cp hl hb hv hs => exact .cp hl (hF _ hb).2 (fun j v hj => (cell_of_heap (hF _ hb).1).trans (hv j v hj)) fun j s v hj hvj => (hs j s v hj hvj).step hF hO
 | clo hl _ ih => exact .clo hl fun i s v hi hv => ih i s v hi hv
 | ifc _ ih => exact .ifc ih
theorem Rel.step {st' : St} (h : Rel P x st a w L ow) (hs : st'.s = st.s) (hk : Keeps x.w0 w' x.ow0) (hw : ∀ k p, ow' k = some p → k < w'.heap.size ∧ (x.ow0 k ≠ none ∨ x.w0.heap.size ≤ k))
  (hF : FStep w w' (x.F w ow) (x.F w' ow')) (hO : OStep P w w' L L' st.o st'.o)
  (hob : ∀ (id : Nat) (ob : Ob) (cells : List C), st'.o[id]? = some ob → ob.cells = some cells → ObjR P w' (x.F w' ow') ow' id (L' id) cells)
  (hkd : ∀ (id : Nat) (ob : Ob) (cells : List C), st'.o[id]? = some ob → ob.cells = some cells → ob.kind ≠ 0 → ∃ l, L' id = .vals l) : Rel P x st' a w' L' ow' :=
 ⟨h.cx, hk, hw, fun n av hn => by
  rw [hs] at hn
  obtain ⟨v, h1, h2⟩ := h.slots n av hn
  exact ⟨v, h1, h2.step hF hO⟩, hob, hkd, h.defers, by rw [hs]; exact h.len, fun id hid => by
  obtain ⟨⟨ob, cells, h1, h2⟩, h3⟩ := h.pass id hid
  obtain ⟨ob', cells', g1, g2, _, g4, _⟩ := hO id ob cells h1 h2
  exact ⟨⟨ob', cells', g1, g2⟩, g4.trans h3⟩⟩
theorem Rel.put (h : Rel P x st a w L ow) {d : Nat} {av : AV} {v : Value} (hd : d < a.tmps.size) (hv : AVR P w (x.F w ow) L st.o av v) :
  Rel P x { st with s := st.s.set d (some av) } (a.put (some d) v) w L ow := by
 refine ⟨h.cx, h.keeps, h.owOk, fun n bv hn => ?_, h.objs, h.kinds, h.defers, by simp [Act.put, h.len], h.pass⟩
 simp only [Act.put]
 by_cases hnd : n = d
 ·subst hnd
  rw [List.getElem?_set] at hn
  simp only [if_true] at hn
  split at hn
  ·injection hn with hn; injection hn with hn; subst hn
   exact ⟨v, by simp [hd], hv⟩
  ·cases hn
 ·rw [List.getElem?_set_ne (by omega)] at hn
  obtain ⟨u, h1, h2⟩ := h.slots n bv hn
  exact ⟨u, by rw [Array.getElem?_setIfInBounds_ne (by omega)]; exact h1, h2⟩
theorem Rel.putNone (h : Rel P x st a w L ow) {d : Nat} {v : Value} : Rel P x { st with s := st.s.set d none } (a.put (some d) v) w L ow := by
 refine ⟨h.cx, h.keeps, h.owOk, fun n bv hn => ?_, h.objs, h.kinds, h.defers, by simp [Act.put, h.len], h.pass⟩
 simp only [Act.put]
 by_cases hnd : n = d
 ·subst hnd
  rw [List.getElem?_set] at hn
  simp only [if_true] at hn
  split at hn
  ·cases hn
  ·cases hn
 ·rw [List.getElem?_set_ne (by omega)] at hn
  obtain ⟨u, h1, h2⟩ := h.slots n bv hn
  exact ⟨u, by rw [Array.getElem?_setIfInBounds_ne (by omega)]; exact h1, h2⟩
structure Grow (w w' : World) : Prop where
 os : w'.os = w.os
 tape : w'.tape = w.tape
 output : w'.output = w.output
 size : w.heap.size ≤ w'.heap.size
 block : ∀ k, k < w.heap.size → w'.heap[k]? = w.heap[k]?
theorem Grow.refl (w : World) : Grow w w := ⟨rfl, rfl, rfl, Nat.le_refl _, fun _ _ => rfl⟩
theorem Grow.alloc (w : World) (o : Obj) : Grow w (w.alloc o) := ⟨rfl, rfl, rfl, by simp, fun k hk => heap_alloc_old w o k hk⟩
theorem Grow.drew (w : World) : Grow w w.drew := ⟨rfl, rfl, rfl, Nat.le_refl _, fun _ _ => rfl⟩
theorem Grow.trans {w1 w2 w3 : World} (h : Grow w1 w2) (h' : Grow w2 w3) : Grow w1 w3 :=
 ⟨h'.os.trans h.os, h'.tape.trans h.tape, h'.output.trans h.output, Nat.le_trans h.size h'.size, fun k hk => (h'.block k (Nat.lt_of_lt_of_le hk h.size)).trans (h.block k hk)⟩
theorem Keeps.grow {w0 : World} {ow0 : Own} (h : Keeps w0 w ow0) (g : Grow w w') : Keeps w0 w' ow0 :=
 ⟨g.os.trans h.os, g.tape.trans h.tape, g.output.trans h.output, Nat.le_trans h.size g.size, fun k hk ho => (g.block k (Nat.lt_of_lt_of_le hk h.size)).trans (h.block k hk ho)⟩
theorem Rel.F_lt (h : Rel P x st a w L ow) {k : Nat} (hk : x.F w ow k) : k < w.heap.size := by
 rcases hk with hk | hk
 ·exact Nat.lt_of_lt_of_le (h.cx.fr k hk).1 h.keeps.size
 ·exact hk.1
theorem Rel.F_own (h : Rel P x st a w L ow) {k : Nat} (hk : x.F w ow k) : ow k = none := by
 rcases hk with hk | hk
 ·cases ho : ow k with
  | none => rfl
  | some p =>
   have := (h.owOk k p ho).2
   have := h.cx.fr k hk
   simp [this.2] at *
   omega
 ·exact hk.2.1
theorem Rel.wp (h : Rel P x st a w L ow) : WP P w ow := h.cx.wp.next h.keeps.size fun g hg ho => ⟨h.keeps.block g hg ho, by
 cases h1 : ow g with
 | none => rfl
 | some p =>
  have := (h.owOk g p h1).2
  rw [ho] at this
  rcases this with h2 | h2
  ·exact absurd rfl h2
  ·omega⟩
theorem FF_grow (g : w.heap.size ≤ w'.heap.size) {k : Nat} (hk : x.F w ow k) (ho : ow' k = none) : x.F w' ow' k := by
 rcases hk with hk | hk
 ·exact .inl hk
 ·exact .inr ⟨Nat.lt_of_lt_of_le hk.1 g, ho, hk.2.2⟩
theorem ownsRow_lt {e : TypeId} {sz n : Nat} {v : Value} {inner : List Value} (h : w.ownsRow 0 e sz v n inner) {g : Nat} (hg : v.ownBlock = some g) : g < w.heap.size := (h.lt g hg).2
theorem OC.lt {p : List Nat} {e : TypeId} {rows : List (List C)} {u : Value} (h : OC P w F ow p (.us e rows) u) {g : Nat} (hg : u.ownBlock = some g) : g < w.heap.size ∧ ow g = some p := by
 cases h with
 | us hown hp hsz how ih => exact ⟨ownsRow_lt hown hg, how g hg⟩
theorem Pl.val_same {pl : Pl} {j : Nat} (h : ∀ g, pl = .blk g → w'.heap[g]? = w.heap[g]?) : pl.val w' j = pl.val w j := by
 cases pl with
 | blk g => exact cell_of_heap (h g rfl)
 | vals l => rfl
theorem ObStep.same {id : Nat} {pl : Pl} {cells : List C} (h : ObjR P w F ow id pl cells) (hh : ∀ k r, ow k = some (id :: r) → w'.heap[k]? = w.heap[k]?) : ObStep P w w' pl cells cells := by
 intro off e rows' hc
 obtain ⟨u, hu, hoc⟩ := h.cell off _ hc
 refine ⟨rows', hc, rfl, Pl.val_same fun g hg => hh g [] (h.blk g hg).1, fun i r' j e2 rows2' hr hj => ⟨r', rows2', hr, hj, fun u' g hu' hg => ?_⟩⟩
 rw [hu] at hu'
 injection hu' with hu'
 subst hu'
 exact cell_of_heap (hh g [off] (hoc.lt hg).2)
theorem ObjR.move {id : Nat} {pl : Pl} {cells : List C} (h : ObjR P w F ow id pl cells) (hF : FStep w w' F F') (hh : ∀ k r, ow k = some (id :: r) → w'.heap[k]? = w.heap[k]? ∧ ow' k = some (id :: r)) : ObjR P w' F' ow' id pl cells := by
 refine ⟨fun g hg => ?_, fun j c hj => ?_, fun T g hg hT => ?_⟩
 ·obtain ⟨h1, cs, e, h2, h3⟩ := h.blk g hg
  exact ⟨(hh g [] h1).2, cs, e, (hh g [] h1).1.trans h2, h3⟩
 ·obtain ⟨u, h1, h2⟩ := h.cell j c hj
  exact ⟨u, (Pl.val_same fun g hg => (hh g [] (h.blk g hg).1).1).trans h1, h2.move hF fun k r hk => hh k (j :: r) hk⟩
 ·obtain ⟨u, cs, h2, h3, h4⟩ := h.me T g hg hT
  exact ⟨u, cs, (Pl.val_same fun g hg => (hh g [] (h.blk g hg).1).1).trans h2, h3, (hh g [] (h.blk g hg).1).1.trans h4⟩
theorem Rel.grow (h : Rel P x st a w L ow) (g : Grow w w') : Rel P x st a w' L ow := by
 have hF : FStep w w' (x.F w ow) (x.F w' ow) := fun k hk => ⟨g.block k (h.F_lt hk), FF_grow g.size hk (h.F_own hk)⟩
 have hb : ∀ k p, ow k = some p → w'.heap[k]? = w.heap[k]? := fun k p hk => g.block k (h.owOk k p hk).1
 refine h.step rfl (h.keeps.grow g) (fun k p hk => ⟨Nat.lt_of_lt_of_le (h.owOk k p hk).1 g.size, (h.owOk k p hk).2⟩) hF (fun id ob cells h1 h2 => ?_) (fun id ob cells h1 h2 => ?_) ?_
 ·exact ⟨ob, cells, h1, h2, Nat.le_refl _, rfl, fun _ => ObStep.same (h.objs id ob cells h1 h2) fun k r hk => hb k _ hk⟩
 ·exact (h.objs id ob cells h1 h2).move hF fun k r hk => ⟨hb k _ hk, hk⟩
 ·exact h.kinds
end
end Ev

namespace Ev
open Go
def relab (p q : List Nat) (ow : Own) : Own := fun k => match ow k with
 | none => none
 | some r => if p.isPrefixOf r then some (q ++ r.drop p.length) else some r
def drop (p : List Nat) (ow : Own) : Own := fun k => match ow k with
 | none => none
 | some r => if p.isPrefixOf r then none else some r
def pathOf (id : Nat) : Pth → List Nat
 | .cell off => [id, off]
 | .elem off i j => [id, off, i, j]
theorem isPrefixOf_append (p r : List Nat) : p.isPrefixOf (p ++ r) = true := by simp
theorem relab_in {p q r : List Nat} {ow : Own} {k : Nat} (h : ow k = some (p ++ r)) : relab p q ow k = some (q ++ r) := by simp [relab, h]
theorem relab_out {p q r : List Nat} {ow : Own} {k : Nat} (h : ow k = some r) (hp : p.isPrefixOf r = false) : relab p q ow k = some r := by simp [relab, h, hp]
theorem relab_none {p q : List Nat} {ow : Own} {k : Nat} : relab p q ow k = none ↔ ow k = none := by
 unfold relab; split
 ·simp [*]
 ·split <;> simp [*]
theorem drop_out {p r : List Nat} {ow : Own} {k : Nat} (h : ow k = some r) (hp : p.isPrefixOf r = false) : drop p ow k = some r := by simp [drop, h, hp]
theorem drop_none {p : List Nat} {ow : Own} {k : Nat} (h : ow k = none) : drop p ow k = none := by simp [drop, h]
theorem drop_in {p r : List Nat} {ow : Own} {k : Nat} (h : ow k = some (p ++ r)) : drop p ow k = none := by simp [drop, h]
theorem drop_some {p r : List Nat} {ow : Own} {k : Nat} (h : drop p ow k = some r) : ow k = some r ∧ p.isPrefixOf r = false := by
 unfold drop at h
 split at h
 ·cases h
 ·split at h
  ·cases h
  ·rename_i hp; injection h with h; subst h; exact ⟨by assumption, (Bool.not_eq_true _).mp hp⟩
theorem relab_some {p q r : List Nat} {ow : Own} {k : Nat} (h : relab p q ow k = some r) : ∃ r', ow k = some r' := by
 cases ho : ow k with
 | none => rw [relab_none.2 ho] at h; cases h
 | some r' => exact ⟨r', rfl⟩
theorem pathOf_head (id : Nat) (p : Pth) : ∃ off r, pathOf id p = id :: off :: r := by cases p <;> exact ⟨_, _, rfl⟩
theorem pathOf_other {id id' : Nat} {p : Pth} {r : List Nat} (h : id' ≠ id) : (pathOf id p).isPrefixOf (id' :: r) = false := by
 obtain ⟨off, s, hs⟩ := pathOf_head id p
 rw [hs]; simp [List.isPrefixOf, Ne.symm h]
section
variable {P : Program} {x : Cx} {st : St} {a : Act} {w w' : World} {L L' : Nat → Pl} {ow ow' : Own} {o o' : List Ob} {F F' : Frs}
theorem idx_inj {i i' j j' sz : Nat} (hj : j < sz) (hj' : j' < sz) (h : i * sz + j = i' * sz + j') : i = i' ∧ j = j' := by
 have h1 : (i * sz + j) / sz = i := by rw [Nat.mul_comm, Nat.mul_add_div (by omega), Nat.div_eq_of_lt hj, Nat.add_zero]
 have h2 : (i' * sz + j') / sz = i' := by rw [Nat.mul_comm, Nat.mul_add_div (by omega), Nat.div_eq_of_lt hj', Nat.add_zero]
 have h3 : i = i' := by rw [← h1, h, h2]
 subst h3
 exact ⟨rfl, by omega⟩
theorem OC.setElem {p : List Nat} {e : TypeId} {rows : List (List C)} {v : Value} {i j : Nat} {r : List C} {n : C} (h : OC P w F ow p (.us e rows) v) (hi : rows[i]? = some r) (hj : j < r.length) (hF : FStep w w' F F')
  (hrow : ∀ inner, w.ownsRow 0 e (P.cellsOf e) v rows.length inner → ∃ inner', w'.ownsRow 0 e (P.cellsOf e) v rows.length inner' ∧
   (∀ m, m ≠ i * P.cellsOf e + j → inner'.getD m undef = inner.getD m undef) ∧ OC P w' F' ow' (p ++ [i, j]) n (inner'.getD (i * P.cellsOf e + j) undef))
  (how' : ∀ g, v.ownBlock = some g → ow' g = some p)
  (hO : ∀ k s, ow k = some (p ++ s) → s ≠ [] → [i, j].isPrefixOf s = false → w'.heap[k]? = w.heap[k]? ∧ ow' k = some (p ++ s)) :
  OC P w' F' ow' p (.us e (rows.set i (r.set j n))) v := by
 cases h with
 | @us _ _ _ _ inner hown hp hsz how ih =>
  obtain ⟨inner', h1, h2, h3⟩ := hrow inner hown
  have hrl := hsz r (List.mem_of_getElem? hi)
  refine .us (inner := inner') (by rw [List.length_set]; exact h1) hp (fun r' hr' => ?_) how' (fun i' r' j' c hi' hj' => ?_)
  ·rcases List.mem_or_eq_of_mem_set hr' with hm | hm
   ·exact hsz r' hm
   ·subst hm; rw [List.length_set]; exact hrl
  ·have move : ∀ r0 j0 c0, rows[i']? = some r0 → r0[j0]? = some c0 → (i' ≠ i ∨ j0 ≠ j) → OC P w' F' ow' (p ++ [i', j0]) c0 (inner'.getD (i' * P.cellsOf e + j0) undef) := by
    intro r0 j0 c0 hr0 hj0 hne
    have hl0 := hsz r0 (List.mem_of_getElem? hr0)
    have hj0' := (List.getElem?_eq_some_iff.1 hj0).1
    rw [h2 _ (fun he => by have := idx_inj (by omega) (by omega) he; omega)]
    refine (ih i' r0 j0 c0 hr0 hj0).move hF fun k q hk => ?_
    rw [List.append_assoc] at hk ⊢
    refine hO k ([i', j0] ++ q) hk (by simp) ?_
    rcases hne with hne | hne
    ·simp [List.isPrefixOf, Ne.symm hne]
    ·simp [List.isPrefixOf, Ne.symm hne]
   rw [List.getElem?_set] at hi'
   split at hi'
   ·rename_i hii; subst hii
    split at hi'
    ·injection hi' with hi'; subst hi'
     rw [List.getElem?_set] at hj'
     split at hj'
     ·rename_i hjj; subst hjj
      have hj2 : some n = some c := by simpa [hj] using hj'
      injection hj2 with hj2; subst hj2; exact h3
     ·rename_i hjj
      exact move r j' c hi hj' (.inr (Ne.symm hjj))
    ·cases hi'
   ·rename_i hii
    exact move r' j' c hi' hj' (.inl (Ne.symm hii))
theorem ObjR.setCell {id off : Nat} {pl : Pl} {cells : List C} {n : C} (h : ObjR P w F ow id pl cells) (hF : FStep w w' F F')
  (hblk : ∀ g, pl = .blk g → ow' g = some [id] ∧ ∃ cs e, w'.heap[g]? = some (.cells cs e (0, 0)) ∧ cs.size = cells.length)
  (hval : ∀ j, j ≠ off → pl.val w' j = pl.val w j) (hn : ∃ u, pl.val w' off = some u ∧ OC P w' F' ow' [id, off] n u)
  (hO : ∀ k j s, ow k = some (id :: j :: s) → j ≠ off → w'.heap[k]? = w.heap[k]? ∧ ow' k = some (id :: j :: s)) (hnm : ∀ T, n ≠ .me T)
  (htag : ∀ g cs T, pl = .blk g → w.heap[g]? = some (.cells cs T (0, 0)) → ∃ cs', w'.heap[g]? = some (.cells cs' T (0, 0))) : ObjR P w' F' ow' id pl (cells.set off n) := by
 refine ⟨fun g hg => by rw [List.length_set]; exact hblk g hg, fun j c hj => ?_, fun T g hg hT => ?_⟩
 ·rw [List.getElem?_set] at hj
  split at hj
  ·rename_i hoff; subst hoff
   split at hj
   ·injection hj with hj; subst hj; exact hn
   ·cases hj
  ·rename_i hoff
   obtain ⟨u, h1, h2⟩ := h.cell j c hj
   exact ⟨u, (hval j (Ne.symm hoff)).trans h1, h2.move hF fun k r hk => hO k j r hk (Ne.symm hoff)⟩
 ·rw [List.getElem?_set] at hT
  split at hT
  ·split at hT
   ·injection hT with hT; exact absurd hT (hnm T)
   ·cases hT
  ·rename_i hoff
   obtain ⟨u, cs, h2, h3, h4⟩ := h.me T g hg hT
   obtain ⟨cs', h5⟩ := htag g cs T hg h4
   exact ⟨u, cs', (hval 0 (Ne.symm hoff)).trans h2, h3, h5⟩
theorem ObjR.at_ {id : Nat} {pl : Pl} {cells : List C} {p : Pth} {c : C} (h : ObjR P w F ow id pl cells) (hg : getC cells p = some c) : ∃ v, ValAt P w pl cells p v ∧ OC P w F ow (pathOf id p) c v := by
 cases p with
 | cell off => exact h.cell off c hg
 | elem off i j =>
  simp only [getC] at hg
  cases hc : cells[off]? with
  | none => simp [hc] at hg
  | some c1 =>
   cases c1 with
   | us e rows =>
    simp only [hc] at hg
    cases hr : rows[i]? with
    | none => simp [hr] at hg
    | some r =>
     simp only [hr] at hg
     obtain ⟨u, h1, h2⟩ := h.cell off _ hc
     cases h2 with
     | us hown hp hsz how ih =>
      have hl := hsz r (List.mem_of_getElem? hr)
      have hlt := idx_lt (List.getElem?_eq_some_iff.1 hr).1 (show j < P.cellsOf e from hl ▸ (List.getElem?_eq_some_iff.1 hg).1)
      obtain ⟨g, cap, hu, _, _, hcell, _⟩ := ownsRow_cell hown hlt
      exact ⟨_, ⟨e, rows, u, g, hc, h1, by rw [hu]; rfl, hcell⟩, ih i r j c hr hg⟩
   | v _ => simp [hc] at hg
   | sl _ => simp [hc] at hg
   | x => simp [hc] at hg
   | mp _ => simp [hc] at hg
   | ex _ _ => simp [hc] at hg
   | me _ => simp [hc] at hg
theorem ValAt.uniq {pl : Pl} {cells : List C} {p : Pth} {v v' : Value} (h : ValAt P w pl cells p v) (h' : ValAt P w pl cells p v') : v = v' := by
 cases p with
 | cell off => exact Option.some.inj (h.symm.trans h')
 | elem off i j =>
  obtain ⟨e, rows, u, g, h1, h2, h3, h4⟩ := h
  obtain ⟨e', rows', u', g', h1', h2', h3', h4'⟩ := h'
  rw [h1] at h1'; injection h1' with h1'; injection h1' with he hr; subst he
  rw [h2] at h2'; injection h2' with h2'; subst h2'
  rw [h3] at h3'; injection h3' with h3'; subst h3'
  exact Option.some.inj (h4.symm.trans h4')
theorem ObjR.tell {id : Nat} {pl : Pl} {cells : List C} {p : Pth} {c n : C} (h : ObjR P w F ow id pl cells) (hg : getC cells p = some c) (hF : ∀ k, F k → F' k)
  (hn : ∀ v, ValAt P w pl cells p v → OC P w F' ow' (pathOf id p) n v)
  (hO : ∀ k r, ow k = some (id :: r) → (pathOf id p).isPrefixOf (id :: r) = false → ow' k = some (id :: r)) (hnm : ∀ T, n ≠ .me T := by intro T h; cases h) : ObjR P w F' ow' id pl (putC cells n p) := by
 have hF' : FStep w w F F' := fun k hk => ⟨rfl, hF k hk⟩
 have hb : ∀ g, pl = .blk g → ow' g = some [id] ∧ ∃ cs e, w.heap[g]? = some (.cells cs e (0, 0)) ∧ cs.size = cells.length := fun g hgb => by
  obtain ⟨h1, h2⟩ := h.blk g hgb
  exact ⟨hO g [] h1 (by cases p <;> simp [pathOf, List.isPrefixOf]), h2⟩
 cases p with
 | cell off =>
  obtain ⟨u, h1, h2⟩ := h.cell off c hg
  exact h.setCell hF' hb (fun _ _ => rfl) ⟨u, h1, hn u h1⟩ (fun k j s hk hj => ⟨rfl, hO k (j :: s) hk (by simp [pathOf, List.isPrefixOf, Ne.symm hj])⟩) hnm fun _ cs _ _ h => ⟨cs, h⟩
 | elem off i j =>
  obtain ⟨v, hv, _⟩ := h.at_ hg
  simp only [getC] at hg
  cases hc : cells[off]? with
  | none => simp [hc] at hg
  | some c1 =>
   cases c1 with
   | us e rows =>
    simp only [hc] at hg
    cases hr : rows[i]? with
    | none => simp [hr] at hg
    | some r =>
     simp only [hr] at hg
     have hput : putC cells n (.elem off i j) = cells.set off (.us e (rows.set i (r.set j n))) := by simp [putC, hc, hr]
     rw [hput]
     obtain ⟨u, h1, h2⟩ := h.cell off _ hc
     refine h.setCell hF' hb (fun _ _ => rfl) ⟨u, h1, ?_⟩ (fun k j' s hk hj => ⟨rfl, hO k (j' :: s) hk (by simp [pathOf, List.isPrefixOf, Ne.symm hj])⟩) (by intro T h; cases h) fun _ cs _ _ h => ⟨cs, h⟩
     have h3 := h2
     cases h3 with
     | us hown hp hsz how ih =>
      have hl := hsz r (List.mem_of_getElem? hr)
      have hlt := idx_lt (List.getElem?_eq_some_iff.1 hr).1 (show j < P.cellsOf e from hl ▸ (List.getElem?_eq_some_iff.1 hg).1)
      refine h2.setElem hr (List.getElem?_eq_some_iff.1 hg).1 hF' (fun inner hin => ⟨inner, hin, fun _ _ => rfl, ?_⟩) (fun g hgo => hO g [off] (how g hgo) (by simp [pathOf, List.isPrefixOf]))
       (fun k s hk hs hps => ⟨rfl, hO k (off :: s) hk (by simpa [pathOf, List.isPrefixOf] using hps)⟩)
      obtain ⟨g, cap, hu, _, _, hcell, _⟩ := ownsRow_cell hin hlt
      exact hn _ ⟨e, rows, u, g, hc, h1, by rw [hu]; rfl, hcell⟩
   | v _ => simp [hc] at hg
   | sl _ => simp [hc] at hg
   | x => simp [hc] at hg
   | mp _ => simp [hc] at hg
   | ex _ _ => simp [hc] at hg
   | me _ => simp [hc] at hg
end
end Ev

namespace Ev
open Go
section
variable {P : Program} {x : Cx} {st : St} {a : Act} {w w' : World} {L L' : Nat → Pl} {ow ow' : Own} {o o' : List Ob} {F F' : Frs}
theorem FF_congr (h : ∀ k, ow' k = none ↔ ow k = none) : x.F w ow' = x.F w ow := by
 funext k; simp only [Cx.F, FF, h k]
theorem getC_put_other {cells : List C} {p : Pth} {n : C} {off : Nat} {e : TypeId} {rows' : List (List C)} (h : (putC cells n p)[off]? = some (.us e rows')) (hn : ∀ e r, n ≠ .us e r) :
  ∃ rows, cells[off]? = some (.us e rows) ∧ rows.length = rows'.length ∧ p ≠ .cell off ∧ ∀ (i : Nat) (r' : List C) (j : Nat) (e2 : TypeId) (rows2 : List (List C)), rows'[i]? = some r' → r'[j]? = some (.us e2 rows2) →
   (∃ r, rows[i]? = some r ∧ r[j]? = some (.us e2 rows2)) ∧ p ≠ .elem off i j := by
 cases p with
 | cell off' =>
  simp only [putC] at h
  rw [List.getElem?_set] at h
  split at h
  ·split at h
   ·injection h with h; exact absurd h (hn _ _)
   ·cases h
  ·rename_i hne
   exact ⟨rows', h, rfl, by simpa using hne, fun i r' j e2 rows2 h1 h2 => ⟨⟨r', h1, h2⟩, by simp⟩⟩
 | elem off' i0 j0 =>
  simp only [putC] at h
  split at h
  ·rename_i e1 rows1 hc
   split at h
   ·rename_i r1 hr
    rw [List.getElem?_set] at h
    split at h
    ·rename_i heq; subst heq
     split at h
     ·injection h with h; injection h with h1 h2; subst h1; subst h2
      refine ⟨rows1, hc, by simp, by simp, fun i r' j e2 rows2 h1 h2 => ?_⟩
      rw [List.getElem?_set] at h1
      split at h1
      ·rename_i hi; subst hi
       split at h1
       ·injection h1 with h1; subst h1
        rw [List.getElem?_set] at h2
        split at h2
        ·rename_i hj; subst hj
         split at h2
         ·injection h2 with h2; exact absurd h2 (hn _ _)
         ·cases h2
        ·rename_i hj; exact ⟨⟨r1, hr, h2⟩, by simp [hj]⟩
       ·cases h1
      ·rename_i hi; exact ⟨⟨r', h1, h2⟩, by simp [hi]⟩
     ·cases h
    ·rename_i hne
     exact ⟨rows', h, rfl, by simp, fun i r' j e2 rows2 h1 h2 => ⟨⟨r', h1, h2⟩, by simp [hne]⟩⟩
   ·exact ⟨rows', h, rfl, by simp, fun i r' j e2 rows2 h1 h2 => ⟨⟨r', h1, h2⟩, by
     intro hp; injection hp with hp1 hp2 hp3; subst hp1; subst hp2; rw [hc] at h; injection h with h; injection h with h3 h4; subst h4; simp_all⟩⟩
  ·rename_i hnot
   exact ⟨rows', h, rfl, by simp, fun i r' j e2 rows2 h1 h2 => ⟨⟨r', h1, h2⟩, by
    intro hp; injection hp with hp1; subst hp1; exact hnot _ _ h⟩⟩
theorem Rel.tell {id : Nat} {ob : Ob} {cells : List C} {p : Pth} {c n : C} (h : Rel P x st a w L ow) (ho : st.o[id]? = some ob) (hc : ob.cells = some cells) (hg : getC cells p = some c) (hnu : ∀ e r, n ≠ .us e r)
  (hn : ∀ v, ValAt P w (L id) cells p v → OC P w (x.F w ow') ow' (pathOf id p) n v) (hsub : ∀ k r, ow' k = some r → ∃ r', ow k = some r')
  (hO : ∀ k r, ow k = some r → (pathOf id p).isPrefixOf r = false → ow' k = some r) (hnm : ∀ T, n ≠ .me T := by intro T h; cases h) :
  Rel P x { st with o := st.o.set id { ob with cells := some (putC cells n p) } } a w L ow' := by
 have hF : ∀ k, x.F w ow k → x.F w ow' k := fun k hk => FF_grow (Nat.le_refl _) hk (by
  cases hk2 : ow' k with
  | none => rfl
  | some r => obtain ⟨r', hr'⟩ := hsub k r hk2; rw [h.F_own hk] at hr'; cases hr')
 have hF' : FStep w w (x.F w ow) (x.F w ow') := fun k hk => ⟨rfl, hF k hk⟩
 have hid : id < st.o.length := (List.getElem?_eq_some_iff.1 ho).1
 refine h.step rfl h.keeps (fun k p hk => by obtain ⟨r', hr'⟩ := hsub k p hk; exact h.owOk k r' hr') hF' (fun id' ob' cells' h1 h2 => ?_) (fun id' ob' cells' h1 h2 => ?_) (fun id' ob' cells' h1 h2 h3 => ?_)
 ·by_cases hi : id' = id
  ·subst hi
   rw [ho] at h1; injection h1 with h1; subst h1
   rw [hc] at h2; injection h2 with h2; subst h2
   refine ⟨_, _, List.getElem?_set_self hid, rfl, Nat.le_refl _, rfl, fun _ off e rows' hoff => ?_⟩
   obtain ⟨rows, g1, g2, _, g3⟩ := getC_put_other hoff hnu
   refine ⟨rows, g1, g2, rfl, fun i r' j e2 rows2' hi hj => ?_⟩
   obtain ⟨⟨r, k1, k2⟩, _⟩ := g3 i r' j e2 rows2' hi hj
   exact ⟨r, rows2', k1, k2, fun _ _ _ _ => rfl⟩
  ·refine ⟨ob', cells', by rw [List.getElem?_set_ne (Ne.symm hi)]; exact h1, h2, Nat.le_refl _, rfl, fun _ => ObStep.same (h.objs id' ob' cells' h1 h2) fun _ _ _ => rfl⟩
 ·by_cases hi : id' = id
  ·subst hi
   simp [hid] at h1; subst h1
   injection h2 with h2; subst h2
   exact (h.objs id' ob cells ho hc).tell hg hF hn (fun k r hk hp => hO k _ hk hp) hnm
  ·rw [List.getElem?_set_ne (Ne.symm hi)] at h1
   exact (h.objs id' ob' cells' h1 h2).move hF' fun k r hk => ⟨rfl, hO k _ hk (pathOf_other hi)⟩
 ·by_cases hi : id' = id
  ·subst hi
   simp [hid] at h1; subst h1
   exact h.kinds id' ob cells ho hc h3
  ·rw [List.getElem?_set_ne (Ne.symm hi)] at h1
   exact h.kinds id' ob' cells' h1 h2 h3
theorem Rel.take {id : Nat} {ob : Ob} {cells : List C} {p : Pth} {e : TypeId} {rows : List (List C)} {q : List Nat} (h : Rel P x st a w L ow) (ho : st.o[id]? = some ob) (hc : ob.cells = some cells) (hg : getC cells p = some (.us e rows)) :
  Rel P x { st with o := st.o.set id { ob with cells := some (putC cells .x p) } } a w L (relab (pathOf id p) q ow) ∧
  (∀ v, ValAt P w (L id) cells p v → OC P w (x.F w ow) (relab (pathOf id p) q ow) q (.us e rows) v) ∧ x.F w (relab (pathOf id p) q ow) = x.F w ow := by
 have hFF : x.F w (relab (pathOf id p) q ow) = x.F w ow := FF_congr fun k => relab_none
 obtain ⟨v0, hv0, hoc⟩ := (h.objs id ob cells ho hc).at_ hg
 refine ⟨h.tell ho hc hg (by simp) (fun v hv => .x (by rw [ValAt.uniq hv hv0]; exact hoc.one)) (fun k r hk => relab_some hk) (fun k r hk hp => relab_out hk hp), fun v hv => ?_, hFF⟩
 rw [ValAt.uniq hv hv0]
 exact hoc.move (fun k hk => ⟨rfl, hk⟩) fun k r hk => ⟨rfl, relab_in hk⟩
theorem Rel.freeze {id : Nat} {ob : Ob} {cells : List C} {p : Pth} {e : TypeId} {rows : List (List C)} {c' : C} (h : Rel P x st a w L ow) (ho : st.o[id]? = some ob) (hc : ob.cells = some cells) (hg : getC cells p = some (.us e rows)) (hz : Frz (.us e rows) c') :
  Rel P x { st with o := st.o.set id { ob with cells := some (putC cells c' p) } } a w L (drop (pathOf id p) ow) ∧
  (∀ v, ValAt P w (L id) cells p v → FR w (x.F w (drop (pathOf id p) ow)) c' v) ∧ (∀ k, x.F w ow k → x.F w (drop (pathOf id p) ow) k) := by
 have hF : ∀ k, x.F w ow k → x.F w (drop (pathOf id p) ow) k := fun k hk => FF_grow (Nat.le_refl _) hk (drop_none (h.F_own hk))
 obtain ⟨v0, hv0, hoc⟩ := (h.objs id ob cells ho hc).at_ hg
 have hfr : FR w (x.F w (drop (pathOf id p) ow)) c' v0 := hoc.freeze hz (fun k hk => ⟨rfl, hF k hk⟩) fun k r hk => ⟨rfl, .inr ⟨(h.owOk k _ hk).1, drop_in hk, (h.owOk k _ hk).2⟩⟩
 refine ⟨h.tell ho hc hg (fun e r => by cases hz; simp) (fun v hv => ?_) (fun k r hk => ⟨r, (drop_some hk).1⟩) (fun k r hk hp => drop_out hk hp) (fun T e => by subst e; cases hz), fun v hv => by rw [ValAt.uniq hv hv0]; exact hfr, hF⟩
 rw [ValAt.uniq hv hv0]
 cases hz
 exact .sl hfr
def Hand (P : Program) (w : World) (F : Frs) (ow : Own) (hid : Nat) (cs : List C) (vs : List Value) : Prop :=
 vs.length = cs.length ∧ (∀ (k : Nat) (c : C) (v : Value), cs[k]? = some c → vs[k]? = some v → OC P w F ow [hid, k] c v) ∧ ∀ (k : Nat) (T : TypeId), cs[k]? ≠ some (.me T)
theorem Rel.newB {hid d : Nat} {ob : Ob} {cs : List C} {vs : List Value} {g : Nat} {e : TypeId} (h : Rel P x st a w L ow) (hh : st.o[hid]? = none) (hd : st.o[d]? = some ob) (hc : ob.cells = none) (hH : Hand P w (x.F w ow) ow hid cs vs) :
  Rel P x { st with o := st.o.set d ⟨g, 0, some cs⟩ } a (w.alloc (.cells vs.toArray e)) (fun k => if k = d then .blk w.heap.size else L k) (fun k => if k = w.heap.size then some [d] else relab [hid] [d] ow k) := by
 have hdl : d < st.o.length := (List.getElem?_eq_some_iff.1 hd).1
 have hpo : ∀ id : Nat, st.o[id]? ≠ none → ∀ r, [hid].isPrefixOf (id :: r) = false := fun id hid' r => by
  have : hid ≠ id := fun e => hid' (e ▸ hh)
  simp [List.isPrefixOf, this]
 have hlt : ∀ k p, ow k = some p → k ≠ w.heap.size := fun k p hk => Nat.ne_of_lt (h.owOk k p hk).1
 have hF : FStep w (w.alloc (.cells vs.toArray e)) (x.F w ow) (x.F (w.alloc (.cells vs.toArray e)) (fun k => if k = w.heap.size then some [d] else relab [hid] [d] ow k)) := fun k hk =>
  ⟨heap_alloc_old _ _ _ (h.F_lt hk), FF_grow (by simp) hk (by simp [Nat.ne_of_lt (h.F_lt hk), relab_none, h.F_own hk])⟩
 refine h.step rfl (h.keeps.grow (Grow.alloc _ _)) (fun k p hk => ?_) hF (fun id' ob' cells' h1 h2 => ?_) (fun id' ob' cells' h1 h2 => ?_) (fun id' ob' cells' h1 h2 h3 => ?_)
 ·by_cases hk2 : k = w.heap.size
  ·subst hk2; exact ⟨by simp, .inr h.keeps.size⟩
  ·simp only [hk2, if_false] at hk
   obtain ⟨r', hr'⟩ := relab_some hk
   exact ⟨Nat.lt_of_lt_of_le (h.owOk k r' hr').1 (by simp), (h.owOk k r' hr').2⟩
 ·have hi : id' ≠ d := fun e => by subst e; rw [hd] at h1; injection h1 with h1; subst h1; rw [hc] at h2; cases h2
  refine ⟨ob', cells', by rw [List.getElem?_set_ne (Ne.symm hi)]; exact h1, h2, Nat.le_refl _, by simp [hi], fun _ => ObStep.same (h.objs id' ob' cells' h1 h2) fun k r hk => heap_alloc_old _ _ _ (h.owOk k _ hk).1⟩
 ·by_cases hi : id' = d
  ·subst hi
   simp [hdl] at h1; subst h1
   injection h2 with h2; subst h2
   simp only [if_true]
   refine ⟨fun g hg => by injection hg with hg; subst hg; exact ⟨by simp, _, _, heap_alloc_new _ _, by simp [hH.1]⟩, fun j c hj => ?_, fun T _ _ hT => absurd hT (hH.2.2 0 T)⟩
   have hlt2 := (List.getElem?_eq_some_iff.1 hj).1
   have hv : vs[j]? = some (vs[j]'(by rw [hH.1]; exact hlt2)) := List.getElem?_eq_getElem (by rw [hH.1]; exact hlt2)
   refine ⟨vs[j]'(by rw [hH.1]; exact hlt2), by simp [Pl.val, hH.1, hlt2], (hH.2.1 j c _ hj hv).move hF fun k r hk => ⟨heap_alloc_old _ _ _ (h.owOk k _ hk).1, ?_⟩⟩
   simp only [hlt k _ hk, if_false]
   exact relab_in (p := [hid]) (r := j :: r) (q := [id']) hk
  ·rw [List.getElem?_set_ne (Ne.symm hi)] at h1
   simp only [hi, if_false]
   exact (h.objs id' ob' cells' h1 h2).move hF fun k r hk => ⟨heap_alloc_old _ _ _ (h.owOk k _ hk).1, by simp only [hlt k _ hk, if_false]; exact relab_out hk (hpo id' (by rw [h1]; simp) r)⟩
 ·by_cases hi : id' = d
  ·subst hi
   simp [hdl] at h1; subst h1
   exact absurd rfl h3
  ·rw [List.getElem?_set_ne (Ne.symm hi)] at h1
   simp only [hi, if_false]
   exact h.kinds id' ob' cells' h1 h2 h3
end
end Ev

namespace Ev
open Go
section
variable {P : Program} {x : Cx} {st : St} {a : Act} {w w' : World} {L L' : Nat → Pl} {ow ow' : Own} {o o' : List Ob} {F F' : Frs}
theorem Rel.newObj {d : Nat} {ob ob' : Ob} {cs : List C} {pl : Pl} (h : Rel P x st a w L ow) (hd : st.o[d]? = some ob) (hc : ob.cells = none) (hc' : ob'.cells = some cs)
  (hk : Keeps x.w0 w' x.ow0) (hw : ∀ k p, ow' k = some p → k < w'.heap.size ∧ (x.ow0 k ≠ none ∨ x.w0.heap.size ≤ k)) (hF : FStep w w' (x.F w ow) (x.F w' ow'))
  (hO : ∀ id, st.o[id]? ≠ none → ∀ k r, ow k = some (id :: r) → w'.heap[k]? = w.heap[k]? ∧ ow' k = some (id :: r))
  (hn : ObjR P w' (x.F w' ow') ow' d pl cs) (hkd : ob'.kind ≠ 0 → ∃ l, pl = .vals l) : Rel P x { st with o := st.o.set d ob' } a w' (fun k => if k = d then pl else L k) ow' := by
 have hdl : d < st.o.length := (List.getElem?_eq_some_iff.1 hd).1
 refine h.step rfl hk hw hF (fun id' ob1 cells' h1 h2 => ?_) (fun id' ob1 cells' h1 h2 => ?_) (fun id' ob1 cells' h1 h2 h3 => ?_)
 ·have hi : id' ≠ d := fun e => by subst e; rw [hd] at h1; injection h1 with h1; subst h1; rw [hc] at h2; cases h2
  exact ⟨ob1, cells', by rw [List.getElem?_set_ne (Ne.symm hi)]; exact h1, h2, Nat.le_refl _, by simp [hi], fun _ => ObStep.same (h.objs id' ob1 cells' h1 h2) fun k r hk => (hO id' (by rw [h1]; simp) k r hk).1⟩
 ·by_cases hi : id' = d
  ·subst hi
   simp [hdl] at h1; subst h1
   rw [hc'] at h2; injection h2 with h2; subst h2
   simpa using hn
  ·rw [List.getElem?_set_ne (Ne.symm hi)] at h1
   simp only [hi, if_false]
   exact (h.objs id' ob1 cells' h1 h2).move hF fun k r hk => hO id' (by rw [h1]; simp) k r hk
 ·by_cases hi : id' = d
  ·subst hi
   simp [hdl] at h1; subst h1
   simpa using hkd h3
  ·rw [List.getElem?_set_ne (Ne.symm hi)] at h1
   simp only [hi, if_false]
   exact h.kinds id' ob1 cells' h1 h2 h3
theorem own_one {v : Value} {e : TypeId} {sz n : Nat} {inner : List Value} (h : w.ownsRow 0 e sz v n inner) : v.oneCell' = true := by
 rcases h.2 with ⟨rfl, _⟩ | ⟨_, _, _, rfl, _⟩ <;> rfl
def rowPath (hid d n sz : Nat) : List Nat → Option (List Nat)
 | h :: r => if h = hid then (match r with
   | 0 :: [] => none
   | 0 :: i :: s => some (d :: 0 :: i :: s)
   | (m + 1) :: s => some (d :: 0 :: (n + m / sz) :: (m % sz) :: s)
   | [] => none) else some (h :: r)
 | [] => some []
def rowOwn (hid d n sz : Nat) (blk : Option Nat) (ow : Own) : Own := fun k => if blk = some k then some [d, 0] else match ow k with
 | some p => rowPath hid d n sz p
 | none => none
theorem Rel.rowNew {hid d : Nat} {ob : Ob} {g kd : Nat} {e : TypeId} {rows rows2 : List (List C)} {v v' : Value} {inner news : List Value} (h : Rel P x st a w L ow) (hh : st.o[hid]? = none) (hd : st.o[d]? = some ob) (hc : ob.cells = none)
  (hp : 0 < P.cellsOf e) (hold : w.ownsRow 0 e (P.cellsOf e) v rows.length inner) (hsz : ∀ r ∈ rows, r.length = P.cellsOf e) (how : ∀ b, v.ownBlock = some b → ow b = some [hid, 0])
  (ih : ∀ (i : Nat) (r : List C) (j : Nat) (c : C), rows[i]? = some r → r[j]? = some c → OC P w (x.F w ow) ow [hid, 0, i, j] c (inner.getD (i * P.cellsOf e + j) undef))
  (hsz2 : ∀ r ∈ rows2, r.length = P.cellsOf e)
  (ih2 : ∀ (i : Nat) (r : List C) (j : Nat) (c : C), rows2[i]? = some r → r[j]? = some c → OC P w (x.F w ow) ow [hid, i * P.cellsOf e + j + 1] c (news.getD (i * P.cellsOf e + j) undef))
  (hnew : w'.ownsRow 0 e (P.cellsOf e) v' (rows.length + rows2.length) (inner ++ news)) (hg : w.grownBy w' v.ownBlock) (hat : v'.ownBlock = none ∨ v'.ownBlock = v.ownBlock ∨ v'.ownBlock = some w.heap.size) :
  Rel P x { st with o := st.o.set d ⟨g, kd, some [.us e (rows ++ rows2)]⟩ } a w' (fun k => if k = d then .vals [v'] else L k) (rowOwn hid d rows.length (P.cellsOf e) v'.ownBlock ow) := by
 have nb : ∀ k p, ow k = some p → p ≠ [hid, 0] → v'.ownBlock ≠ some k ∧ some k ≠ v.ownBlock := by
  intro k p hk hne
  have h1 : some k ≠ v.ownBlock := fun e1 => by
   have := how k e1.symm
   rw [hk] at this; injection this with this; exact hne this
  refine ⟨fun e1 => ?_, h1⟩
  rcases hat with h2 | h2 | h2
  ·rw [h2] at e1; cases e1
  ·rw [h2] at e1; exact h1 e1.symm
  ·rw [h2] at e1; injection e1 with e1; have := (h.owOk k p hk).1; omega
 have nf : ∀ k, ow k = none → k < w.heap.size → v'.ownBlock ≠ some k ∧ some k ≠ v.ownBlock := by
  intro k hk hlt
  have h1 : some k ≠ v.ownBlock := fun e1 => by
   have := how k e1.symm
   rw [hk] at this; cases this
  refine ⟨fun e1 => ?_, h1⟩
  rcases hat with h2 | h2 | h2
  ·rw [h2] at e1; cases e1
  ·rw [h2] at e1; exact h1 e1.symm
  ·rw [h2] at e1; injection e1 with e1; omega
 have same : ∀ k p, ow k = some p → p ≠ [hid, 0] → w'.heap[k]? = w.heap[k]? := fun k p hk hne => hg.block k (h.owOk k p hk).1 (nb k p hk hne).2
 have hF : FStep w w' (x.F w ow) (x.F w' (rowOwn hid d rows.length (P.cellsOf e) v'.ownBlock ow)) := by
  intro k hk
  have h0 := h.F_own hk
  have hl := h.F_lt hk
  obtain ⟨h1, h2⟩ := nf k h0 hl
  exact ⟨hg.block k hl h2, FF_grow hg.size hk (by simp [rowOwn, h1, h0])⟩
 refine h.newObj hd hc rfl ⟨hg.os.trans h.keeps.os, hg.tape.trans h.keeps.tape, hg.output.trans h.keeps.output, Nat.le_trans h.keeps.size hg.size, fun k hk ho => ?_⟩ (fun k p hk => ?_) hF (fun id hid' k r hk => ?_) ⟨(fun g hg => nomatch hg), fun j c hj => ?_, fun _ _ hg => nomatch hg⟩ (fun _ => ⟨_, rfl⟩)
 ·refine (hg.block k (Nat.lt_of_lt_of_le hk h.keeps.size) fun e1 => ?_).trans (h.keeps.block k hk ho)
  have := (h.owOk k _ (how k e1.symm)).2
  rcases this with h1 | h1
  ·exact h1 ho
  ·omega
 ·by_cases h1 : v'.ownBlock = some k
  ·rcases hat with h2 | h2 | h2
   ·rw [h2] at h1; cases h1
   ·rw [h2] at h1
    have := h.owOk k _ (how k h1)
    exact ⟨Nat.lt_of_lt_of_le this.1 hg.size, this.2⟩
   ·rw [h2] at h1; injection h1 with h1; subst h1
    exact ⟨ownsRow_lt hnew h2, .inr h.keeps.size⟩
  ·simp only [rowOwn, h1, if_false] at hk
   cases hk2 : ow k with
   | none => simp [hk2] at hk
   | some q => exact ⟨Nat.lt_of_lt_of_le (h.owOk k q hk2).1 hg.size, (h.owOk k q hk2).2⟩
 ·have hne : id ≠ hid := fun e1 => hid' (e1 ▸ hh)
  have hne2 : id :: r ≠ [hid, 0] := by simp [hne]
  refine ⟨same k _ hk hne2, ?_⟩
  simp [rowOwn, (nb k _ hk hne2).1, hk, rowPath, hne]
 ·cases j with
  | succ j => simp at hj
  | zero =>
   simp at hj; subst hj
   refine ⟨v', rfl, .us (inner := inner ++ news) (by rw [List.length_append]; exact hnew) hp (fun r hr => ?_) (fun b hb => by simp [rowOwn, hb]) (fun i r j c hi hj => ?_)⟩
   ·rcases List.mem_append.1 hr with h1 | h1
    ·exact hsz r h1
    ·exact hsz2 r h1
   ·have hil : inner.length = rows.length * P.cellsOf e := hold.1
    by_cases hin : i < rows.length
    ·rw [List.getElem?_append_left hin] at hi
     have hjl := (List.getElem?_eq_some_iff.1 hj).1
     rw [hsz r (List.mem_of_getElem? hi)] at hjl
     have hlt := idx_lt hin hjl
     have hv : (inner ++ news).getD (i * P.cellsOf e + j) undef = inner.getD (i * P.cellsOf e + j) undef := by
      simp only [List.getD_eq_getElem?_getD]; rw [List.getElem?_append_left (by omega)]
     rw [hv]
     refine (ih i r j c hi hj).move hF fun k s hk => ⟨same k _ hk (by simp), ?_⟩
     simp [rowOwn, (nb k _ hk (by simp)).1, hk, rowPath]
    ·rw [List.getElem?_append_right (by omega)] at hi
     have hjl := (List.getElem?_eq_some_iff.1 hj).1
     rw [hsz2 r (List.mem_of_getElem? hi)] at hjl
     have hidx : i * P.cellsOf e + j - inner.length = (i - rows.length) * P.cellsOf e + j := by
      rw [hil, Nat.sub_mul]
      have : rows.length * P.cellsOf e ≤ i * P.cellsOf e := Nat.mul_le_mul_right _ (by omega)
      omega
     have hv : (inner ++ news).getD (i * P.cellsOf e + j) undef = news.getD ((i - rows.length) * P.cellsOf e + j) undef := by
      simp only [List.getD_eq_getElem?_getD]
      rw [List.getElem?_append_right (by rw [hil]; have : rows.length * P.cellsOf e ≤ i * P.cellsOf e := Nat.mul_le_mul_right _ (by omega); omega), hidx]
     rw [hv]
     refine (ih2 _ r j c hi hj).move hF fun k s hk => ⟨same k _ hk (by simp), ?_⟩
     have hd1 : ((i - rows.length) * P.cellsOf e + j) / P.cellsOf e = i - rows.length := by rw [Nat.mul_comm, Nat.mul_add_div hp, Nat.div_eq_of_lt hjl, Nat.add_zero]
     have hd2 : ((i - rows.length) * P.cellsOf e + j) % P.cellsOf e = j := by rw [Nat.mul_comm, Nat.mul_add_mod, Nat.mod_eq_of_lt hjl]
     simp [rowOwn, (nb k _ hk (by simp)).1, hk, rowPath, hd1, hd2]
     omega
end
end Ev

namespace Ev
open Go
def C.isUs : C → Bool
 | .us _ _ => true
 | .mp _ => true
 | .me _ => true
 | _ => false
section
variable {P : Program} {x : Cx} {st : St} {a : Act} {w w' : World} {L L' : Nat → Pl} {ow ow' : Own} {o o' : List Ob} {F F' : Frs}
theorem ownsRow_set {e : TypeId} {sz n g k : Nat} {v u : Value} {inner : List Value} (h : w.ownsRow 0 e sz v n inner) (hg : v.ownBlock = some g) : (w.setCell ⟨g, k, none⟩ u).ownsRow 0 e sz v n (inner.set k u) := by
 refine ⟨by rw [List.length_set]; exact h.1, ?_⟩
 rcases h.2 with ⟨rfl, _⟩ | ⟨g', cap, cur, rfl, hb, hgg, hc, hm, hs, ht⟩
 ·cases hg
 ·have : g' = g := by simpa [Value.ownBlock] using hg
  subst this
  refine .inr ⟨g', cap, cur.setIfInBounds k u, rfl, hb, heap_setCell_same w g' k cur e u hgg, hc, hm, by simp [hs], ?_⟩
  rw [← ht]
  simp [List.take_set]
def AddrAt (P : Program) (w : World) (pl : Pl) (cells : List C) : Pth → Addr → Prop
 | .cell off, ad => ∃ g, pl = .blk g ∧ ad = ⟨g, off, none⟩
 | .elem off i j, ad => ∃ e rows u g, cells[off]? = some (.us e rows) ∧ pl.val w off = some u ∧ u.ownBlock = some g ∧ ad = ⟨g, i * P.cellsOf e + j, none⟩
def stored (ob : Ob) (cells : List C) (c : C) (p : Pth) : Ob := { ob with g := if c.isUs then ob.g + 1 else ob.g, cells := some (putC cells c p) }
theorem Rel.storeCell {id hid m : Nat} {ob : Ob} {cells : List C} {p : Pth} {c c0 : C} {u : Value} {ad : Addr} (h : Rel P x st a w L ow) (ho : st.o[id]? = some ob) (hc : ob.cells = some cells) (hg : getC cells p = some c0)
  (hh : st.o[hid]? = none) (hu : OC P w (x.F w ow) ow [hid, m] c u) (hnm : ∀ T, c ≠ .me T) (had : AddrAt P w (L id) cells p ad) :
  w.cell? ad ≠ none ∧ w.frozen? ad = false ∧
  Rel P x { st with o := st.o.set id (stored ob cells c p) } a (w.setCell ad u) L (relab [hid, m] (pathOf id p) (drop (pathOf id p) ow)) ∧
  (∀ m' c' u', m' ≠ m → OC P w (x.F w ow) ow [hid, m'] c' u' → OC P (w.setCell ad u) (x.F (w.setCell ad u) (relab [hid, m] (pathOf id p) (drop (pathOf id p) ow))) (relab [hid, m] (pathOf id p) (drop (pathOf id p) ow)) [hid, m'] c' u') := by
 have hR := h.objs id ob cells ho hc
 have hid' : id ≠ hid := fun e => by subst e; rw [ho] at hh; cases hh
 have hidl : id < st.o.length := (List.getElem?_eq_some_iff.1 ho).1
 obtain ⟨v0, hv0, hoc0⟩ := hR.at_ hg
 have hblk : ∃ r, ow ad.block = some (id :: r) ∧ (pathOf id p).isPrefixOf (id :: r) = false ∧ r.length ≤ 1 := by
  cases p with
  | cell off => obtain ⟨g, h1, rfl⟩ := had; exact ⟨[], (hR.blk g h1).1, by simp [pathOf, List.isPrefixOf], by simp⟩
  | elem off i j =>
   obtain ⟨e, rows, u0, g, h1, h2, h3, rfl⟩ := had
   obtain ⟨u1, h4, h5⟩ := hR.cell off _ h1
   rw [h2] at h4; injection h4 with h4; subst h4
   exact ⟨[off], (h5.lt h3).2, by simp [pathOf, List.isPrefixOf], by simp⟩
 obtain ⟨rb, hrb, hrp, hrl⟩ := hblk
 have hcell : w.cell? ad = some v0 ∧ w.frozen? ad = false ∧ ad.spot = none := by
  cases p with
  | cell off =>
   obtain ⟨g, h1, rfl⟩ := had
   obtain ⟨_, cs, e, h2, _⟩ := hR.blk g h1
   have : (L id).val w off = some v0 := hv0
   rw [h1] at this
   exact ⟨this, frozen_of_row w g off cs e h2, rfl⟩
  | elem off i j =>
   obtain ⟨e, rows, u0, g, h1, h2, h3, rfl⟩ := had
   obtain ⟨e', rows', u', g', k1, k2, k3, k4⟩ := hv0
   rw [h1] at k1; injection k1 with k1; injection k1 with k1 _; subst k1
   rw [h2] at k2; injection k2 with k2; subst k2
   rw [h3] at k3; injection k3 with k3; subst k3
   obtain ⟨u1, h4, h5⟩ := hR.cell off _ h1
   rw [h2] at h4; injection h4 with h4; subst h4
   cases h5 with
   | us hown =>
    rcases hown.2 with ⟨hv, _⟩ | ⟨g'', cap, cur, hv, _, hgg, _⟩
    ·rw [hv] at h3; cases h3
    ·rw [hv] at h3
     have : g'' = g := by simpa [Value.ownBlock] using h3
     subst this
     exact ⟨k4, frozen_of_row w _ _ cur e hgg, rfl⟩
 have hsame : ∀ k, k ≠ ad.block → (w.setCell ad u).heap[k]? = w.heap[k]? := fun k hk => heap_setCell_other w ad k u hk
 have hO : ∀ k r, ow k = some r → (pathOf id p).isPrefixOf r = false → [hid, m].isPrefixOf r = false → relab [hid, m] (pathOf id p) (drop (pathOf id p) ow) k = some r := fun k r hk h1 h2 => relab_out (drop_out hk h1) h2
 have hne : ∀ k r, ow k = some r → (∀ s, r ≠ id :: s) ∨ 2 ≤ r.length - 1 ∨ r ≠ id :: rb → k ≠ ad.block := fun k r hk hr e => by
  subst e; rw [hrb] at hk; injection hk with hk; subst hk
  rcases hr with hr | hr | hr
  ·exact hr _ rfl
  ·simp at hr; omega
  ·exact hr rfl
 have hFk : ∀ k, x.F w ow k → k ≠ ad.block := fun k hk e => by subst e; rw [h.F_own hk] at hrb; cases hrb
 have hF : FStep w (w.setCell ad u) (x.F w ow) (x.F (w.setCell ad u) (relab [hid, m] (pathOf id p) (drop (pathOf id p) ow))) := fun k hk =>
  ⟨hsame k (hFk k hk), FF_grow (by simp) hk (relab_none.2 (drop_none (h.F_own hk)))⟩
 have hpid : ∀ id' r, id' ≠ id → id' ≠ hid → (pathOf id p).isPrefixOf (id' :: r) = false ∧ [hid, m].isPrefixOf (id' :: r) = false := fun id' r h1 h2 => ⟨pathOf_other h1, by simp [List.isPrefixOf, Ne.symm h2]⟩
 have hnew : OC P (w.setCell ad u) (x.F (w.setCell ad u) (relab [hid, m] (pathOf id p) (drop (pathOf id p) ow))) (relab [hid, m] (pathOf id p) (drop (pathOf id p) ow)) (pathOf id p) c u := by
  refine hu.move hF fun k r hk => ⟨hsame k (hne k _ hk (.inl fun s e => by simp at e; exact hid' e.1.symm)), relab_in (drop_out hk (pathOf_other (Ne.symm hid')))⟩
 refine ⟨by rw [hcell.1]; simp, hcell.2.1, h.step rfl ?_ ?_ hF ?_ ?_ ?_, fun m' c' u' hm hoc => ?_⟩
 ·refine ⟨h.keeps.os, h.keeps.tape, h.keeps.output, by simpa using h.keeps.size, fun k hk hk0 => (hsame k fun e => ?_).trans (h.keeps.block k hk hk0)⟩
  subst e
  rcases (h.owOk _ _ hrb).2 with h1 | h1
  ·exact h1 hk0
  ·omega
 ·intro k q hk
  obtain ⟨r', hr'⟩ := relab_some hk
  have := h.owOk k r' (drop_some hr').1
  exact ⟨by simpa using this.1, this.2⟩
 ·intro id' ob' cells' h1 h2
  by_cases hi : id' = id
  ·subst hi
   rw [ho] at h1; injection h1 with h1; subst h1
   rw [hc] at h2; injection h2 with h2; subst h2
   refine ⟨_, _, List.getElem?_set_self hidl, rfl, by simp only [stored]; split <;> omega, rfl, fun hgg => ?_⟩
   have hnu : ∀ e r, c ≠ .us e r := fun e r he => by subst he; simp [stored, C.isUs] at hgg
   intro off e rows' hoff
   obtain ⟨rows, g1, g2, g3, g4⟩ := getC_put_other hoff hnu
   have hval : (L id').val (w.setCell ad u) off = (L id').val w off := by
    cases hpl : L id' with
    | vals l => rfl
    | blk gb =>
     cases p with
     | cell off' =>
      obtain ⟨g, k1, rfl⟩ := had
      exact World.cell?_setCell_other _ _ _ _ (by rw [hpl] at k1; injection k1 with k1; subst k1; simp at g3 ⊢; exact g3)
     | elem off' i j =>
      refine cell_of_heap (hsame _ fun e1 => ?_)
      subst e1
      have := (hR.blk _ hpl).1
      rw [hrb] at this
      obtain ⟨e', rows', u0, g, k1, k2, k3, rfl⟩ := had
      obtain ⟨u1, k4, k5⟩ := hR.cell off' _ k1
      rw [k2] at k4; injection k4 with k4; subst k4
      rw [(k5.lt k3).2] at hrb; injection hrb with hrb; rw [← hrb] at this; simp at this
   refine ⟨rows, g1, g2, hval, fun i r' j e2 rows2' hi hj => ?_⟩
   obtain ⟨⟨r, k1, k2⟩, k3⟩ := g4 i r' j e2 rows2' hi hj
   refine ⟨r, rows2', k1, k2, fun u1 g hu1 hg1 => ?_⟩
   by_cases hgb : g = ad.block
   ·refine World.cell?_setCell_other _ _ _ _ fun e1 => ?_
    cases p with
    | cell off' =>
     obtain ⟨gb, q1, rfl⟩ := had
     simp at hgb; subst hgb
     obtain ⟨u2, q2, q3⟩ := hR.cell off _ g1
     rw [hu1] at q2; injection q2 with q2; subst q2
     have := (q3.lt hg1).2
     rw [(hR.blk _ q1).1] at this; simp at this
    | elem off' i' j' =>
     obtain ⟨e', rows3, u0, gb, q1, q2, q3, rfl⟩ := had
     simp at hgb; subst hgb
     obtain ⟨u2, q4, q5⟩ := hR.cell off _ g1
     rw [hu1] at q4; injection q4 with q4; subst q4
     obtain ⟨u3, q6, q7⟩ := hR.cell off' _ q1
     rw [q2] at q6; injection q6 with q6; subst q6
     have h8 := (q5.lt hg1).2
     rw [(q7.lt q3).2] at h8
     simp at h8; subst h8
     rw [g1] at q1; injection q1 with q1; injection q1 with q1 q1'; subst q1; subst q1'
     simp only [Addr.mk.injEq, and_true, true_and] at e1
     cases q5 with
     | us hown hp hsz =>
      have l1 := hsz r (List.mem_of_getElem? k1)
      have l2 := (List.getElem?_eq_some_iff.1 k2).1
      simp only [getC, g1] at hg
      cases hr3 : rows[i']? with
      | none => simp [hr3] at hg
      | some r3 =>
       simp only [hr3] at hg
       have l3 := hsz r3 (List.mem_of_getElem? hr3)
       have l4 := (List.getElem?_eq_some_iff.1 hg).1
       obtain ⟨q8, q9⟩ := idx_inj (by omega) (by omega) e1
       subst q8; subst q9
       exact k3 rfl
   ·exact cell_of_heap (hsame g hgb)
  ·exact ⟨ob', cells', by rw [List.getElem?_set_ne (Ne.symm hi)]; exact h1, h2, Nat.le_refl _, rfl, fun _ => ObStep.same (h.objs id' ob' cells' h1 h2) fun k r hk => hsame k (hne k _ hk (.inl fun s e => by simp at e; exact hi e.1))⟩
 ·intro id' ob' cells' h1 h2
  by_cases hi : id' = id
  ·subst hi
   simp [hidl] at h1; subst h1
   injection h2 with h2; subst h2
   have hb : ∀ g, L id' = .blk g → relab [hid, m] (pathOf id' p) (drop (pathOf id' p) ow) g = some [id'] ∧ ∃ cs e, (w.setCell ad u).heap[g]? = some (.cells cs e (0, 0)) ∧ cs.size = cells.length := by
    intro g hgb
    obtain ⟨q1, cs, e, q2, q3⟩ := hR.blk g hgb
    refine ⟨hO g _ q1 (by cases p <;> simp [pathOf, List.isPrefixOf]) (by simp [List.isPrefixOf]), ?_⟩
    by_cases hga : g = ad.block
    ·have had2 : ad = ⟨g, ad.off, none⟩ := by cases ad; simp at hga hcell; simp [hga, hcell]
     refine ⟨cs.setIfInBounds ad.off u, e, ?_, by simpa using q3⟩
     rw [had2]; exact heap_setCell_same w g ad.off cs e u q2
    ·exact ⟨cs, e, (hsame g hga).trans q2, q3⟩
   have htag : ∀ g cs T, L id' = .blk g → w.heap[g]? = some (.cells cs T (0, 0)) → ∃ cs', (w.setCell ad u).heap[g]? = some (.cells cs' T (0, 0)) := fun g cs T _ hh => by
    by_cases hga : g = ad.block
    ·have had2 : ad = ⟨g, ad.off, none⟩ := by cases ad; simp at hga hcell; simp [hga, hcell]
     exact ⟨cs.setIfInBounds ad.off u, by rw [had2]; exact heap_setCell_same w g ad.off cs T u hh⟩
    ·exact ⟨cs, (hsame g hga).trans hh⟩
   cases p with
   | cell off =>
    obtain ⟨g, q1, rfl⟩ := had
    refine hR.setCell hF hb (fun j hj => ?_) ⟨u, ?_, hnew⟩ (fun k j s hk hj => ⟨hsame k (hne k _ hk (.inr (.inr fun e => ?_))), hO k _ hk (by simp [pathOf, List.isPrefixOf, Ne.symm hj]) (by simp [List.isPrefixOf, Ne.symm hid'])⟩) hnm htag
    ·rw [q1]; exact World.cell?_setCell_other _ _ _ _ (by simp; omega)
    ·rw [q1]; exact World.cell?_setCell_same _ _ _ hcell.1
    ·have := (hR.blk g q1).1
     rw [hrb] at this; injection this with this
     rw [← e] at this; simp at this
   | elem off i j =>
    obtain ⟨e, rows, u0, g, q1, q2, q3, rfl⟩ := had
    simp only [getC, q1] at hg
    cases hr : rows[i]? with
    | none => simp [hr] at hg
    | some r =>
     simp only [hr] at hg
     have hput : putC cells c (.elem off i j) = cells.set off (.us e (rows.set i (r.set j c))) := by simp [putC, q1, hr]
     rw [hput]
     obtain ⟨u1, q4, q5⟩ := hR.cell off _ q1
     rw [q2] at q4; injection q4 with q4; subst q4
     have hgow := (q5.lt q3).2
     have hrb2 : rb = [off] := by simp only at hrb; rw [hgow] at hrb; injection hrb with hrb; injection hrb with _ hrb; exact hrb.symm
     subst hrb2
     have hjl := (List.getElem?_eq_some_iff.1 hg).1
     refine hR.setCell hF hb (fun j' hj' => ?_) ⟨u0, ?_, ?_⟩ (fun k j' s hk hj' => ⟨hsame k (hne k _ hk (.inr (.inr (by simp; omega)))), hO k _ hk (by simp [pathOf, List.isPrefixOf, Ne.symm hj']) (by simp [List.isPrefixOf, Ne.symm hid'])⟩) (by intro T h; cases h) htag
     ·cases hpl : L id' with
      | vals l => rfl
      | blk gb => exact cell_of_heap (hsame gb (hne gb _ (hR.blk gb hpl).1 (.inr (.inr (by simp)))))
     ·rw [← q2]
      cases hpl : L id' with
      | vals l => rfl
      | blk gb => exact cell_of_heap (hsame gb (hne gb _ (hR.blk gb hpl).1 (.inr (.inr (by simp)))))
     ·have q6 := q5
      cases q6 with
      | us hown hp hsz how ih =>
       have hl := hsz r (List.mem_of_getElem? hr)
       have hlt := idx_lt (List.getElem?_eq_some_iff.1 hr).1 (show j < P.cellsOf e by omega)
       refine q5.setElem hr hjl hF (fun inner hin => ⟨inner.set (i * P.cellsOf e + j) u, ownsRow_set hin q3, fun k hk => ?_, ?_⟩) (fun b hb2 => ?_) (fun k s hk hs hps => ⟨hsame k (hne k _ hk (.inr (.inr fun e1 => hs (by simpa using e1)))), hO k _ hk (by simpa [pathOf, List.isPrefixOf] using hps) (by simp [List.isPrefixOf, Ne.symm hid'])⟩)
       ·simp only [List.getD_eq_getElem?_getD]; rw [List.getElem?_set_ne (Ne.symm hk)]
       ·have : (inner.set (i * P.cellsOf e + j) u).getD (i * P.cellsOf e + j) undef = u := by
         simp only [List.getD_eq_getElem?_getD]; rw [List.getElem?_set_self (by rw [hin.1]; exact hlt)]; rfl
        rw [this]; exact hnew
       ·rw [q3] at hb2; injection hb2 with hb2; subst hb2
        exact hO _ _ hgow (by simp [pathOf, List.isPrefixOf]) (by simp [List.isPrefixOf, Ne.symm hid'])
  ·rw [List.getElem?_set_ne (Ne.symm hi)] at h1
   have hih : id' ≠ hid := fun e => by subst e; rw [hh] at h1; cases h1
   exact (h.objs id' ob' cells' h1 h2).move hF fun k r hk => ⟨hsame k (hne k _ hk (.inl fun s e => by simp at e; exact hi e.1)), hO k _ hk (hpid id' r hi hih).1 (hpid id' r hi hih).2⟩
 ·intro id' ob' cells' h1 h2 h3
  by_cases hi : id' = id
  ·subst hi
   simp [hidl] at h1; subst h1
   exact h.kinds id' ob cells ho hc h3
  ·rw [List.getElem?_set_ne (Ne.symm hi)] at h1
   exact h.kinds id' ob' cells' h1 h2 h3
 ·refine hoc.move hF fun k r hk => ⟨hsame k (hne k _ hk (.inl fun s e => by simp at e; exact hid' e.1.symm)), hO k _ hk (pathOf_other (Ne.symm hid')) (by simp [List.isPrefixOf]; omega)⟩
end
end Ev

namespace Ev
open Go
inductive TK where
 | other
 | str
 | slice (e : TypeId)
 | struct (fs : List (Nat × TypeId))
 | array (n : Nat) (e : TypeId)
 | int (k : IntKind)
 | bool
 | ptr
 | map (k e : TypeId)
inductive CK where
 | int (k : IntKind)
 | str
 | bool
structure TI where
 size : Nat
 bytes : Nat
 agg : Bool
 kind : TK
 zero : List Value
 ck : List (Option TypeId)
 cmp : Option (List CK) := none
inductive MI where
 | val (f : FuncId)
 | load (f : FuncId) (e : TypeId)
def findM : List (TypeId × String × MI) → TypeId → String → Option MI
 | (a, s, i) :: l, t, n => bif Nat.beq a t && decide (s = n) then some i else findM l t n
 | [], _, _ => none
structure Env where
 P : Program
 T : TypeId → Option TI
 md : FuncId → Nat
 m : Nat := 0
 cb : List Nat := []
 mt : List (TypeId × String × MI) := []
 vw : List Nat := []
 fz : List Nat := []
 fb : List Nat := []
 ws : List Nat := []
 me : Option TypeId := none
structure Delta where
 s : List (Nat × Option AV)
 o : List (Nat × Ob)
 c : List (Nat × Nat × Nat × List C) := []
structure Hd where
 g : Nat
 kind : Nat
 cells : Option (List (Option (TypeId × Nat)))
def hc : C → Option (TypeId × Nat)
 | .us e rows => some (e, rows.length)
 | _ => none
def Ob.hd (b : Ob) : Hd := ⟨b.g, b.kind, b.cells.map (·.map hc)⟩
inductive M where
 | ret (d : Delta)
 | fail
 | slot (n : Nat) (k : AV → M)
 | obj (id : Nat) (k : Ob → M)
 | head (id : Nat) (k : Hd → M)
 | need (p : Prop) (k : M)
 | split (b : Bool) (k : Bool → M)
 | num (i : IntKind) (n : Int) (k : Int → M)
 | row (rows : List (List C)) (i : Nat) (k : List C → M)
 | frz (c : C) (k : C → M)
 | call (f : FuncId) (args : List AV) (objs : List (List C)) (ks : List Nat) (k : RV → List (List C) → M)
def nilV : Value := .slice none 0 0
def normC : Option TypeId → C → C
 | some e, .v (.slice none 0 0) => .us e []
 | _, c => c
def normCs : List (Option TypeId) → List C → List C
 | k :: ks, c :: cs => normC k c :: normCs ks cs
 | _, cs => cs
def zeroC (t : TI) : List C := normCs t.ck (t.zero.map .v)
def out (d : Option Tmp) (a : AV) (os : List (Nat × Ob)) : M := match d with
 | some d => .ret ⟨[(d, some a)], os, []⟩
 | none => .ret ⟨[], os, []⟩
def constAV : Value → Option AV
 | .agg _ => none
 | .tuple _ => none
 | v => some (.one (.c (.v v)))
def opnd (x : Operand) (k : AV → M) : M := match x with
 | .tmp t => .slot t k
 | .const v => match constAV v with
  | some a => k a
  | none => .fail
 | .func f => k (.one (.c (.v (.func (.func f) #[] #[]))))
 | .global _ => .fail
def opnds : List Operand → List AV → (List AV → M) → M
 | [], acc, k => k acc.reverse
 | x :: xs, acc, k => opnd x fun a => opnds xs (a :: acc) k
def asInt (a : AV) (k : IntKind → Int → M) : M := match a with
 | .one (.c (.v (.int i n))) => k i n
 | _ => .fail
def asBool (a : AV) (k : Bool → M) : M := match a with
 | .one (.c (.v (.bool b))) => k b
 | _ => .fail
def av (v : Value) : AV := .one (.c (.v v))
def splitB (d : Option Tmp) (b : Bool) : M := .split b fun t => out d (av (.bool t)) []
def scsOf : AV → Option (List SC)
 | .one s => some [s]
 | .agg l => some l
 | _ => none
def findO : List (Nat × Ob) → Nat → Option Ob
 | (i, b) :: l, id => bif Nat.beq i id then some b else findO l id
 | [], _ => none
def getOb (pend : List (Nat × Ob)) (id : Nat) (k : Ob → M) : M := match findO pend id with
 | some b => k b
 | none => .obj id k
def cellsOf (ob : Ob) (k : List C → M) : M := match ob.cells with
 | some cs => k cs
 | none => .fail
def Pth.isCell : Pth → Bool
 | .cell _ => true
 | _ => false
def ownAt (pend : List (Nat × Ob)) (id g : Nat) (p : Pth) (k : (C → Ob) → TypeId → List (List C) → Nat → M) : M :=
 getOb pend id fun ob => bif Nat.beq ob.g g || (p.isCell && Nat.blt 0 ob.kind) then cellsOf ob fun cells => match p with
  | .cell off => match cells[off]? with
   | some (.us e rows) => k (fun n => { ob with cells := some (cells.set off n) }) e rows ob.kind
   | _ => .fail
  | .elem off i j => match cells[off]? with
   | some (.us e1 rows) => .row rows i fun r => match r[j]? with
    | some (.us e2 rows2) => k (fun n => { ob with cells := some (cells.set off (.us e1 (rows.set i (r.set j n)))) }) e2 rows2 ob.kind
    | _ => .fail
   | _ => .fail
 else .fail
def viewAt (pend : List (Nat × Ob)) (id g off : Nat) (k : (C → Ob) → TypeId → List (List C) → M) : M :=
 getOb pend id fun ob => bif Nat.beq ob.g g then cellsOf ob fun cells => match cells[off]? with
  | some (.us e rows) => k (fun n => { ob with cells := some (cells.set off n) }) e rows
  | _ => .fail
 else .fail
def absM : List SC → List (Nat × Ob) → List C → (List C → List (Nat × Ob) → M) → M
 | [], pend, acc, k => k acc.reverse pend
 | .c c :: l, pend, acc, k => absM l pend (c :: acc) k
 | .ref id g p :: l, pend, acc, k => ownAt pend id g p fun put e rows _ => absM l ((id, put .x) :: pend) (.us e rows :: acc) k
 | .view id g off lo n :: l, pend, acc, k => viewAt pend id g off fun put e rows => .frz (.us e rows) fun
  | .sl rows' => absM l ((id, put (.sl rows')) :: pend) (.sl ((rows'.drop lo).take n) :: acc) k
  | _ => .fail
def absF : List SC → List (Nat × Ob) → List C → (List C → List (Nat × Ob) → M) → M
 | [], pend, acc, k => k acc.reverse pend
 | .c (.v (.slice none 0 0)) :: l, pend, acc, k => absF l pend (.sl [] :: acc) k
 | .c c :: l, pend, acc, k => absF l pend (c :: acc) k
 | .ref id g p :: l, pend, acc, k => ownAt pend id g p fun put e rows _ => .frz (.us e rows) fun c' => absF l ((id, put c') :: pend) (c' :: acc) k
 | .view id g off lo n :: l, pend, acc, k => viewAt pend id g off fun put e rows => .frz (.us e rows) fun
  | .sl rows' => absF l ((id, put (.sl rows')) :: pend) (.sl ((rows'.drop lo).take n) :: acc) k
  | _ => .fail
def memN : List Nat → Nat → Bool
 | i :: l, id => Nat.beq i id || memN l id
 | [], _ => false
def absV (l : List SC) (k : List C → List (Nat × Ob) → M) : M := match l with
 | [.view id g off 0 n] => viewAt [] id g off fun put e rows => k [.us e (rows.take n)] [(id, put .x)]
 | _ => .fail
def isSame (x y : AV) : Bool := match x, y with
 | .bx id off, .one (.view id' _ off' 0 _) => Nat.beq id id' && Nat.beq off off'
 | _, _ => false
def memD (l : List Nat) (d : Option Tmp) : Bool := match d with
 | some d => memN l d
 | none => false
def isAbsent (ob : Ob) (k : M) : M := match ob.cells with
 | none => k
 | some _ => .fail
def scs (id g : Nat) (mk : Nat → Pth) : Nat → List C → List SC
 | k, .us _ _ :: l => .ref id g (mk k) :: scs id g mk (k + 1) l
 | k, .mp _ :: l => .ref id g (mk k) :: scs id g mk (k + 1) l
 | k, .me _ :: l => .ref id g (mk k) :: scs id g mk (k + 1) l
 | k, c :: l => .c c :: scs id g mk (k + 1) l
 | _, [] => []
def mkAV (t : TI) (l : List SC) : M → (AV → M) → M := fun bad k => match t.agg, l with
 | true, l => k (.agg l)
 | false, [s] => k (.one s)
 | _, _ => bad
def setSeg : List C → Nat → List C → List C
 | r, _, [] => r
 | r, j, c :: cs => setSeg (r.set j c) (j + 1) cs
def bumps : List C → Nat
 | .us _ _ :: l => bumps l + 1
 | .mp _ :: l => bumps l + 1
 | .me _ :: l => bumps l + 1
 | _ :: l => bumps l
 | [] => 0
def plain : C → Prop
 | .us _ _ => False
 | .mp _ => False
 | .me _ => False
 | _ => True
def Plain (rows : List (List C)) : Prop := ∀ r ∈ rows, ∀ c ∈ r, plain c
def chunks : Nat → Nat → List C → List (List C)
 | _, 0, _ => []
 | sz, n + 1, l => l.take sz :: chunks sz n (l.drop sz)
def fieldAt : TK → Nat → Option (Nat × TypeId)
 | .struct fs, f => fs[f]?
 | _, _ => none
def setSC : List SC → Nat → List SC → List SC
 | r, _, [] => r
 | r, j, c :: cs => setSC (r.set j c) (j + 1) cs
def typ (E : Env) (t : TypeId) (k : TI → M) : M := match E.T t with
 | some i => k i
 | none => .fail
def elt (E : Env) (t : TypeId) (k : TI → M) : M := typ E t fun i => bif Nat.blt 0 i.size then k i else .fail
def outNum (d : Option Tmp) (k : IntKind) (n : Int) : M := .num k n fun z => out d (av (.int k z)) []
def intOp (d : Option Tmp) (op : BinOp) (k : IntKind) (m n : Int) : M := match op with
 | .add => outNum d k (m + n)
 | .sub => outNum d k (m - n)
 | .mul => outNum d k (m * n)
 | .quo => .need (n ≠ 0) (outNum d k (m.tdiv n))
 | .rem => .need (n ≠ 0) (out d (av (.int k (m.tmod n))) [])
 | .and => out d (av (.int k (k.wrap ((BitVec.ofInt k.bits m &&& BitVec.ofInt k.bits n).toNat)))) []
 | .or => out d (av (.int k (k.wrap ((BitVec.ofInt k.bits m ||| BitVec.ofInt k.bits n).toNat)))) []
 | .xor => out d (av (.int k (k.wrap ((BitVec.ofInt k.bits m ^^^ BitVec.ofInt k.bits n).toNat)))) []
 | .eql => splitB d (m == n)
 | .neq => splitB d (m != n)
 | .lss => splitB d (decide (m < n))
 | .leq => splitB d (decide (m ≤ n))
 | .gtr => splitB d (decide (m > n))
 | .geq => splitB d (decide (m ≥ n))
 | _ => .fail
def strOp (d : Option Tmp) (op : BinOp) (a b : ByteArray) : M := match op with
 | .add => .need (((a.size + b.size : Nat) : Int) ≤ IntKind.i64.max) (out d (av (.string (a ++ b))) [])
 | .eql => splitB d (a.toList == b.toList)
 | .neq => splitB d (!(a.toList == b.toList))
 | .lss => splitB d (Op.bytesLess a.toList b.toList)
 | .leq => splitB d (Op.bytesLess a.toList b.toList || a.toList == b.toList)
 | .gtr => splitB d (!(Op.bytesLess a.toList b.toList || a.toList == b.toList))
 | .geq => splitB d (!Op.bytesLess a.toList b.toList)
 | _ => .fail
def eqCells : List CK → List SC → List SC → Option Bool
 | [], [], [] => some true
 | .int i :: ks, .c (.v (.int k a)) :: l, .c (.v (.int k' b)) :: l' => match decEq i k, decEq k k', eqCells ks l l' with
  | .isTrue _, .isTrue _, some t => some ((a == b) && t)
  | _, _, _ => none
 | .str :: ks, .c (.v (.string a)) :: l, .c (.v (.string b)) :: l' => match eqCells ks l l' with
  | some t => some ((a == b) && t)
  | none => none
 | .bool :: ks, .c (.v (.bool a)) :: l, .c (.v (.bool b)) :: l' => match eqCells ks l l' with
  | some t => some ((a == b) && t)
  | none => none
 | _, _, _ => none
def boolOp (d : Option Tmp) (op : BinOp) (m n : Bool) : M := match op with
 | .eql => splitB d (m == n)
 | .neq => splitB d (!(m == n))
 | _ => .fail
def cmpOp (d : Option Tmp) (op : BinOp) (t : Option Bool) : M := match op, t with
 | .eql, some t => splitB d t
 | .neq, some t => splitB d (!t)
 | _, _ => .fail
def binM (E : Env) (t : TypeId) (d : Option Tmp) (op : BinOp) (a b : AV) : M := match a, b with
 | .one (.c (.v (.int k m))), .one (.c (.v (.int k' n))) => match op with
  | .shl => .need (0 ≤ n) (outNum d k (m * 2 ^ (min n.toNat k.bits)))
  | .shr => .need (0 ≤ n) (out d (av (.int k (m.fdiv (2 ^ (min n.toNat k.bits))))) [])
  | op => match decEq k k' with
   | .isTrue _ => intOp d op k m n
   | .isFalse _ => .fail
 | .one (.c (.v (.string m))), .one (.c (.v (.string n))) => strOp d op m n
 | .one (.c (.v (.bool m))), .one (.c (.v (.bool n))) => typ E t fun i => match i.kind with
  | .bool => boolOp d op m n
  | _ => .fail
 | .agg l, .agg l' => typ E t fun i => match i.cmp with
  | some ks => cmpOp d op (eqCells ks l l')
  | none => .fail
 | _, _ => .fail
def sub (l : List C) (j n : Nat) : List C := (l.drop j).take n
def parts (E : Env) (size : Nat → Option (Nat × Nat)) : List (Nat × Operand) → List SC → (List SC → M) → M
 | [], acc, k => k acc
 | (i, x) :: l, acc, k => match size i with
  | some (off, n) => opnd x fun a => match scsOf a with
   | some cs => bif Nat.beq cs.length n && Nat.ble (off + n) acc.length then parts E size l (setSC acc off cs) k else .fail
   | none => .fail
  | none => .fail
def fieldsOf (E : Env) : TK → Nat → Option (Nat × Nat)
 | .struct fs, i => match fs[i]? with
  | some (off, t) => match E.T t with
   | some j => some (off, j.size)
   | none => none
  | none => none
 | .array n t, i => match E.T t with
   | some j => bif Nat.blt i n then some (i * j.size, j.size) else none
   | none => none
 | .slice t, i => match E.T t with
   | some j => some (i * j.size, j.size)
   | none => none
 | _, _ => none
def buildable (E : Env) : TK → Bool
 | .struct _ => true
 | .array _ e => (E.T e).isSome
 | _ => false
def repl {α : Type} : Nat → List α → List α
 | 0, _ => []
 | n + 1, l => l ++ repl n l
def newOwn (m : Nat) (d : Option Tmp) (kind : Nat) (e : TypeId) (rows : List (List C)) (pend : List (Nat × Ob)) : M := match d with
 | some d => .obj (d + m) fun ob => isAbsent ob (.ret ⟨[(d, some (.one (.ref (d + m) 0 (.cell 0))))], (d + m, ⟨0, kind, some [.us e rows]⟩) :: pend, []⟩)
 | none => .fail
def appSrc (e : TypeId) (ie : TI) (x : AV) (k : List (List C) → List (Nat × Ob) → M) : M := match x with
 | .one (.c (.sl rows)) => .need (Plain rows ∧ ∀ r ∈ rows, r.length = ie.size) (k rows [])
 | .one (.c (.v (.slice none 0 0))) => k [] []
 | .one (.ref id g (.cell off)) => ownAt [] id g (.cell off) fun put e' rows kind => bif Nat.beq e e' then (bif Nat.beq kind 2 then k rows [(id, put .x)] else .need (Plain rows) (k rows [])) else .fail
 | .one (.view id g off lo n) => viewAt [] id g off fun _ e' rows => bif Nat.beq e e' then .need (Plain rows) (k ((rows.drop lo).take n) []) else .fail
 | .bs id off n e' => bif Nat.beq e e' then .obj id fun ob => cellsOf ob fun cells => bif Nat.ble (off + n * ie.size) cells.length then .need (Plain (chunks ie.size n (sub cells off (n * ie.size)))) (k (chunks ie.size n (sub cells off (n * ie.size))) []) else .fail else .fail
 | _ => .fail
def appDst (s : AV) (e : TypeId) (pend : List (Nat × Ob)) (k : List (List C) → List (Nat × Ob) → M) : M := match s with
 | .one (.c (.v (.slice none 0 0))) => k [] pend
 | .one (.ref id g p) => ownAt pend id g p fun put e' rows _ => bif Nat.beq e e' then k rows ((id, put .x) :: pend) else .fail
 | .one (.view id g off 0 n) => viewAt pend id g off fun put e' rows => bif Nat.beq e e' then k (rows.take n) ((id, put .x) :: pend) else .fail
 | _ => .fail
def appE (m : Nat) (d : Option Tmp) (e : TypeId) (ie : TI) (rows2 : List (List C)) (pend : List (Nat × Ob)) (id g off i j : Nat) : M :=
 getOb pend id fun ob => bif Nat.beq ob.g g then cellsOf ob fun cells => match cells[off]? with
  | some (.us _ rows0) => .row rows0 i fun r => match r[j]? with
   | some (.us e2 rows) => bif Nat.beq e e2 then .need ((rows.length + rows2.length) * ie.bytes ≤ 140737488355328 ∧ rows.length + rows2.length ≤ maxLen) (match d with
    | some dd => bif Nat.beq id (dd + m) then .fail else .obj (dd + m) fun nb => isAbsent nb (.ret ⟨[(dd, some (.one (.ref (dd + m) 0 (.cell 0))))], (dd + m, ⟨0, 1, some [.us e (rows ++ rows2)]⟩) :: pend, [(id, off, i, r.set j .x)]⟩)
    | none => .fail) else .fail
   | _ => .fail
  | _ => .fail
 else .fail
def apndO (m : Nat) (d : Option Tmp) (e : TypeId) (ie : TI) (rows2 : List (List C)) (pend : List (Nat × Ob)) (a : AV) : M :=
 appDst a e pend fun rows pend => .need ((rows.length + rows2.length) * ie.bytes ≤ 140737488355328 ∧ rows.length + rows2.length ≤ maxLen) (newOwn m d 1 e (rows ++ rows2) pend)
def apndM (m : Nat) (d : Option Tmp) (e : TypeId) (ie : TI) (rows2 : List (List C)) (pend : List (Nat × Ob)) (a : AV) : M := match a with
 | .one (.ref id g (.elem off i j)) => appE m d e ie rows2 pend id g off i j
 | a => apndO m d e ie rows2 pend a
def hdAt (h : Hd) (g off : Nat) (soft : Bool) (k : Nat → TypeId → Nat → M) : M := bif Nat.beq h.g g || (soft && Nat.blt 0 h.kind) then (match h.cells with
 | some cs => (match cs[off]? with
  | some (some (e, n)) => k h.g e n
  | _ => .fail)
 | none => .fail) else .fail
def lenM (d : Option Tmp) (i : TI) (x : AV) : M := match i.kind, x with
 | .str, .one (.c (.v (.string s))) => out d (av (.int .i64 s.size)) []
 | .slice _, .one (.c (.v (.slice none 0 0))) => out d (av (.int .i64 0)) []
 | .slice _, .one (.c (.sl rows)) => out d (av (.int .i64 rows.length)) []
 | .slice _, .one (.ref id g (.cell off)) => .head id fun h => hdAt h g off true fun _ _ m => out d (av (.int .i64 m)) []
 | .slice _, .one (.ref id g p) => ownAt [] id g p fun _ _ rows _ => out d (av (.int .i64 rows.length)) []
 | .slice _, .one (.view _ _ _ _ n) => out d (av (.int .i64 n)) []
 | .array n _, _ => out d (av (.int .i64 n)) []
 | _, _ => .fail
def bnd (x : Option Operand) (dflt : Int) (k : Int → M) : M := match x with
 | some x => opnd x fun a => asInt a fun _ n => k n
 | none => k dflt
def sliceM (E : Env) (d : Option Tmp) (i : TI) (x : AV) (lo hi : Option Operand) : M := match x with
 | .one (.c (.v (.string s))) => (match i.kind with
  | .str => bnd hi s.size fun h => bnd lo 0 fun l => .need (0 ≤ l ∧ l ≤ h ∧ h ≤ s.size) (out d (av (.string (s.extract l.toNat h.toNat))) [])
  | _ => .fail)
 | .one (.c (.sl rows)) => (match i.kind with
  | .slice e => typ E e fun ie => bnd hi rows.length fun h => bnd lo 0 fun l => .need (0 ≤ l ∧ l ≤ h ∧ h ≤ rows.length ∧ ∀ r ∈ rows, r.length = ie.size) (out d (.one (.c (.sl ((rows.drop l.toNat).take (h - l).toNat)))) [])
  | _ => .fail)
 | .one (.ref id g (.cell off)) => (match i.kind with
  | .slice e => ownAt [] id g (.cell off) fun _ e' rows _ => bif Nat.beq e e' then bnd hi rows.length fun h => bnd lo 0 fun l => .need (0 ≤ l ∧ l ≤ h ∧ h ≤ rows.length) (.obj id fun ob => out d (.one (.view id ob.g off l.toNat (h - l).toNat)) []) else .fail
  | _ => .fail)
 | .bx id off => (match i.kind, lo, hi with
  | .array n e, none, none => typ E e fun _ => .obj id fun ob => cellsOf ob fun _ => out d (.bs id off n e) []
  | _, _, _ => .fail)
 | _ => .fail
def ownHd (i : TI) (h : Hd) (off : Nat) : Bool := match i.agg, h.cells with
 | false, some cs => (match cs[off]? with
  | some (some _) => Nat.beq i.size 1
  | _ => false)
 | _, _ => false
def loadB (d : Option Tmp) (i : TI) (id off : Nat) : M :=
 .obj id fun ob => cellsOf ob fun cells => bif Nat.ble (off + i.size) cells.length then mkAV i (scs id ob.g .cell off (sub cells off i.size)) .fail fun a => out d a [] else .fail
def wkC : SC → SC
 | .c (.ex _ rows) => .c (.sl rows)
 | s => s
def wkL (b : Bool) (l : List SC) : List SC := bif b then l.map wkC else l
def loadM (wk : Bool) (d : Option Tmp) (i : TI) (x : AV) : M := match x with
 | .bx id off => .head id fun h => bif ownHd i h off then out d (.one (.ref id h.g (.cell off))) [] else loadB d i id off
 | .dp id g off n j => .obj id fun ob => bif Nat.beq ob.g g then cellsOf ob fun cells => match cells[off]? with
   | some (.us _ rows) => .row rows n fun r => bif Nat.ble (j + i.size) r.length then mkAV i (scs id g (.elem off n) j (sub r j i.size)) .fail fun a => out d a [] else .fail
   | _ => .fail
  else .fail
 | .ep row off _ => bif Nat.ble (off + i.size) row.length then mkAV i ((sub row off i.size).map .c) .fail fun a => out d a [] else .fail
 | .cp l off => bif Nat.ble (off + i.size) l.length then mkAV i (wkL wk ((l.drop off).take i.size)) .fail fun a => out d a [] else .fail
 | _ => .fail
def storeM (fb : Bool) (d : Option Tmp) (i : TI) (x y : AV) : M := match scsOf y with
 | none => .fail
 | some l => (bif isSame x y then absV l else bif fb then absF l [] [] else absM l [] []) fun cs0 pend => bif Nat.beq cs0.length i.size then (match x with
  | .bx id off => getOb pend id fun ob => cellsOf ob fun cells => bif Nat.ble (off + i.size) cells.length then
    .ret ⟨match d with | some d => [(d, none)] | none => [], (id, { ob with g := ob.g + bumps (normCs i.ck cs0), cells := some (setSeg cells off (normCs i.ck cs0)) }) :: pend, []⟩ else .fail
  | .dp id g off n j => getOb pend id fun ob => bif Nat.beq ob.g g then cellsOf ob fun cells => match cells[off]? with
   | some (.us e rows) => .row rows n fun r => bif Nat.ble (j + i.size) r.length then
     (match pend, bumps (normCs i.ck cs0) with
     | [], 0 => .ret ⟨match d with | some d => [(d, none)] | none => [], [], [(id, off, n, setSeg r j (normCs i.ck cs0))]⟩
     | pend, m => .ret ⟨match d with | some d => [(d, none)] | none => [], (id, { ob with g := ob.g + m, cells := some (cells.set off (.us e (rows.set n (setSeg r j (normCs i.ck cs0))))) }) :: pend, []⟩) else .fail
   | _ => .fail
   else .fail
  | _ => .fail) else .fail
def addrM (d : Option Tmp) (fo : Nat) (x : AV) : M := match x with
 | .bx id off => out d (.bx id (off + fo)) []
 | .dp id g off n j => out d (.dp id g off n (j + fo)) []
 | .ep row off ad => out d (.ep row (off + fo) ad) []
 | .cp l off => out d (.cp l (off + fo)) []
 | _ => .fail
def indexAddrM (E : Env) (d : Option Tmp) (i : TI) (x : AV) (n : Int) : M := match i.kind with
 | .slice e => elt E e fun ie => match x with
  | .one (.c (.sl rows)) => .need (0 ≤ n) (.row rows n.toNat fun r => bif Nat.beq r.length ie.size then out d (.ep r 0 none) [] else .fail)
  | .one (.ref id g (.cell off)) => .head id fun h => hdAt h g off true fun g' e' m => bif Nat.beq e e' then .need (0 ≤ n ∧ n < m) (out d (.dp id g' off n.toNat 0) []) else .fail
  | .one (.view id g off lo m) => .head id fun h => hdAt h g off false fun g' e' _ => bif Nat.beq e e' then .need (0 ≤ n ∧ n < m) (out d (.dp id g' off (lo + n.toNat) 0) []) else .fail
  | _ => .fail
 | .array m e => typ E e fun ie => match x with
  | .bx id off => .need (0 ≤ n ∧ n < m) (out d (.bx id (off + n.toNat * ie.size)) [])
  | _ => .fail
 | _ => .fail
def bytesOf : List (List C) → Option (List UInt8)
 | [] => some []
 | [.v (.int .u8 n)] :: l => match bytesOf l with
  | some bs => some (UInt8.ofNat n.toNat :: bs)
  | none => none
 | _ => none
def byteAt (s : ByteArray) (i : Int) : Int := if h : i.toNat < s.size then ((s[i.toNat]'h).toNat : Int) else 0
def convM (E : Env) (d : Option Tmp) (j i : TI) (x : AV) : M := match j.kind, i.kind, x with
 | .int _, .int k, .one (.c (.v (.int _ n))) => outNum d k n
 | .slice e, .str, .one (.ref id g p) => typ E e fun ie => match ie.kind with
  | .int .u8 => ownAt [] id g p fun _ e' rows _ => bif Nat.beq e e' then (match bytesOf rows with
   | some bs => out d (av (.string ⟨bs.toArray⟩)) []
   | none => .fail) else .fail
  | _ => .fail
 | .str, .str, .one (.c (.v (.string s))) => out d (av (.string s)) []
 | _, _, _ => .fail
inductive Src where
 | box (id : Nat)
 | own (id g : Nat) (p : Pth)
abbrev KA := List (List C) → List Src → List (Nat × Ob) → List Nat → M
def hasBox : List Src → Nat → Bool
 | .box i :: l, id => Nat.beq i id || hasBox l id
 | .own i _ _ :: l, id => Nat.beq i id || hasBox l id
 | [], _ => false
def Src.clash (id : Nat) (p : Pth) : Src → Bool
 | .box i => Nat.beq i id
 | .own i _ q => Nat.beq i id && !(match p, q with | .cell a, .cell b => !Nat.beq a b | _, _ => false)
def hasSrc : List Src → Nat → Pth → Bool
 | s :: l, id, p => s.clash id p || hasSrc l id p
 | [], _, _ => false
def argSC (md : Nat) (s : SC) (k : SC → KA) : KA := fun objs srcs pend bor => match s with
  | .c (.v (.slice none 0 0)) => (match md with
    | 3 => k (.c (.v (.slice none 0 0))) objs srcs pend bor
    | _ => k (.c (.sl [])) objs srcs pend bor)
  | .c c => k (.c c) objs srcs pend bor
  | .ref id g p => ownAt pend id g p fun put e rows _ => match md with
    | 1 => bif hasSrc srcs id p then .fail else k (.ref objs.length 0 (.cell 0)) (objs ++ [[.us e rows]]) (srcs ++ [.own id g p]) pend bor
    | 2 => bif hasBox srcs id then .fail else .frz (.us e rows) fun c' => k (.c c') objs srcs ((id, put c') :: pend) bor
    | _ => .frz (.us e rows) fun c' => k (.c c') objs srcs pend (id :: bor)
  | .view id g off lo n => match md with
   | 1 => viewAt pend id g off fun _ e rows => bif hasSrc srcs id (.cell off) then .fail else .need (lo = 0 ∧ n = rows.length) (k (.ref objs.length 0 (.cell 0)) (objs ++ [[.us e rows]]) (srcs ++ [.own id g (.cell off)]) pend bor)
   | _ => viewAt pend id g off fun put e rows => .frz (.us e rows) fun
    | .sl rows' => match md with
      | 1 => .fail
      | 2 => bif hasBox srcs id then .fail else k (.c (.sl ((rows'.drop lo).take n))) objs srcs ((id, put (.sl rows')) :: pend) bor
      | _ => k (.c (.sl ((rows'.drop lo).take n))) objs srcs pend (id :: bor)
    | _ => .fail
def argSCs (md : Nat) : List SC → List SC → (List SC → KA) → KA
 | [], acc, k => k acc.reverse
 | s :: l, acc, k => argSC md s fun s' => argSCs md l (s' :: acc) k
def argBox (id : Nat) (k : AV → KA) : KA := fun objs srcs pend bor =>
 bif hasBox srcs id then .fail else getOb pend id fun ob => cellsOf ob fun cells => k (.bx objs.length 0) (objs ++ [cells]) (srcs ++ [.box id]) pend bor
def caps : List AV → List AV → (List AV → KA) → KA
 | [], acc, k => k acc.reverse
 | .bx id 0 :: l, acc, k => argBox id fun a => caps l (a :: acc) k
 | .one (.c c) :: l, acc, k => caps l (.one (.c c) :: acc) k
 | _, _, _ => fun _ _ _ _ => .fail
def argsM (md : Nat) : List AV → List AV → (List AV → KA) → KA
 | [], acc, k => k acc.reverse
 | .one s :: l, acc, k => argSC md s fun s' => argsM md l (.one s' :: acc) k
 | .agg ss :: l, acc, k => argSCs md ss [] fun ss' => argsM md l (.agg ss' :: acc) k
 | .bx id 0 :: l, acc, k => argBox id fun a => argsM md l (a :: acc) k
 | .clo f cs :: l, acc, k => caps cs [] fun cs' => argsM md l (.clo f cs' :: acc) k
 | .ifc t (.bx id 0) :: l, acc, k => argBox id fun a => argsM md l (.ifc t a :: acc) k
 | _, _, _ => fun _ _ _ _ => .fail
def srcsOk : List Src → List Nat → Bool
 | .box id :: l, bor => !memN bor id && srcsOk l bor
 | .own id _ _ :: l, bor => !memN bor id && srcsOk l bor
 | [], _ => true
def sameE : Option C → C → Bool
 | some (.us e _), .us e' _ => Nat.beq e e'
 | _, .us _ _ => false
 | _, _ => true
def notMe : C → Bool
 | .me _ => false
 | _ => true
def backM : List Src → List (List C) → List (Nat × Ob) → (List (Nat × Ob) → M) → M
 | [], [], pend, k => k pend
 | .box id :: l, cells' :: os, pend, k => getOb pend id fun ob => cellsOf ob fun cells => bif Nat.beq cells.length cells'.length then backM l os ((id, { ob with g := ob.g + 1, cells := some cells' }) :: pend) k else .fail
 | .own id _ p :: l, [c] :: os, pend, k => bif notMe c then (getOb pend id fun ob => cellsOf ob fun cells => match p with
  | .cell off => backM l os ((id, { ob with g := ob.g + 1, cells := some (cells.set off c) }) :: pend) k
  | .elem off i j => match cells[off]? with
   | some (.us e1 rows) => .row rows i fun r => bif sameE r[j]? c then backM l os ((id, { ob with cells := some (cells.set off (.us e1 (rows.set i (r.set j c)))) }) :: pend) k else .fail
   | _ => .fail) else .fail
 | _, _, _, _ => .fail
inductive Closed : C → Prop where
 | v {x : Value} : Closed (.v x)
 | x : Closed .x
 | us {e : TypeId} {rows : List (List C)} (h : ∀ r ∈ rows, ∀ c ∈ r, Closed c) : Closed (.us e rows)
def rvCell1 : RV → List C
 | .one c => [c]
 | .agg l => l
 | .tup _ => []
 | .bx l => l
 | .ifc _ l => l
def tupCells : List RV → List C
 | [] => []
 | .one c :: l => c :: tupCells l
 | .agg cs :: l => cs ++ tupCells l
 | _ :: _ => []
def rvCells : RV → List C
 | .tup l => tupCells l
 | r => rvCell1 r
def anyUs : List C → Bool
 | .us _ _ :: _ => true
 | .mp _ :: _ => true
 | .me _ :: _ => true
 | _ :: l => anyUs l
 | [] => false
def adAV (d : Nat) : Nat → RV → Option AV
 | k, .one c => match scs d 0 .cell k [c] with
  | [s] => some (.one s)
  | _ => none
 | k, .agg l => some (.agg (scs d 0 .cell k l))
 | k, .ifc t l => some (.ifc t (.agg (scs d 0 .cell k l)))
 | _, _ => none
def adTup (d : Nat) : Nat → List RV → Option (List AV)
 | _, [] => some []
 | k, .one c :: l => match adAV d k (.one c), adTup d (k + 1) l with
  | some a, some al => some (a :: al)
  | _, _ => none
 | k, .agg cs :: l => match adAV d k (.agg cs), adTup d (k + cs.length) l with
  | some a, some al => some (a :: al)
  | _, _ => none
 | _, _ :: _ => none
def adopt (d : Nat) : RV → Option AV
 | .tup l => match adTup d 0 l with
  | some al => some (.tup al)
  | none => none
 | r => adAV d 0 r
def splitRV (r : RV) (k : RV → M) : M := match r with
 | .one (.v (.bool b)) => .split b fun t => k (.one (.v (.bool t)))
 | .tup [r1, .one (.v (.bool b))] => .split b fun t => k (.tup [r1, .one (.v (.bool t))])
 | r => k r
def adoptM (m : Nat) (d : Option Tmp) (r : RV) (pend : List (Nat × Ob)) : M := match d with
  | none => .ret ⟨[], pend, []⟩
  | some d => match r with
   | .bx l => .obj (d + m) fun ob => isAbsent ob (.ret ⟨[(d, some (.bx (d + m) 0))], (d + m, ⟨0, 0, some l⟩) :: pend, []⟩)
   | r => match adopt (d + m) r with
    | some a => bif anyUs (rvCells r) then .obj (d + m) fun ob => isAbsent ob (.ret ⟨[(d, some a)], (d + m, ⟨0, 1, some (rvCells r)⟩) :: pend, []⟩) else .ret ⟨[(d, some a)], pend, []⟩
    | none => .fail
def srcKs : List Src → List Nat
 | .box _ :: l => 0 :: srcKs l
 | .own _ _ _ :: l => 1 :: srcKs l
 | [] => []
def ASame (P : Program) (f : FuncId) (args : List AV) : Prop :=
 Go.Proofs.Enters P f ∧ ∀ (w : World) (F0 : Frs) (ow0 : Own) (L : Nat → Pl) (vs : List Value),
  CxOk P w F0 ow0 → (∀ k p, ow0 k = some p → k < w.heap.size) → args.length = vs.length → (∀ (i : Nat) (a : AV) (v : Value), args[i]? = some a → vs[i]? = some v → AVR P w F0 L [] a v) →
  Calls P f vs.toArray w fun e w' => ∃ (v0 : Value) (ow' : Own), vs[0]? = some v0 ∧ e = .returned (.tuple #[v0, .bool false]) ∧ Keeps w w' ow0 ∧ ∀ k p, ow' k = some p → k < w'.heap.size ∧ (ow0 k ≠ none ∨ w.heap.size ≤ k)
def sameM (E : Env) (d : Option Tmp) (f : FuncId) (args : List AV) : M :=
 argsM 0 args [] (fun al objs _ pend _ => match objs, pend, d, args with
  | [], [], some d, a :: _ => .need (ASame E.P f al) (.ret ⟨[(d, some (.tup [a, av (.bool false)]))], [], []⟩)
  | _, _, _, _ => .fail) [] [] [] []
def callM (E : Env) (d : Option Tmp) (f : FuncId) (args : List AV) : M := bif memD E.ws d then sameM E d f args else
 argsM (E.md f) args [] (fun al objs srcs pend bor => bif srcsOk srcs bor then .call f al objs (srcKs srcs) fun r objs' =>
  let go := splitRV r fun r => backM srcs objs' pend fun pend => adoptM E.m d r pend
  match bor with
  | [] => go
  | _ => .need ((∀ c ∈ rvCells r, Closed c) ∧ ∀ cs ∈ objs', ∀ c ∈ cs, Closed c) go
 else .fail) [] [] [] []
def calleeM (x : Operand) (k : FuncId → List AV → M) : M := opnd x fun
 | .clo f cs => k f cs
 | .one (.c (.v (.func (.func f) ⟨[]⟩ ⟨[]⟩))) => k f []
 | _ => .fail
def loadAV (i : TI) (x : AV) (k : AV → M) : M := match x with
 | .bx id off => .obj id fun ob => cellsOf ob fun cells => bif Nat.ble (off + i.size) cells.length then mkAV i (scs id ob.g .cell off (sub cells off i.size)) .fail k else .fail
 | _ => .fail
def invokeM (E : Env) (d : Option Tmp) (x : AV) (name : String) (al : List Operand) : M := match x with
 | .ifc t b => (match findM E.mt t name with
  | some (.val f) => opnds al [] fun l => callM E d f (b :: l)
  | some (.load f e) => typ E e fun i => loadAV i b fun b' => opnds al [] fun l => callM E d f (b' :: l)
  | none => .fail)
 | _ => .fail
def deMe : C → C
 | .me _ => .x
 | c => c
def flatR : Nat → List (List C) → List C
 | 0, _ => []
 | _, [] => []
 | n + 1, r :: l => r.map deMe ++ flatR n l
def copyM (d : Option Tmp) (e : TypeId) (ie : TI) (a b : AV) : M := match a with
 | .bs id off n e' => bif Nat.beq e e' then appSrc e ie b fun rows pend => (match pend with
  | [] => .obj id fun ob => cellsOf ob fun cells => bif Nat.ble (off + n * ie.size) cells.length then
    .ret ⟨match d with | some d => [(d, some (av (.int .i64 (min rows.length n : Nat))))] | none => [], [(id, { ob with g := ob.g + bumps (flatR n rows), cells := some (setSeg cells off (flatR n rows)) })], []⟩ else .fail
  | _ => .fail) else .fail
 | _ => .fail
def minmaxM (d : Option Tmp) (lt : Bool) (a b : AV) : M := match a, b with
 | .one (.c (.v (.int k m))), .one (.c (.v (.int _ n))) => out d (av (.int k (if lt then (if n < m then n else m) else (if m < n then n else m)))) []
 | .one (.c (.v (.string m))), .one (.c (.v (.string n))) => .split (if lt then (Op.bytesLess m.toList n.toList || m.toList == n.toList) else !Op.bytesLess m.toList n.toList) fun t => bif t then out d (av (.string m)) [] else out d (av (.string n)) []
 | _, _ => .fail
def fbAt (l : List Nat) (a : AV) : Bool := match a with
 | .bx id _ => memN l id
 | _ => false
def asgM (E : Env) (d : Option Tmp) (a : AV) : M := match d, a with
 | some dd, .one (.ref id g (.cell off)) => bif memN E.vw dd then ownAt [] id g (.cell off) fun _ _ rows _ => .obj id fun ob => out d (.one (.view id ob.g off 0 rows.length)) []
  else bif memN E.fz dd then ownAt [] id g (.cell off) fun put e rows _ => .frz (.us e rows) fun c' => .ret ⟨[(dd, some (.one (.c c')))], [(id, put c')], []⟩ else out d a []
 | some dd, .one (.c (.v (.slice none 0 0))) => bif memN E.fz dd then out d (.one (.c (.sl []))) [] else out d a []
 | _, a => out d a []
def lookE : List (ByteArray × Int) → ByteArray → Int
 | [], _ => 0
 | q :: l, s => if s == q.1 then q.2 else lookE l s
def updE : List (ByteArray × Int) → ByteArray → Int → List (ByteArray × Int)
 | [], s, n => [(s, n)]
 | q :: l, s, n => if s == q.1 then (s, n) :: l else q :: updE l s n
def mapAt (id : Nat) (k : List (ByteArray × Int) → Ob → M) : M := .obj id fun ob => bif Nat.blt 0 ob.kind then (match ob.cells with
 | some [.mp es] => k es ob
 | _ => .fail) else .fail
def newMap (m : Nat) (d : Option Tmp) : M := match d with
 | some d => .obj (d + m) fun ob => isAbsent ob (.ret ⟨[(d, some (.one (.ref (d + m) 0 (.cell 0))))], [(d + m, ⟨0, 1, some [.mp []]⟩)], []⟩)
 | none => .fail
def mapTy (E : Env) (t : TypeId) (k : M) : M := typ E t fun i => match i.kind with
 | .map kt et => typ E kt fun ik => typ E et fun ie => match ik.kind, ie.kind, ie.zero with
  | .str, .int .i64, [.int .i64 0] => k
  | _, _, _ => .fail
 | _ => .fail
def lookM (d : Option Tmp) (a b : AV) : M := match a, b with
 | .one (.ref id _ (.cell 0)), .one (.c (.v (.string s))) => mapAt id fun es _ => .num .i64 (lookE es s) fun z => .need (lookE es s = z) (out d (av (.int .i64 z)) [])
 | _, _ => .fail
def updM (d : Option Tmp) (a b c : AV) : M := match a, b, c with
 | .one (.ref id _ (.cell 0)), .one (.c (.v (.string s))), .one (.c (.v (.int .i64 n))) => mapAt id fun es ob => .ret ⟨match d with | some d => [(d, none)] | none => [], [(id, { ob with g := ob.g + 1, cells := some [.mp (updE es s n)] })], []⟩
 | _, _, _ => .fail
def meC (m : Option TypeId) (t : TypeId) (l : List C) : List C := match m, l with
 | some T, .v (.pointer none) :: r => bif Nat.beq T t then .me T :: r else l
 | _, _ => l
def opM (E : Env) (o : Oper) : M := match o.op with
 | .move x => opnd x fun a => out o.dst a []
 | .assign x => opnd x fun a => asgM E o.dst a
 | .pick c a b => opnd c fun cv => asBool cv fun t => bif t then opnd a fun v => out o.dst v [] else opnd b fun v => out o.dst v []
 | .alloc t => typ E t fun i => match o.dst with
  | some d => .obj (d + E.m) fun ob => isAbsent ob (.ret ⟨[(d, some (.bx (d + E.m) 0))], [(d + E.m, ⟨0, 0, some (meC E.me t (zeroC i))⟩)], []⟩)
  | none => .fail
 | .box t x => typ E t fun i => opnd x fun a => match scsOf a, o.dst with
  | some l, some d => bif memN E.cb d then .ret ⟨[(d, some (.cp l 0))], [], []⟩ else .obj (d + E.m) fun ob => isAbsent ob (absM l [] [] fun cs pend => .ret ⟨[(d, some (.bx (d + E.m) 0))], (d + E.m, ⟨0, 0, some (normCs i.ck cs)⟩) :: pend, []⟩)
  | _, _ => .fail
 | .build t ps => typ E t fun i => bif buildable E i.kind then parts E (fieldsOf E i.kind) ps.toList (i.zero.map fun z => .c (.v z)) (fun l => out o.dst (.agg l) []) else .fail
 | .buildSlice t n ps => typ E t fun i => match i.kind with
  | .slice e => elt E e fun ie => bif Nat.ble (n * ie.size) 16777216 then parts E (fieldsOf E i.kind) ps.toList ((repl n ie.zero).map fun z => .c (.v z)) fun l => (bif memD E.fz o.dst then absF l [] [] else absM l [] []) fun cs pend =>
    newOwn E.m o.dst 2 e ((chunks ie.size n cs).map (normCs ie.ck)) pend else .fail
  | _ => .fail
 | .load t x => typ E t fun i => opnd x fun a => loadM (memD E.ws o.dst) o.dst i a
 | .store t x y => typ E t fun i => opnd x fun a => opnd y fun b => storeM (fbAt E.fb a) o.dst i a b
 | .fieldAddr t x f => typ E t fun i => match fieldAt i.kind f with
  | some (fo, _) => opnd x fun a => addrM o.dst fo a
  | none => .fail
 | .indexAddr t x ix => typ E t fun i => opnd x fun a => opnd ix fun b => asInt b fun _ n => indexAddrM E o.dst i a n
 | .index t x ix => typ E t fun i => opnd x fun a => opnd ix fun b => asInt b fun _ n => match i.kind, a with
  | .str, .one (.c (.v (.string s))) => .need (0 ≤ n ∧ n < s.size) (out o.dst (av (.int .u8 (byteAt s n))) [])
  | _, _ => .fail
 | .makeSlice t l c => typ E t fun i => match i.kind with
  | .slice e => elt E e fun ie => opnd l fun a => opnd c fun b => asInt a fun _ n => asInt b fun _ m => .need (0 ≤ n ∧ n ≤ m ∧ (ie.bytes : Int) * m ≤ 281474976710656 ∧ m ≤ 9223372036854775807) (newOwn E.m o.dst 1 e (List.replicate n.toNat (zeroC ie)) [])
  | _ => .fail
 | .slice t x lo hi none => typ E t fun i => opnd x fun a => sliceM E o.dst i a lo hi
 | .extract x i => opnd x fun | .tup l => (match l[i]? with | some a => out o.dst a [] | none => .fail) | _ => .fail
 | .field t x f => typ E t fun i => match fieldsOf E i.kind f, fieldAt i.kind f with
  | some (off, n), some (_, ft) => typ E ft fun j => opnd x fun | .agg l => mkAV j ((l.drop off).take n) .fail fun a => out o.dst a [] | _ => .fail
  | _, _ => .fail
 | .unOp .not _ x => opnd x fun a => asBool a fun b => out o.dst (av (.bool !b)) []
 | .unOp .neg _ x => opnd x fun a => asInt a fun k n => outNum o.dst k (0 - n)
 | .binOp op t x y _ => opnd x fun a => opnd y fun b => binM E t o.dst op a b
 | .convert t0 t x => typ E t0 fun j => typ E t fun i => opnd x fun a => convM E o.dst j i a
 | .nilCheck x => opnd x fun a => match a with
  | .bx _ _ => out o.dst a []
  | .dp _ _ _ _ _ => out o.dst a []
  | .ep _ _ _ => out o.dst a []
  | .cp _ _ => out o.dst a []
  | .clo _ _ => out o.dst a []
  | _ => .fail
 | .makeFunc (.func f) ⟨[]⟩ cs => opnds cs.toList [] fun l => out o.dst (.clo f l) []
 | .makeInterface t x => typ E t fun i => match i.kind with
  | .ptr => opnd x fun a => out o.dst (.ifc t a) []
  | .struct _ => opnd x fun a => out o.dst (.ifc t a) []
  | _ => .fail
 | .makeMap t none => mapTy E t (newMap E.m o.dst)
 | .makeMap t (some y) => mapTy E t (opnd y fun a => asInt a fun _ _ => newMap E.m o.dst)
 | .lookup t y ix false => mapTy E t (opnd y fun a => opnd ix fun b => lookM o.dst a b)
 | .mapUpdate t y ky z => mapTy E t (opnd y fun a => opnd ky fun b => opnd z fun c => updM o.dst a b c)
 | .insert t y ky z => mapTy E t (opnd y fun a => opnd ky fun b => opnd z fun c => updM o.dst a b c)
 | .call { callee := .value f, args := al, .. } => calleeM f fun g cs => opnds al.toList [] fun l => callM E o.dst g (l ++ cs)
 | .call { callee := .invoke x name, args := al, .. } => opnd x fun a => invokeM E o.dst a name al.toList
 | .call { callee := .builtin .len, args := ⟨[x]⟩, argTypes := ⟨[t]⟩ } => typ E t fun i => opnd x fun a => lenM o.dst i a
 | .call { callee := .builtin .copy, args := ⟨[x, y]⟩, argTypes := ⟨[t, _]⟩ } => typ E t fun i => (match i.kind with
  | .slice e => elt E e fun ie => opnd x fun a => opnd y fun b => copyM o.dst e ie a b
  | _ => .fail)
 | .call { callee := .builtin .min, args := ⟨[x, y]⟩, .. } => opnd x fun a => opnd y fun b => minmaxM o.dst true a b
 | .call { callee := .builtin .max, args := ⟨[x, y]⟩, .. } => opnd x fun a => opnd y fun b => minmaxM o.dst false a b
 | .call { callee := .builtin .append, args := ⟨[x, y]⟩, argTypes := ⟨[t, t']⟩ } => bif Nat.beq t t' then typ E t fun i => match i.kind with
  | .slice e => elt E e fun ie => opnd x fun a => opnd y fun b => appSrc e ie b fun rows2 pend => apndM E.m o.dst e ie rows2 pend a
  | _ => .fail
  else .fail
 | _ => .fail
end Ev

namespace Ev
open Go
inductive RVR (P : Program) (w : World) (F : Frs) (ow : Own) (m : Nat) : Nat → RV → Value → Prop where
 | one {k : Nat} {c : C} {v : Value} : OC P w F ow [m, k] c v → RVR P w F ow m k (.one c) v
 | agg {k : Nat} {l : List C} {vs : Array Value} (h : l.length = vs.size) (h2 : ∀ (i : Nat) (c : C) (v : Value), l[i]? = some c → vs[i]? = some v → OC P w F ow [m, k + i] c v) : RVR P w F ow m k (.agg l) (.agg vs)
 | tnil {k : Nat} : RVR P w F ow m k (.tup []) (.tuple #[])
 | tone {k : Nat} {c : C} {l : List RV} {v : Value} {vs : List Value} (h : OC P w F ow [m, k] c v) (h2 : RVR P w F ow m (k + 1) (.tup l) (.tuple vs.toArray)) : RVR P w F ow m k (.tup (.one c :: l)) (.tuple (v :: vs).toArray)
 | tagg {k : Nat} {cs : List C} {l : List RV} {v : Value} {vs : List Value} (h : RVR P w F ow m k (.agg cs) v) (h2 : RVR P w F ow m (k + cs.length) (.tup l) (.tuple vs.toArray)) : RVR P w F ow m k (.tup (.agg cs :: l)) (.tuple (v :: vs).toArray)
 | bx {g : Nat} {cells : List C} (h : ObjR P w F ow m (.blk g) cells) : RVR P w F ow m 0 (.bx cells) (.pointer (some ⟨g, 0, none⟩))
 | ifc {k : Nat} {t : TypeId} {l : List C} {v : Value} (h : RVR P w F ow m k (.agg l) v) : RVR P w F ow m k (.ifc t l) (.iface t v)
def obList (objs : List (List C)) : List Ob := objs.map fun c => ⟨0, 0, some c⟩
def AFnK (P : Program) (f : FuncId) (args : List AV) (objs : List (List C)) (ks : List Nat) (res : RV) (objs' : List (List C)) : Prop :=
 Go.Proofs.Enters P f ∧ ∀ (w : World) (F0 : Frs) (ow0 : Own) (L : Nat → Pl) (vs : List Value),
  CxOk P w F0 ow0 → (∀ k p, ow0 k = some p → k < w.heap.size) →
  (∀ (id : Nat) (cells : List C), objs[id]? = some cells → ObjR P w F0 ow0 id (L id) cells) →
  (∀ (id k : Nat), ks[id]? = some k → k ≠ 0 → ∃ l, L id = .vals l) → args.length = vs.length → (∀ (i : Nat) (a : AV) (v : Value), args[i]? = some a → vs[i]? = some v → AVR P w F0 L (obList objs) a v) →
  Calls P f vs.toArray w fun e w' => ∃ v ow', e = .returned v ∧ Keeps w w' ow0 ∧ (∀ k p, ow' k = some p → k < w'.heap.size ∧ (ow0 k ≠ none ∨ w.heap.size ≤ k)) ∧
   RVR P w' (FF w F0 ow0 w' ow') ow' objs.length 0 res v ∧ objs'.length = objs.length ∧ ∀ (id : Nat) (cells : List C), objs'[id]? = some cells → ObjR P w' (FF w F0 ow0 w' ow') ow' id (L id) cells
def AFn (P : Program) (f : FuncId) (args : List AV) (objs : List (List C)) (res : RV) (objs' : List (List C)) : Prop := AFnK P f args objs (objs.map fun _ => 1) res objs'
abbrev Fp := List Loc × List Loc
inductive Need (p K : Prop) : Prop where
 | mk (h : p) (k : K)
inductive Split (b : Bool) (K : Bool → Prop) : Prop where
 | mk (h : ∀ t, b = t → K t)
inductive Num (i : IntKind) (n : Int) (K : Int → Prop) : Prop where
 | mk (z : Int) (h : i.wrap n = z) (k : K z)
inductive Row (rows : List (List C)) (i : Nat) (K : List C → Prop) : Prop where
 | mk (r : List C) (h : rows[i]? = some r) (k : K r)
inductive Fz (c : C) (K : C → Prop) : Prop where
 | mk (c' : C) (h : Frz c c') (k : K c')
inductive ACall (P : Program) (f : FuncId) (args : List AV) (objs : List (List C)) (ks : List Nat) (K : RV → List (List C) → Prop) : Prop where
 | mk (r : RV) (o : List (List C)) (h : AFnK P f args objs ks r o) (k : K r o)
def getS (l : List (Option AV)) (n : Nat) (K : AV → Prop) : Prop := match l, n with
 | some a :: _, 0 => K a
 | _ :: l, n + 1 => getS l n K
 | _, _ => False
def getB (l : List Ob) (n : Nat) (K : Ob → Prop) : Prop := match l, n with
 | a :: _, 0 => K a
 | _ :: l, n + 1 => getB l n K
 | [], _ => False
def setK {α : Type} (l : List α) (n : Nat) (a : α) (K : List α → Prop) : Prop := match l, n with
 | _ :: l, 0 => K (a :: l)
 | b :: l, n + 1 => setK l n a fun l' => K (b :: l')
 | [], _ => False
def M.run (P : Program) (st : St) : M → List Loc → (Delta → List Loc → Prop) → Prop
 | .ret d, rs, K => K d rs
 | .fail, _, _ => False
 | .slot n k, rs, K => getS st.s n fun a => (k a).run P st (.s n :: rs) K
 | .obj id k, rs, K => getB st.o id fun ob => (k ob).run P st (.o id :: rs) K
 | .head id k, rs, K => getB st.o id fun ob => (k ob.hd).run P st (.h id :: rs) K
 | .need p k, rs, K => Need p (k.run P st rs K)
 | .split b k, rs, K => Split b fun t => (k t).run P st rs K
 | .num i n k, rs, K => Num i n fun z => (k z).run P st rs K
 | .row rows i k, rs, K => Row rows i fun r => (k r).run P st rs K
 | .frz c k, rs, K => Fz c fun c' => (k c').run P st rs K
 | .call f args objs ks k, rs, K => ACall P f args objs ks fun r o => (k r o).run P st rs K
def setsK {α : Type} : List (Nat × α) → List α → (List α → Prop) → Prop
 | [], l, K => K l
 | (n, a) :: w, l, K => setsK w l fun l' => setK l' n a K
def forceL {α : Type} : List α → (List α → Prop) → Prop
 | [], K => K []
 | a :: l, K => forceL l fun l' => K (a :: l')
def forceA (a : Option AV) (K : Option AV → Prop) : Prop := match a with
 | some (.agg l) => forceL l fun l' => K (some (.agg l'))
 | some (.cp l o) => forceL l fun l' => K (some (.cp l' o))
 | some a => K (some a)
 | none => K none
def forceB (b : Ob) (K : Ob → Prop) : Prop := match b.cells with
 | some cs => forceL cs fun cs' => K ⟨b.g, b.kind, some cs'⟩
 | none => K ⟨b.g, b.kind, none⟩
def setsA : List (Nat × Option AV) → List (Option AV) → (List (Option AV) → Prop) → Prop
 | [], l, K => K l
 | (n, a) :: w, l, K => forceA a fun a' => setsA w l fun l' => setK l' n a' K
def setsB : List (Nat × Ob) → List Ob → (List Ob → Prop) → Prop
 | [], l, K => K l
 | (n, a) :: w, l, K => forceB a fun a' => setsB w l fun l' => setK l' n a' K
def setElem (off i : Nat) (r : List C) (b : Ob) : Ob := match b.cells with
 | some cs => (match cs[off]? with
  | some (.us e rows) => { b with cells := some (cs.set off (.us e (rows.set i r))) }
  | _ => b)
 | none => b
def updK (l : List Ob) (n : Nat) (f : Ob → Ob) (K : List Ob → Prop) : Prop := match l, n with
 | b :: l, 0 => forceB (f b) fun b' => K (b' :: l)
 | b :: l, n + 1 => updK l n f fun l' => K (b :: l')
 | [], _ => False
def setsC : List (Nat × Nat × Nat × List C) → List Ob → (List Ob → Prop) → Prop
 | [], l, K => K l
 | (id, off, i, r) :: w, l, K => forceL r fun r' => setsC w l fun l' => updK l' id (setElem off i r') K
def upd (l : List Ob) (n : Nat) (f : Ob → Ob) : List Ob := match l[n]? with
 | some b => l.set n (f b)
 | none => l
def applyC (w : List (Nat × Nat × Nat × List C)) (l : List Ob) : List Ob := w.foldr (fun p l => upd l p.1 (setElem p.2.1 p.2.2.1 p.2.2.2)) l
theorem forceL_eq {α : Type} : ∀ (l : List α) (K : List α → Prop), forceL l K = K l := by
 intro l
 induction l with
 | nil => intro K; rfl
 | cons a l ih => intro K; exact ih _
theorem forceA_eq (a : Option AV) (K : Option AV → Prop) : forceA a K = K a := by
 unfold forceA
 split
 ·exact forceL_eq _ _
 ·exact forceL_eq _ _
 ·rfl
 ·rfl
theorem forceB_eq (b : Ob) (K : Ob → Prop) : forceB b K = K b := by
 unfold forceB
 split
 ·rename_i cs h
  rw [forceL_eq]; cases b; simp only at h; subst h; rfl
 ·rename_i h
  cases b; simp only at h; subst h; rfl
theorem updK_iff {l : List Ob} {n : Nat} {f : Ob → Ob} {K : List Ob → Prop} (h : updK l n f K) : n < l.length ∧ K (upd l n f) := by
 induction l generalizing n K with
 | nil => simp [updK] at h
 | cons b l ih =>
  cases n with
  | zero => exact ⟨by simp, by simpa [updK, forceB_eq, upd] using h⟩
  | succ n =>
   obtain ⟨h1, h2⟩ := ih (n := n) (K := fun l' => K (b :: l')) h
   refine ⟨by simpa using h1, ?_⟩
   have : upd (b :: l) (n + 1) f = b :: upd l n f := by
    simp only [upd, List.getElem?_cons_succ]
    cases l[n]? <;> rfl
   rw [this]; exact h2
theorem setsC_iff : ∀ {w : List (Nat × Nat × Nat × List C)} {l : List Ob} {K : List Ob → Prop}, setsC w l K → K (applyC w l) := by
 intro w
 induction w with
 | nil => intro l K h; exact h
 | cons p w ih =>
  intro l K h
  obtain ⟨id, off, i, r⟩ := p
  simp only [setsC, forceL_eq] at h
  exact (updK_iff (ih h)).2
theorem setsA_eq : ∀ (w : List (Nat × Option AV)) (l : List (Option AV)) (K : List (Option AV) → Prop), setsA w l K = setsK w l K := by
 intro w
 induction w with
 | nil => intro l K; rfl
 | cons p w ih => intro l K; obtain ⟨n, a⟩ := p; simp only [setsA, setsK, forceA_eq, ih]
theorem setsB_eq : ∀ (w : List (Nat × Ob)) (l : List Ob) (K : List Ob → Prop), setsB w l K = setsK w l K := by
 intro w
 induction w with
 | nil => intro l K; rfl
 | cons p w ih => intro l K; obtain ⟨n, a⟩ := p; simp only [setsB, setsK, forceB_eq, ih]
def M.go (P : Program) (m : M) (st : St) (K : St → Prop) : Prop :=
 m.run P st [] fun d _ => setsA d.s st.s fun s => setsB d.o st.o fun o => setsC d.c o fun o => K ⟨s, o⟩
def skipM (d : Option Tmp) : M := match d with
 | some d => .ret ⟨[(d, some (.tup []))], [], []⟩
 | none => .ret ⟨[], [], []⟩
def operM (E : Env) (ops : Array Oper) (o : Oper) : M := match o.guard with
 | none => opM E o
 | some (j, want) => match (ops[j]?).bind (·.dst) with
  | some t => .slot t fun a => match a with
   | .tup [] => skipM o.dst
   | a => asBool a fun b => bif b == want then opM E o else skipM o.dst
  | none => .fail
def runOps (E : Env) (ops : Array Oper) : List Oper → St → (St → Prop) → Prop
 | [], st, K => K st
 | o :: os, st, K => (operM E ops o).go E.P st fun st' => runOps E ops os st' K
def locsOf (d : Delta) : List Loc := d.s.map (fun x => .s x.1) ++ d.o.map (fun x => .o x.1) ++ d.o.map (fun x => .h x.1) ++ d.c.map (fun x => .o x.1)
def locMem : List Loc → Loc → Bool
 | .s i :: l, .s j => Nat.beq i j || locMem l (.s j)
 | .o i :: l, .o j => Nat.beq i j || locMem l (.o j)
 | .h i :: l, .h j => Nat.beq i j || locMem l (.h j)
 | _ :: l, x => locMem l x
 | [], _ => false
def locsMeet : List Loc → List Loc → Bool
 | [], _ => false
 | x :: l, m => locMem m x || locsMeet l m
def indep (f g : Fp) : Bool := !locsMeet f.2 g.1 && !locsMeet f.2 g.2 && !locsMeet g.2 f.1
def bindsAny (e : Edge) : Bool := match e.ground with
 | .textOnly _ => false
 | .gcOnly _ => false
 | _ => true
def hasEdge (o : Oper) (i : Nat) : Bool := o.after.toList.any fun e => Nat.beq e.on i && bindsAny e
def reach (all : List (Oper × Fp)) : Nat → Oper → Nat → Bool
 | 0, _, _ => false
 | n + 1, o, i => hasEdge o i || o.after.toList.any fun e => bindsAny e && match all[e.on]? with
  | some p => reach all n p.1 i
  | none => false
def indepFrom (all : List (Oper × Fp)) (i : Nat) (f : Fp) : List (Oper × Fp) → Bool
 | [] => true
 | (o, g) :: l => (hasEdge o i || (indep f g || reach all 8 o i)) && indepFrom all i f l
def edgesOk (i : Nat) (o : Oper) : Bool := o.after.toList.all fun e => !bindsAny e || Nat.blt e.on i
def indepAll1 (all : List (Oper × Fp)) : Nat → List (Oper × Fp) → Bool
 | _, [] => true
 | i, (o, f) :: l => edgesOk i o && indepFrom all i f l && indepAll1 all (i + 1) l
def indepAll (l : List (Oper × Fp)) : Bool := indepAll1 l 0 l
def runDraw (E : Env) (ops : Array Oper) : List Oper → List (Oper × Fp) → St → (St → Prop) → Prop
 | [], tr, st, K => Need (indepAll tr.reverse = true) (K st)
 | o :: os, tr, st, K => (operM E ops o).run E.P st [] fun d rs => setsA d.s st.s fun s => setsB d.o st.o fun ob0 => setsC d.c ob0 fun ob => runDraw E ops os ((o, (rs, locsOf d)) :: tr) ⟨s, ob⟩ K
inductive ALoop (body : St → (Exit → St → Prop) → Prop) (weak : St → St → Prop) (st : St) (K : Exit → St → Prop) : Prop where
 | mk (I : Nat → St → Prop) (h0 : ∃ n st0, weak st st0 ∧ I n st0)
   (round : ∀ n s, I n s → body s fun e s' => match e with | .normal => ∃ n' s'', n' < n ∧ weak s' s'' ∧ I n' s'' | e => K e s')
def Weak (P : Program) (m : Nat) (st st' : St) : Prop := ∀ (x : Cx) (a : Act) (w : World) (L : Nat → Pl) (ow : Own), x.m = m → Rel P x st a w L ow → ∃ L' ow', Rel P x st' a w L' ow'
def ev (E : Env) : Code → St → (Exit → St → Prop) → Prop
 | .skip, st, K => K .normal st
 | .region _ ops false, st, K => runOps E ops ops.toList st fun st' => K .normal st'
 | .region _ ops true, st, K => runDraw E ops ops.toList [] st fun st' => K .normal st'
 | .seq a b, st, K => ev E a st fun e st' => match e with | .normal => ev E b st' K | e => K e st'
 | .cond c a b, st, K => (opnd c fun x => asBool x fun t => out (some 0) (av (.bool t)) []).run E.P st [] fun d _ => match d.s with
  | [(_, some (.one (.c (.v (.bool t)))))] => bif t then ev E a st K else ev E b st K
  | _ => False
 | .block id c, st, K => ev E c st fun e st' => match e with
  | .exit id' => bif Nat.beq id' id then K .normal st' else K (.exit id') st'
  | e => K e st'
 | .loop c, st, K => ALoop (ev E c) (Weak E.P E.m) st K
 | .exit id, st, K => K (.exit id) st
 | .ret, st, K => K .ret st
 | _, _, _ => False
end Ev

namespace Ev
open Go
inductive Runs (P : Program) (st : St) : M → List Loc → Delta → Prop where
 | ret {d : Delta} : Runs P st (.ret d) [] d
 | slot {n : Nat} {k : AV → M} {a : AV} {rs : List Loc} {d : Delta} (h : st.s[n]? = some (some a)) (h2 : Runs P st (k a) rs d) : Runs P st (.slot n k) (.s n :: rs) d
 | obj {id : Nat} {k : Ob → M} {a : Ob} {rs : List Loc} {d : Delta} (h : st.o[id]? = some a) (h2 : Runs P st (k a) rs d) : Runs P st (.obj id k) (.o id :: rs) d
 | head {id : Nat} {k : Hd → M} {a : Ob} {rs : List Loc} {d : Delta} (h : st.o[id]? = some a) (h2 : Runs P st (k a.hd) rs d) : Runs P st (.head id k) (.h id :: rs) d
 | need {p : Prop} {k : M} {rs : List Loc} {d : Delta} (h : p) (h2 : Runs P st k rs d) : Runs P st (.need p k) rs d
 | split {b : Bool} {k : Bool → M} {rs : List Loc} {d : Delta} (h2 : Runs P st (k b) rs d) : Runs P st (.split b k) rs d
 | num {i : IntKind} {n : Int} {k : Int → M} {rs : List Loc} {d : Delta} (h2 : Runs P st (k (i.wrap n)) rs d) : Runs P st (.num i n k) rs d
 | row {rows : List (List C)} {i : Nat} {k : List C → M} {r : List C} {rs : List Loc} {d : Delta} (h : rows[i]? = some r) (h2 : Runs P st (k r) rs d) : Runs P st (.row rows i k) rs d
 | frz {c c' : C} {k : C → M} {rs : List Loc} {d : Delta} (h : Frz c c') (h2 : Runs P st (k c') rs d) : Runs P st (.frz c k) rs d
 | call {f : FuncId} {args : List AV} {objs o : List (List C)} {ks : List Nat} {r : RV} {k : RV → List (List C) → M} {rs : List Loc} {d : Delta} (h : AFnK P f args objs ks r o) (h2 : Runs P st (k r o) rs d) : Runs P st (.call f args objs ks k) rs d
theorem getS_iff {l : List (Option AV)} {n : Nat} {K : AV → Prop} (h : getS l n K) : ∃ a, l[n]? = some (some a) ∧ K a := by
 induction l generalizing n with
 | nil => cases n <;> simp [getS] at h
 | cons b l ih =>
  cases n with
  | zero => cases b with
   | none => simp [getS] at h
   | some a => exact ⟨a, rfl, h⟩
  | succ n =>
   have h' : getS l n K := by cases b <;> simpa [getS] using h
   obtain ⟨a, h1, h2⟩ := ih h'
   exact ⟨a, by simpa using h1, h2⟩
theorem getB_iff {l : List Ob} {n : Nat} {K : Ob → Prop} (h : getB l n K) : ∃ a, l[n]? = some a ∧ K a := by
 induction l generalizing n with
 | nil => simp [getB] at h
 | cons b l ih =>
  cases n with
  | zero => exact ⟨b, rfl, h⟩
  | succ n =>
   obtain ⟨a, h1, h2⟩ := ih h
   exact ⟨a, by simpa using h1, h2⟩
theorem setK_iff {α : Type} {l : List α} {n : Nat} {a : α} {K : List α → Prop} (h : setK l n a K) : n < l.length ∧ K (l.set n a) := by
 induction l generalizing n K with
 | nil => simp [setK] at h
 | cons b l ih =>
  cases n with
  | zero => exact ⟨by simp, h⟩
  | succ n =>
   obtain ⟨h1, h2⟩ := ih h
   exact ⟨by simpa using h1, by simpa using h2⟩
def applyS {α : Type} (w : List (Nat × α)) (l : List α) : List α := w.foldr (fun p l => l.set p.1 p.2) l
theorem length_applyS {α : Type} (w : List (Nat × α)) (l : List α) : (applyS w l).length = l.length := by
 induction w with
 | nil => rfl
 | cons p w ih => simp only [applyS, List.foldr_cons, List.length_set] at *; exact ih
theorem setsK_iff {α : Type} {w : List (Nat × α)} {l : List α} {K : List α → Prop} (h : setsK w l K) : (∀ p ∈ w, p.1 < l.length) ∧ K (applyS w l) := by
  induction w generalizing K with
  | nil => exact ⟨by simp, h⟩
  | cons p w ih =>
    obtain ⟨h1, h2⟩ := ih h
    obtain ⟨h3, h4⟩ := setK_iff h2
    rw [length_applyS] at h3
    exact ⟨fun q hq => by rcases List.mem_cons.1 hq with hq | hq; · subst hq; exact h3
                          · exact h1 q hq, h4⟩
theorem run_runs {P : Program} {st : St} {m : M} : ∀ {acc : List Loc} {K : Delta → List Loc → Prop}, m.run P st acc K → ∃ d rs, Runs P st m rs d ∧ K d (rs.reverse ++ acc) := by
 induction m with
 | ret d => exact fun h => ⟨d, [], .ret, h⟩
 | fail => exact fun h => h.elim
 | slot n k ih =>
  intro acc K h
  obtain ⟨a, h1, h2⟩ := getS_iff h
  obtain ⟨d, rs, h3, h4⟩ := ih a h2
  exact ⟨d, _, .slot h1 h3, by simpa using h4⟩
 | obj n k ih =>
  intro acc K h
  obtain ⟨a, h1, h2⟩ := getB_iff h
  obtain ⟨d, rs, h3, h4⟩ := ih a h2
  exact ⟨d, _, .obj h1 h3, by simpa using h4⟩
 | head n k ih =>
  intro acc K h
  obtain ⟨a, h1, h2⟩ := getB_iff h
  obtain ⟨d, rs, h3, h4⟩ := ih a.hd h2
  exact ⟨d, _, .head h1 h3, by simpa using h4⟩
 | need p k ih =>
  intro acc K h
  cases h with
  | mk hp h => obtain ⟨d, rs, h3, h4⟩ := ih h; exact ⟨d, rs, .need hp h3, h4⟩
 | split b k ih =>
  intro acc K h
  cases h with
  | mk h => obtain ⟨d, rs, h3, h4⟩ := ih b (h b rfl); exact ⟨d, rs, .split h3, h4⟩
 | num i n k ih =>
  intro acc K h
  cases h with
  | mk z hz h => subst hz; obtain ⟨d, rs, h3, h4⟩ := ih _ h; exact ⟨d, rs, .num h3, h4⟩
 | row rows i k ih =>
  intro acc K h
  cases h with
  | mk r hr h => obtain ⟨d, rs, h3, h4⟩ := ih _ h; exact ⟨d, rs, .row hr h3, h4⟩
 | frz c k ih =>
  intro acc K h
  cases h with
  | mk r hr h => obtain ⟨d, rs, h3, h4⟩ := ih _ h; exact ⟨d, rs, .frz hr h3, h4⟩
 | call f args objs ks k ih =>
  intro acc K h
  cases h with
  | mk r o hr h => obtain ⟨d, rs, h3, h4⟩ := ih _ _ h; exact ⟨d, rs, .call hr h3, h4⟩
theorem Runs.local_ {P : Program} {st st2 : St} {m : M} {rs : List Loc} {d : Delta} (h : Runs P st m rs d) (hs : ∀ n, Loc.s n ∈ rs → st2.s[n]? = st.s[n]?) (ho : ∀ n, Loc.o n ∈ rs → st2.o[n]? = st.o[n]?) (hh : ∀ n, Loc.h n ∈ rs → (st2.o[n]?).map Ob.hd = (st.o[n]?).map Ob.hd) : Runs P st2 m rs d := by
 induction h with
 | ret => exact .ret
 | slot h _ ih => exact .slot ((hs _ (by simp)).trans h) (ih (fun n hn => hs n (by simp [hn])) (fun n hn => ho n (by simp [hn])) fun n hn => hh n (by simp [hn]))
 | obj h _ ih => exact .obj ((ho _ (by simp)).trans h) (ih (fun n hn => hs n (by simp [hn])) (fun n hn => ho n (by simp [hn])) fun n hn => hh n (by simp [hn]))
 | @head id k a rs d h _ ih =>
  have h1 := hh id (by simp)
  rw [h] at h1
  cases hb : st2.o[id]? with
  | none => rw [hb] at h1; cases h1
  | some b =>
   rw [hb] at h1
   have h1 : b.hd = a.hd := by simpa using h1
   refine .head hb ?_
   rw [h1]
   exact ih (fun n hn => hs n (by simp [hn])) (fun n hn => ho n (by simp [hn])) fun n hn => hh n (by simp [hn])
 | need h _ ih => exact .need h (ih hs ho hh)
 | split _ ih => exact .split (ih hs ho hh)
 | num _ ih => exact .num (ih hs ho hh)
 | row h _ ih => exact .row h (ih hs ho hh)
 | frz h _ ih => exact .frz h (ih hs ho hh)
 | call h _ ih => exact .call h (ih hs ho hh)
def St.app (st : St) (d : Delta) : St := ⟨applyS d.s st.s, applyC d.c (applyS d.o st.o)⟩
structure Step (E : Env) (ops : Array Oper) (o : Oper) (st : St) (fp : Fp) (st' : St) : Prop where
 run : ∃ d, Runs E.P st (operM E ops o) fp.1 d ∧ (∀ p ∈ d.s, p.1 < st.s.length) ∧ (∀ p ∈ d.o, p.1 < st.o.length) ∧ fp.2 = locsOf d ∧ st' = st.app d
end Ev

namespace Ev
open Go
structure OkTI (P : Program) (t : TypeId) (i : TI) : Prop where
 info : ∃ inf z, P.info? t = some inf ∧ inf.size = i.size ∧ inf.bytes = i.bytes ∧ inf.zero = some z ∧ z.cells.toList = i.zero ∧ (i.agg = false → z.cells = #[z])
 zlen : i.zero.length = i.size
 zone : ∀ v ∈ i.zero, v.oneCell' = true
 ckOk : ∀ e, some e ∈ i.ck → 0 < P.cellsOf e
 under : ∃ d, P.underlying t = some d ∧ (i.agg = true ↔ ((∃ fs, d = .struct fs) ∨ (∃ n e, d = .array n e))) ∧ (i.agg = false → i.size = 1) ∧ match i.kind with
  | .other => True
  | .str => d = .string
  | .slice e => d = .slice e
  | .array n e => d = .array n e
  | .int k => d = .int k
  | .bool => d = .bool
  | .ptr => ∃ e, d = .pointer e
  | .map k e => d = .map k e
  | .struct fs => ∃ fields, d = .struct fields ∧ fs.length = fields.size ∧ ∀ (k off : Nat) (ft : TypeId), fs[k]? = some (off, ft) → ∃ f, fields[k]? = some f ∧ f.offset = off ∧ f.type = ft ∧ P.cellsOf ft ≠ 0
def ckDesc : CK → TypeDesc
 | .int k => .int k
 | .str => .string
 | .bool => .bool
structure OkCmp (P : Program) (t : TypeId) (ks : List CK) : Prop where
 under : ∃ fields, P.underlying t = some (.struct fields) ∧ fields.size = ks.length ∧ ∀ (k : Nat) (f : Field) (c : CK), fields[k]? = some f → ks[k]? = some c → f.name ≠ "_" ∧ f.offset = k ∧ P.underlying f.type = some (ckDesc c)
 held : P.stoodInHeld t = false
 guard : P.eqGuardType P.depth t = false
def TOk (E : Env) : Prop := ∀ t i, E.T t = some i → OkTI E.P t i ∧ ∀ ks, i.cmp = some ks → OkCmp E.P t ks
theorem OkTI.cells {P : Program} {t : TypeId} {i : TI} (h : OkTI P t i) : P.cellsOf t = i.size := by
 obtain ⟨inf, z, h1, h2, _⟩ := h.info
 simp [Program.cellsOf, h1, h2]
section
variable {E : Env} {x : Cx} {st : St} {a : Act} {w w' : World} {L L' : Nat → Pl} {ow ow' : Own} {rs : List Loc} {d : Delta} {o : Oper}
theorem avr_one_v {P : Program} {F : Frs} {ob : List Ob} {v u : Value} (h : AVR P w F L ob (.one (.c (.v v))) u) : u = v := by
 cases h with
 | one h => cases h with
  | c h => cases h; rfl
theorem avr_v {P : Program} {F : Frs} {ob : List Ob} {v : Value} (h : v.oneCell' = true) : AVR P w F L ob (av v) v := .one (.c (.v h))
theorem opnd_runs {xo : Operand} {k : AV → M} (h : Rel E.P x st a w L ow) (hr : Runs E.P st (opnd xo k) rs d) : ∃ b rs', Runs E.P st (k b) rs' d ∧ AVR E.P w (x.F w ow) L st.o b (a.eval xo) := by
 cases xo with
 | tmp t =>
  cases hr with
  | slot h1 h2 =>
   obtain ⟨v, h3, h4⟩ := h.slots t _ h1
   exact ⟨_, _, h2, by simpa [Act.eval, Array.getD_eq_getD_getElem?, h3] using h4⟩
 | const v =>
  simp only [opnd] at hr
  split at hr
  ·rename_i b hb
   have : b = av v ∧ v.oneCell' = true := by cases v <;> simp [constAV] at hb <;> exact ⟨hb.symm, rfl⟩
   obtain ⟨rfl, hv⟩ := this
   exact ⟨_, _, hr, avr_v hv⟩
  ·cases hr
 | func f => exact ⟨_, _, hr, .one (.c (.v rfl))⟩
 | global g => cases hr
theorem opnds_runs {xs : List Operand} : ∀ {acc : List AV} {k : List AV → M}, (h : Rel E.P x st a w L ow) → Runs E.P st (opnds xs acc k) rs d → ∃ bs rs', Runs E.P st (k (acc.reverse ++ bs)) rs' d ∧ bs.length = xs.length ∧
  ∀ (i : Nat) (b : AV) (v : Value), bs[i]? = some b → (xs.map a.eval)[i]? = some v → AVR E.P w (x.F w ow) L st.o b v := by
 induction xs generalizing rs with
 | nil => exact fun h hr => ⟨[], _, by simpa [opnds] using hr, rfl, by simp⟩
 | cons xo xs ih =>
  intro acc k h hr
  obtain ⟨b, rs', h1, h2⟩ := opnd_runs h hr
  obtain ⟨bs, rs2, h3, h4, h5⟩ := ih h h1
  refine ⟨b :: bs, rs2, by simpa using h3, by simp [h4], fun i c v hc hv => ?_⟩
  cases i with
  | zero => simp at hc hv; subst hc; subst hv; exact h2
  | succ i => exact h5 i c v (by simpa using hc) (by simpa using hv)
theorem asInt_runs {P : Program} {F : Frs} {ob : List Ob} {b : AV} {k : IntKind → Int → M} {v : Value} (hr : Runs P st (asInt b k) rs d) (hv : AVR P w F L ob b v) : ∃ i n, v = .int i n ∧ b = av (.int i n) ∧ Runs P st (k i n) rs d := by
 unfold asInt at hr
 split at hr
 ·exact ⟨_, _, avr_one_v hv, rfl, hr⟩
 ·cases hr
theorem asBool_runs {P : Program} {F : Frs} {ob : List Ob} {b : AV} {k : Bool → M} {v : Value} (hr : Runs P st (asBool b k) rs d) (hv : AVR P w F L ob b v) : ∃ n, v = .bool n ∧ b = av (.bool n) ∧ Runs P st (k n) rs d := by
 unfold asBool at hr
 split at hr
 ·exact ⟨_, avr_one_v hv, rfl, hr⟩
 ·cases hr
theorem typ_runs {t : TypeId} {k : TI → M} (hT : TOk E) (hr : Runs E.P st (typ E t k) rs d) : ∃ i, OkTI E.P t i ∧ (∀ ks, i.cmp = some ks → OkCmp E.P t ks) ∧ Runs E.P st (k i) rs d := by
 unfold typ at hr
 split at hr
 ·exact ⟨_, (hT _ _ (by assumption)).1, (hT _ _ (by assumption)).2, hr⟩
 ·cases hr
theorem elt_runs {t : TypeId} {k : TI → M} (hT : TOk E) (hr : Runs E.P st (elt E t k) rs d) : ∃ i, OkTI E.P t i ∧ 0 < i.size ∧ Runs E.P st (k i) rs d := by
 unfold elt at hr
 obtain ⟨i, hi, _, h1⟩ := typ_runs hT hr
 generalize hb : Nat.blt 0 i.size = b at h1
 cases b with
 | false => cases h1
 | true => exact ⟨i, hi, Nat.le_of_ble_eq_true hb, h1⟩
def Good (E : Env) (x : Cx) (st' : St) (next : Act → World → Prop) : Prop := ∀ a' w' L' ow', Rel E.P x st' a' w' L' ow' → next a' w'
theorem wp_value {next : Act → World → Prop} {Q : Exit → Act → World → Prop} {v : Value} (hr : (execOp a.eval o).run E.P w = .ok (.value v) w') (hn : next (a.put o.dst v) w') : o.wp E.P a w next Q := by
 unfold Oper.wp; rw [hr]; exact hn
theorem fin {next : Act → World → Prop} {Q : Exit → Act → World → Prop} {b : AV} {v : Value} (h : Rel E.P x st a w L ow) (hd : Runs E.P st (out o.dst b []) rs d) (hl : ∀ p ∈ d.s, p.1 < st.s.length)
  (hv : AVR E.P w (x.F w ow) L st.o b v) (hr : (execOp a.eval o).run E.P w = .ok (.value v) w) (hn : Good E x (st.app d) next) : o.wp E.P a w next Q := by
 refine wp_value hr ?_
 cases hdst : o.dst with
 | none =>
  rw [hdst] at hd; cases hd
  exact hn _ _ _ _ h
 | some dd =>
  rw [hdst] at hd; cases hd
  exact hn _ _ _ _ (h.put (by rw [← h.len]; exact hl _ (by simp)) hv)
theorem finB {next : Act → World → Prop} {Q : Exit → Act → World → Prop} {b : Bool} (h : Rel E.P x st a w L ow) (hd : Runs E.P st (splitB o.dst b) rs d) (hl : ∀ p ∈ d.s, p.1 < st.s.length)
  (hr : (execOp a.eval o).run E.P w = .ok (.value (.bool b)) w) (hn : Good E x (st.app d) next) : o.wp E.P a w next Q := by
 cases hd with
 | split hd => exact fin h hd hl (avr_v rfl) hr hn
theorem finN {next : Act → World → Prop} {Q : Exit → Act → World → Prop} {k : IntKind} {n : Int} (h : Rel E.P x st a w L ow) (hd : Runs E.P st (outNum o.dst k n) rs d) (hl : ∀ p ∈ d.s, p.1 < st.s.length)
  (hr : (execOp a.eval o).run E.P w = .ok (.value (.int k (k.wrap n))) w) (hn : Good E x (st.app d) next) : o.wp E.P a w next Q := by
 cases hd with
 | num hd => exact fin h hd hl (avr_v rfl) hr hn
theorem sound_move {next : Act → World → Prop} {Q : Exit → Act → World → Prop} {xo : Operand} (h : Rel E.P x st a w L ow) (ho : o.op = .move xo ∨ o.op = .assign xo) (hr : Runs E.P st (opnd xo fun b => out o.dst b []) rs d) (hl : ∀ p ∈ d.s, p.1 < st.s.length) (hn : Good E x (st.app d) next) : o.wp E.P a w next Q := by
 obtain ⟨b, rs', h1, h2⟩ := opnd_runs h hr
 refine fin h h1 hl h2 ?_ hn
 rcases ho with ho | ho <;> simp [execOp, ho]
theorem sound_pick {next : Act → World → Prop} {Q : Exit → Act → World → Prop} {c y z : Operand} (h : Rel E.P x st a w L ow) (ho : o.op = .pick c y z)
  (hr : Runs E.P st (opnd c fun cv => asBool cv fun t => bif t then opnd y fun v => out o.dst v [] else opnd z fun v => out o.dst v []) rs d) (hl : ∀ p ∈ d.s, p.1 < st.s.length) (hn : Good E x (st.app d) next) : o.wp E.P a w next Q := by
 obtain ⟨b, rs', h1, h2⟩ := opnd_runs h hr
 obtain ⟨t, hv, rfl, h3⟩ := asBool_runs h1 h2
 cases t with
 | true =>
  obtain ⟨b, rs2, h4, h5⟩ := opnd_runs h h3
  exact fin h h4 hl h5 (by simp [execOp, ho, hv, Go.asBool]) hn
 | false =>
  obtain ⟨b, rs2, h4, h5⟩ := opnd_runs h h3
  exact fin h h4 hl h5 (by simp [execOp, ho, hv, Go.asBool]) hn
theorem sound_not {next : Act → World → Prop} {Q : Exit → Act → World → Prop} {t : TypeId} {y : Operand} (h : Rel E.P x st a w L ow) (ho : o.op = .unOp .not t y)
  (hr : Runs E.P st (opnd y fun b => asBool b fun b => out o.dst (av (.bool !b)) []) rs d) (hl : ∀ p ∈ d.s, p.1 < st.s.length) (hn : Good E x (st.app d) next) : o.wp E.P a w next Q := by
 obtain ⟨b, rs', h1, h2⟩ := opnd_runs h hr
 obtain ⟨t, hv, rfl, h3⟩ := asBool_runs h1 h2
 exact fin h h3 hl (avr_v rfl) (by simp [execOp, ho, hv, Op.unary]) hn
theorem sound_neg {next : Act → World → Prop} {Q : Exit → Act → World → Prop} {t : TypeId} {y : Operand} (h : Rel E.P x st a w L ow) (ho : o.op = .unOp .neg t y)
  (hr : Runs E.P st (opnd y fun b => asInt b fun k n => outNum o.dst k (0 - n)) rs d) (hl : ∀ p ∈ d.s, p.1 < st.s.length) (hn : Good E x (st.app d) next) : o.wp E.P a w next Q := by
 obtain ⟨b, rs', h1, h2⟩ := opnd_runs h hr
 obtain ⟨k, n, hv, rfl, h3⟩ := asInt_runs h1 h2
 exact finN h h3 hl (by simp [execOp, ho, hv, Op.unary, Op.intArith]) hn
theorem eqGuard_int {op : BinOp} {t : TypeId} {y z : Operand} {k k' : IntKind} {m n : Int} : (eqGuard op t y z (.int k m) (.int k' n)).run E.P w = .ok () w := by
 unfold eqGuard
 cases op <;> rfl
theorem run_binOp_eq {op : BinOp} {t t' : TypeId} {y z : Operand} {u v : Value} (ho : o.op = .binOp op t y z t') (hy : a.eval y = u) (hz : a.eval z = v) (hg : (eqGuard op t y z u v).run E.P w = .ok () w) {r : Value} (hb : (binOp op t u v).run E.P w = .ok r w) :
  (execOp a.eval o).run E.P w = .ok (.value r) w := by
 simp [execOp, ho, hy, hz, hg, hb]
theorem sound_int {next : Act → World → Prop} {Q : Exit → Act → World → Prop} {op : BinOp} {t t' : TypeId} {y z : Operand} {k : IntKind} {m n : Int} (h : Rel E.P x st a w L ow) (ho : o.op = .binOp op t y z t') (hy : a.eval y = .int k m) (hz : a.eval z = .int k n) (hs : op ≠ .shl ∧ op ≠ .shr)
  (hr : Runs E.P st (intOp o.dst op k m n) rs d) (hl : ∀ p ∈ d.s, p.1 < st.s.length) (hn : Good E x (st.app d) next) : o.wp E.P a w next Q := by
 have key : ∀ r, (binOp op t (.int k m) (.int k n)).run E.P w = .ok r w → (execOp a.eval o).run E.P w = .ok (.value r) w := fun r hb => run_binOp_eq ho hy hz eqGuard_int hb
 cases op with
 | add => exact finN h hr hl (key _ (by simp [binOp, Op.intArith])) hn
 | sub => exact finN h hr hl (key _ (by simp [binOp, Op.intArith])) hn
 | mul => exact finN h hr hl (key _ (by simp [binOp, Op.intArith])) hn
 | quo => cases hr with
  | need h0 hr => exact finN h hr hl (key _ (by simp [binOp, Op.intDiv, h0])) hn
 | rem => cases hr with
  | need h0 hr => exact fin h hr hl (avr_v rfl) (key _ (by simp [binOp, Op.intDiv, h0])) hn
 | and => exact fin h hr hl (avr_v rfl) (key _ (by simp [binOp, Op.intBits])) hn
 | or => exact fin h hr hl (avr_v rfl) (key _ (by simp [binOp, Op.intBits])) hn
 | xor => exact fin h hr hl (avr_v rfl) (key _ (by simp [binOp, Op.intBits])) hn
 | shl => exact absurd rfl hs.1
 | shr => exact absurd rfl hs.2
 | andNot => cases hr
 | eql => exact finB h hr hl (key _ (by simp [binOp, Op.intCmp])) hn
 | neq => exact finB h hr hl (key _ (by simp [binOp, Op.intCmp])) hn
 | lss => exact finB h hr hl (key _ (by simp [binOp, Op.intCmp])) hn
 | leq => exact finB h hr hl (key _ (by simp [binOp, Op.intCmp])) hn
 | gtr => exact finB h hr hl (key _ (by simp [binOp, Op.intCmp])) hn
 | geq => exact finB h hr hl (key _ (by simp [binOp, Op.intCmp])) hn
theorem sound_str {next : Act → World → Prop} {Q : Exit → Act → World → Prop} {op : BinOp} {t t' : TypeId} {y z : Operand} {m n : ByteArray} (h : Rel E.P x st a w L ow) (ho : o.op = .binOp op t y z t') (hy : a.eval y = .string m) (hz : a.eval z = .string n)
  (hr : Runs E.P st (strOp o.dst op m n) rs d) (hl : ∀ p ∈ d.s, p.1 < st.s.length) (hn : Good E x (st.app d) next) : o.wp E.P a w next Q := by
 have hg : (eqGuard op t y z (.string m) (.string n)).run E.P w = .ok () w := by unfold eqGuard; cases op <;> rfl
 have key : ∀ r, (binOp op t (.string m) (.string n)).run E.P w = .ok r w → (execOp a.eval o).run E.P w = .ok (.value r) w := fun r hb => run_binOp_eq ho hy hz hg hb
 cases op with
 | add => cases hr with
  | need h0 hr => exact fin h hr hl (avr_v rfl) (key _ (by simp only [binOp, Op.stringOp]; rw [if_neg (by omega)]; rfl)) hn
 | eql => exact finB h hr hl (key _ (by simp [binOp, Op.stringOp])) hn
 | neq => exact finB h hr hl (key _ (by simp [binOp, Op.stringOp])) hn
 | lss => exact finB h hr hl (key _ (by simp [binOp, Op.stringOp])) hn
 | leq => exact finB h hr hl (key _ (by simp [binOp, Op.stringOp])) hn
 | gtr => exact finB h hr hl (key _ (by simp [binOp, Op.stringOp])) hn
 | geq => exact finB h hr hl (key _ (by simp [binOp, Op.stringOp])) hn
 | _ => cases hr
end
end Ev

namespace Ev
open Go
section
variable {E : Env} {x : Cx} {st : St} {a : Act} {w w' : World} {L L' : Nat → Pl} {ow ow' : Own} {rs : List Loc} {d : Delta} {o : Oper}
theorem runs_cond {P : Program} {b : Bool} {m : M} (h : Runs P st (bif b then m else .fail) rs d) : b = true ∧ Runs P st m rs d := by
 cases b with
 | true => exact ⟨rfl, h⟩
 | false => cases h
theorem applyS_get {α : Type} {id : Nat} {b : α} {pend : List (Nat × α)} {l : List α} (h : id < l.length) : (applyS ((id, b) :: pend) l)[id]? = some b := by
 simp only [applyS, List.foldr_cons]
 exact List.getElem?_set_self (by have := length_applyS pend l; simp only [applyS] at this; omega)
theorem findO_some {id : Nat} {b : Ob} {pend : List (Nat × Ob)} {l : List Ob} (h : findO pend id = some b) (hl : ∀ p ∈ pend, p.1 < l.length) : (applyS pend l)[id]? = some b := by
 induction pend with
 | nil => cases h
 | cons p pend ih =>
  obtain ⟨i, c⟩ := p
  simp only [findO] at h
  cases hb : Nat.beq i id with
  | true =>
   rw [hb] at h; injection h with h; subst h
   have := Nat.eq_of_beq_eq_true hb; subst this
   exact applyS_get (hl (i, c) (by simp))
  | false =>
   rw [hb] at h
   have hne : i ≠ id := Nat.ne_of_beq_eq_false hb
   have := ih h (fun p hp => hl p (by simp [hp]))
   simp only [applyS, List.foldr_cons] at this ⊢
   rw [List.getElem?_set_ne hne]; exact this
theorem findO_none {id : Nat} {pend : List (Nat × Ob)} {l : List Ob} (h : findO pend id = none) : (applyS pend l)[id]? = l[id]? := by
 induction pend with
 | nil => rfl
 | cons p pend ih =>
  obtain ⟨i, c⟩ := p
  simp only [findO] at h
  cases hb : Nat.beq i id with
  | true => rw [hb] at h; cases h
  | false =>
   rw [hb] at h
   have hne : i ≠ id := Nat.ne_of_beq_eq_false hb
   have := ih h
   simp only [applyS, List.foldr_cons] at this ⊢
   rw [List.getElem?_set_ne hne]; exact this
def St.pend (st : St) (pend : List (Nat × Ob)) : St := { st with o := applyS pend st.o }
theorem getOb_runs {P : Program} {pend : List (Nat × Ob)} {id : Nat} {k : Ob → M} (hr : Runs P st (getOb pend id k) rs d) (hl : ∀ p ∈ pend, p.1 < st.o.length) :
  ∃ ob rs', (st.pend pend).o[id]? = some ob ∧ Runs P st (k ob) rs' d := by
 unfold getOb at hr
 split at hr
 ·rename_i b hb
  exact ⟨b, rs, findO_some hb hl, hr⟩
 ·rename_i hb
  cases hr with
  | obj h1 h2 => exact ⟨_, _, (findO_none hb).trans h1, h2⟩
theorem cellsOf_runs {P : Program} {ob : Ob} {k : List C → M} (hr : Runs P st (cellsOf ob k) rs d) : ∃ cells, ob.cells = some cells ∧ Runs P st (k cells) rs d := by
 unfold cellsOf at hr
 split at hr
 ·exact ⟨_, by assumption, hr⟩
 ·cases hr
theorem ownAt_runs {pend : List (Nat × Ob)} {id g : Nat} {p : Pth} {k : (C → Ob) → TypeId → List (List C) → Nat → M} {v : Value} {F : Frs} (h : Rel E.P x (st.pend pend) a w L ow)
  (hr : Runs E.P st (ownAt pend id g p k) rs d) (hl : ∀ p ∈ pend, p.1 < st.o.length) (hv : SCR E.P w F L (st.pend pend).o (.ref id g p) v) :
  ∃ ob cells put e rows rs', (st.pend pend).o[id]? = some ob ∧ ob.cells = some cells ∧ getC cells p = some (.us e rows) ∧ (∀ n, put n = { ob with cells := some (putC cells n p) }) ∧
   ValAt E.P w (L id) cells p v ∧ Runs E.P st (k put e rows ob.kind) rs' d := by
 unfold ownAt at hr
 obtain ⟨ob, rs1, h1, h2⟩ := getOb_runs hr hl
 obtain ⟨hb, h3⟩ := runs_cond h2
 obtain ⟨cells, h4, h5⟩ := cellsOf_runs h3
 have val : ∀ e rows, getC cells p = some (.us e rows) → ValAt E.P w (L id) cells p v := by
  intro e rows hg
  cases hv with
  | ref k1 k2 k3 k4 k5 k6 =>
   rw [h1] at k2; injection k2 with k2; subst k2
   rw [h4] at k3; injection k3 with k3; subst k3
   rw [Bool.or_eq_true] at hb
   rcases hb with hb | hb
   ·exact k5 (Nat.eq_of_beq_eq_true hb) e rows hg
   ·rw [Bool.and_eq_true] at hb
    cases p with
    | elem _ _ _ => simp [Pth.isCell] at hb
    | cell off =>
     have hk : ob.kind ≠ 0 := by have := hb.2; simp [Nat.blt_eq] at this; omega
     obtain ⟨l, hlv⟩ := h.kinds id ob cells h1 h4 hk
     show (L id).val w off = some v
     rw [hlv]; exact k6 l off hlv rfl
 cases p with
 | cell off =>
  simp only at h5
  split at h5
  ·rename_i e rows hc
   exact ⟨ob, cells, _, e, rows, rs1, h1, h4, hc, fun n => rfl, val e rows hc, h5⟩
  ·cases h5
 | elem off i j =>
  simp only at h5
  split at h5
  ·rename_i e1 rows1 hc
   cases h5 with
   | row hrow h6 =>
    dsimp only at h6
    split at h6
    ·rename_i e2 rows2 hj
     have hg : getC cells (.elem off i j) = some (.us e2 rows2) := by simp [getC, hc, hrow, hj]
     exact ⟨ob, cells, _, e2, rows2, rs1, h1, h4, hg, fun n => by simp [putC, hc, hrow], val e2 rows2 hg, h6⟩
    ·cases h6
  ·cases h5
theorem viewAt_runs {pend : List (Nat × Ob)} {id g off lo n : Nat} {k : (C → Ob) → TypeId → List (List C) → M} {v : Value} {F : Frs} (hr : Runs E.P st (viewAt pend id g off k) rs d) (hl : ∀ p ∈ pend, p.1 < st.o.length) (hv : SCR E.P w F L (st.pend pend).o (.view id g off lo n) v) :
  ∃ ob cells put e rows rs' v0, (st.pend pend).o[id]? = some ob ∧ ob.cells = some cells ∧ cells[off]? = some (.us e rows) ∧ (∀ n, put n = { ob with cells := some (putC cells n (.cell off)) }) ∧
   ValAt E.P w (L id) cells (.cell off) v0 ∧ lo + n ≤ rows.length ∧ v = resliced v0 lo n (E.P.cellsOf e) ∧ Runs E.P st (k put e rows) rs' d := by
 unfold viewAt at hr
 obtain ⟨ob, rs1, h1, h2⟩ := getOb_runs hr hl
 obtain ⟨hb, h3⟩ := runs_cond h2
 obtain ⟨cells, h4, h5⟩ := cellsOf_runs h3
 split at h5
 ·rename_i e rows hc
  cases hv with
  | view k1 k2 k3 k4 k5 =>
   rw [h1] at k2; injection k2 with k2; subst k2
   rw [h4] at k3; injection k3 with k3; subst k3
   obtain ⟨q1, v0, q2, q3⟩ := k5 (Nat.eq_of_beq_eq_true hb) e rows hc
   exact ⟨ob, cells, _, e, rows, rs1, v0, h1, h4, hc, fun n => rfl, q2, q1, q3, h5⟩
 ·cases h5
theorem hd_cell {ob : Ob} {hcs : List (Option (TypeId × Nat))} {off n : Nat} {e : TypeId} (h1 : ob.hd.cells = some hcs) (h2 : hcs[off]? = some (some (e, n))) : ∃ cells rows, ob.cells = some cells ∧ cells[off]? = some (.us e rows) ∧ n = rows.length := by
 simp only [Ob.hd] at h1
 cases hc0 : ob.cells with
 | none => rw [hc0] at h1; cases h1
 | some cells =>
  rw [hc0] at h1
  simp at h1
  subst h1
  rw [List.getElem?_map] at h2
  cases hx : cells[off]? with
  | none => rw [hx] at h2; cases h2
  | some c =>
   rw [hx] at h2
   cases c with
   | us e' rows => simp [hc] at h2; obtain ⟨rfl, rfl⟩ := h2; exact ⟨cells, rows, rfl, hx, rfl⟩
   | v _ => simp [hc] at h2
   | sl _ => simp [hc] at h2
   | x => simp [hc] at h2
   | mp _ => simp [hc] at h2
   | ex _ _ => simp [hc] at h2
   | me _ => simp [hc] at h2
theorem hdAt_runs {P : Program} {id g off : Nat} {soft : Bool} {k : Nat → TypeId → Nat → M} (hr : Runs P st (.head id fun h => hdAt h g off soft k) rs d) :
  ∃ ob cells e rows rs', st.o[id]? = some ob ∧ ob.cells = some cells ∧ cells[off]? = some (.us e rows) ∧ (ob.g = g ∨ (soft = true ∧ ob.kind ≠ 0)) ∧ Runs P st (k ob.g e rows.length) rs' d := by
 cases hr with
 | head h1 h2 =>
  rename_i ob rs1
  unfold hdAt at h2
  obtain ⟨hb, h3⟩ := runs_cond h2
  split at h3
  ·rename_i hcs hcells
   split at h3
   ·rename_i e n hoff
    obtain ⟨cells, rows, k1, k2, k3⟩ := hd_cell hcells hoff
    refine ⟨ob, cells, e, rows, rs1, h1, k1, k2, ?_, by rw [← k3]; exact h3⟩
    rw [Bool.or_eq_true, Bool.and_eq_true] at hb
    rcases hb with hb | hb
    ·exact .inl (Nat.eq_of_beq_eq_true hb)
    ·refine .inr ⟨hb.1, ?_⟩
     have := hb.2
     simp [Nat.blt_eq, Ob.hd] at this
     omega
   ·cases h3
  ·cases h3
theorem hdAt_own {id g off : Nat} {k : Nat → TypeId → Nat → M} {v : Value} {F : Frs} (h : Rel E.P x st a w L ow) (hr : Runs E.P st (.head id fun h => hdAt h g off true k) rs d) (hv : SCR E.P w F L st.o (.ref id g (.cell off)) v) :
  ∃ ob cells e rows rs', (st.pend []).o[id]? = some ob ∧ ob.cells = some cells ∧ getC cells (.cell off) = some (.us e rows) ∧ ValAt E.P w (L id) cells (.cell off) v ∧ Runs E.P st (k ob.g e rows.length) rs' d := by
 obtain ⟨ob, cells, e, rows, rs1, h1, h4, hg, hb, h5⟩ := hdAt_runs hr
 refine ⟨ob, cells, e, rows, rs1, h1, h4, hg, ?_, h5⟩
 cases hv with
 | ref k1 k2 k3 k4 k5 k6 =>
  rw [h1] at k2; injection k2 with k2; subst k2
  rw [h4] at k3; injection k3 with k3; subst k3
  rcases hb with hb | hb
  ·exact k5 hb e rows hg
  ·obtain ⟨l, hlv⟩ := h.kinds id ob cells h1 h4 hb.2
   show (L id).val w off = some v
   rw [hlv]; exact k6 l off hlv rfl
theorem hdAt_view {id g off lo n : Nat} {k : Nat → TypeId → Nat → M} {v : Value} {F : Frs} (hr : Runs E.P st (.head id fun h => hdAt h g off false k) rs d) (hv : SCR E.P w F L st.o (.view id g off lo n) v) :
  ∃ ob cells e rows rs' v0, (st.pend []).o[id]? = some ob ∧ ob.cells = some cells ∧ cells[off]? = some (.us e rows) ∧ ValAt E.P w (L id) cells (.cell off) v0 ∧ lo + n ≤ rows.length ∧ v = resliced v0 lo n (E.P.cellsOf e) ∧ Runs E.P st (k ob.g e rows.length) rs' d := by
 obtain ⟨ob, cells, e, rows, rs1, h1, h4, hg, hb, h5⟩ := hdAt_runs hr
 cases hv with
 | view k1 k2 k3 k4 k5 =>
  rw [h1] at k2; injection k2 with k2; subst k2
  rw [h4] at k3; injection k3 with k3; subst k3
  rcases hb with hb | hb
  ·obtain ⟨q1, v0, q2, q3⟩ := k5 hb e rows hg
   exact ⟨ob, cells, e, rows, rs1, v0, h1, h4, hg, q2, q1, q3, h5⟩
  ·cases hb.1
theorem own_len {P : Program} {F : Frs} {p : List Nat} {e : TypeId} {rows : List (List C)} {v : Value} (h : OC P w F ow p (.us e rows) v) : ∃ aa cap, v = .slice aa rows.length cap ∧ rows.length ≤ cap ∧ cap ≤ maxLen := by
  cases h with
  | us hown => rcases hown.2 with ⟨rfl, hn⟩ | ⟨g, cap, cur, rfl, _, _, hc, hm, _⟩
               · exact ⟨none, 0, by rw [hn], by omega, by simp [maxLen]⟩
               · exact ⟨_, cap, rfl, hc, hm⟩
theorem ownAt_oc {pend : List (Nat × Ob)} {id : Nat} {p : Pth} {ob : Ob} {cells : List C} {e : TypeId} {rows : List (List C)} {v : Value} (h : Rel E.P x (st.pend pend) a w L ow) (h1 : (st.pend pend).o[id]? = some ob) (h2 : ob.cells = some cells) (h3 : getC cells p = some (.us e rows)) (hv : ValAt E.P w (L id) cells p v) :
  OC E.P w (x.F w ow) ow (pathOf id p) (.us e rows) v := by
 obtain ⟨v', h4, h5⟩ := (h.objs id ob cells h1 h2).at_ h3
 rw [ValAt.uniq hv h4]; exact h5
theorem sound_bool {next : Act → World → Prop} {Q : Exit → Act → World → Prop} {op : BinOp} {t t' : TypeId} {y z : Operand} {m n : Bool} (h : Rel E.P x st a w L ow) (ho : o.op = .binOp op t y z t') (hy : a.eval y = .bool m) (hz : a.eval z = .bool n)
  (hu : E.P.underlying t = some .bool)
  (hr : Runs E.P st (boolOp o.dst op m n) rs d) (hl : ∀ p ∈ d.s, p.1 < st.s.length) (hn : Good E x (st.app d) next) : o.wp E.P a w next Q := by
 have hg : (eqGuard op t y z (.bool m) (.bool n)).run E.P w = .ok () w := by unfold eqGuard; cases op <;> rfl
 have key : ∀ r, (binOp op t (.bool m) (.bool n)).run E.P w = .ok r w → (execOp a.eval o).run E.P w = .ok (.value r) w := fun r hb => run_binOp_eq ho hy hz hg hb
 have he : (Op.equal t (.bool m) (.bool n)).run E.P w = .ok (m == n) w := by
  exact run_equalIn_bool w 9999 t m n hu
 cases op with
 | eql => exact finB h hr hl (key _ (by simp [binOp, he])) hn
 | neq => exact finB h hr hl (key _ (by simp [binOp, he])) hn
 | _ => cases hr
theorem run_part {t : TypeId} {dsc : TypeDesc} {xs : Array Value} {k : Nat} {v : Value} {P : Program} (hu : P.underlying t = some dsc) (hd : ∀ c : CK, dsc = ckDesc c → True) (hc : ∃ c : CK, dsc = ckDesc c) (hx : xs[k]? = some v) : (part t xs k).run P w = .ok v w := by
 obtain ⟨c, rfl⟩ := hc
 cases c <;> simp [part, isAgg, underlying, hu, ckDesc, hx]
inductive CmpV : CK → Value → Value → Bool → Prop where
 | int {i : IntKind} {m n : Int} : CmpV (.int i) (.int i m) (.int i n) (m == n)
 | str {m n : ByteArray} : CmpV .str (.string m) (.string n) (m == n)
 | bool {m n : Bool} : CmpV .bool (.bool m) (.bool n) (m == n)
theorem eqCells_inv {ks0 : List CK} {l l' : List SC} {t : Bool} (h : eqCells ks0 l l' = some t) : (ks0 = [] ∧ l = [] ∧ l' = [] ∧ t = true) ∨
  ∃ c ks u v l2 l2' r t2, ks0 = c :: ks ∧ l = .c (.v u) :: l2 ∧ l' = .c (.v v) :: l2' ∧ eqCells ks l2 l2' = some t2 ∧ t = (r && t2) ∧ CmpV c u v r := by
 unfold eqCells at h
 split at h
 ·injection h with h; exact .inl ⟨rfl, rfl, rfl, h.symm⟩
 ·split at h
  ·rename_i e1 e2 t2 _ _ e3
   injection h with h
   subst e1; subst e2
   exact .inr ⟨_, _, _, _, _, _, _, t2, rfl, rfl, rfl, e3, h.symm, .int⟩
  ·cases h
 ·split at h
  ·rename_i t2 e3
   injection h with h
   exact .inr ⟨_, _, _, _, _, _, _, t2, rfl, rfl, rfl, e3, h.symm, .str⟩
  ·cases h
 ·split at h
  ·rename_i t2 e3
   injection h with h
   exact .inr ⟨_, _, _, _, _, _, _, t2, rfl, rfl, rfl, e3, h.symm, .bool⟩
  ·cases h
 ·cases h
theorem eqFields_flat {P : Program} (dd : Nat) (xs ys : Array Value) : ∀ (fs : List Field) (ks : List CK) (l l' : List SC) (k : Nat) (t : Bool), fs.length = ks.length →
  (∀ (i : Nat) (f : Field) (c : CK), fs[i]? = some f → ks[i]? = some c → f.name ≠ "_" ∧ f.offset = k + i ∧ P.underlying f.type = some (ckDesc c)) →
  (∀ (i : Nat) (v : Value), l[i]? = some (.c (.v v)) → xs[k + i]? = some v) → (∀ (i : Nat) (v : Value), l'[i]? = some (.c (.v v)) → ys[k + i]? = some v) →
  eqCells ks l l' = some t → (Go.Op.eqFields (dd + 1) xs ys fs).run P w = .ok t w := by
 intro fs
 induction fs with
 | nil =>
  intro ks l l' k t hlen _ _ _ he
  rcases eqCells_inv he with ⟨_, _, _, rfl⟩ | ⟨c, ks', u, v, l2, l2', r, t2, rfl, _⟩
  ·simp [Go.Op.eqFields]
  ·simp at hlen
 | cons f fs ih =>
  intro ks l l' k t hlen hf hx hy he
  rcases eqCells_inv he with ⟨rfl, _⟩ | ⟨c, ks', u, v, l2, l2', r, t2, rfl, rfl, rfl, e3, rfl, hc⟩
  ·simp at hlen
  ·obtain ⟨h1, h2, h3⟩ := hf 0 f c rfl rfl
   have hr := ih ks' l2 l2' (k + 1) t2 (by simpa using hlen) (fun i f' c' q1 q2 => by
    obtain ⟨q3, q4, q5⟩ := hf (i + 1) f' c' (by simpa using q1) (by simpa using q2)
    exact ⟨q3, by omega, q5⟩) (fun i v hi => by rw [Nat.add_assoc, Nat.add_comm 1 i]; exact hx (i + 1) v (by simpa using hi)) (fun i v hi => by rw [Nat.add_assoc, Nat.add_comm 1 i]; exact hy (i + 1) v (by simpa using hi)) e3
   have p1 := run_part (w := w) h3 (fun _ _ => trivial) ⟨c, rfl⟩ (hx 0 u rfl)
   have p2 := run_part (w := w) h3 (fun _ _ => trivial) ⟨c, rfl⟩ (hy 0 v rfl)
   have e4 : (Op.equalIn (dd + 1) f.type u v).run P w = .ok r w := by
    cases hc with
    | int => exact run_equalIn_int w dd f.type _ _ _ _ h3
    | str => rw [beq_toListBytes]; exact run_equalIn_string w dd f.type _ _ h3
    | bool => exact run_equalIn_bool w dd f.type _ _ h3
   simp only [Nat.add_zero] at p1 p2 h2
   rw [Go.Op.eqFields]
   simp only [if_pos h1, Sem.run_bind, h2, p1, p2, e4, Result.andThen_ok]
   cases r
   ·simp
   ·simpa using hr
theorem sound_cmp {next : Act → World → Prop} {Q : Exit → Act → World → Prop} {op : BinOp} {t t' : TypeId} {y z : Operand} {l l' : List SC} {u v : Value} {ks : List CK} (h : Rel E.P x st a w L ow) (ho : o.op = .binOp op t y z t') (hy : a.eval y = u) (hz : a.eval z = v)
  (hu : AVR E.P w (x.F w ow) L st.o (.agg l) u) (hv : AVR E.P w (x.F w ow) L st.o (.agg l') v) (hc : OkCmp E.P t ks)
  (hr : Runs E.P st (cmpOp o.dst op (eqCells ks l l')) rs d) (hl : ∀ p ∈ d.s, p.1 < st.s.length) (hn : Good E x (st.app d) next) : o.wp E.P a w next Q := by
 cases hu with
 | @agg _ xs hu1 hu2 =>
  cases hv with
  | @agg _ ys hv1 hv2 =>
   obtain ⟨fields, k1, k2, k3⟩ := hc.under
   have cellv : ∀ (l : List SC) (xs : Array Value), l.length = xs.size → (∀ (i : Nat) (s : SC) (v : Value), l[i]? = some s → xs[i]? = some v → SCR E.P w (x.F w ow) L st.o s v) →
     ∀ (i : Nat) (v : Value), l[i]? = some (.c (.v v)) → xs[0 + i]? = some v := by
    intro l xs hlen hh i v hi
    have hlt := (List.getElem?_eq_some_iff.1 hi).1
    have := hh i _ (xs[i]'(by omega)) hi (Array.getElem?_eq_getElem (by omega))
    cases this with
    | c hf => cases hf; rw [Nat.zero_add]; exact Array.getElem?_eq_getElem (by omega)
   have run : ∀ t0, eqCells ks l l' = some t0 → (Op.equal t (.agg xs) (.agg ys)).run E.P w = .ok t0 w := by
    intro t0 he
    have hf : E.P.fieldsOf t = fields := by simp [Program.fieldsOf, k1]
    have := run_equalIn_struct (P := E.P) w 9999 t xs ys (by rw [hf]; exact k1) hc.held
    rw [hf] at this
    refine this.trans (eqFields_flat 9998 xs ys fields.toList ks l l' 0 t0 (by simpa using k2) (fun i f c q1 q2 => ?_) (cellv l xs hu1 hu2) (cellv l' ys hv1 hv2) he)
    rw [Nat.zero_add]; exact k3 i f c (by simpa using q1) q2
   have hg : op = .eql ∨ op = .neq → (eqGuard op t y z (.agg xs) (.agg ys)).run E.P w = .ok () w := by
    intro hop
    rcases hop with rfl | rfl <;> simp [eqGuard, hc.guard]
   cases op with
   | eql =>
    cases he : eqCells ks l l' with
    | none => rw [he] at hr; cases hr
    | some t0 => rw [he] at hr; exact finB h hr hl (run_binOp_eq ho hy hz (hg (.inl rfl)) (by simp [binOp, run t0 he])) hn
   | neq =>
    cases he : eqCells ks l l' with
    | none => rw [he] at hr; cases hr
    | some t0 => rw [he] at hr; exact finB h hr hl (run_binOp_eq ho hy hz (hg (.inr rfl)) (by simp [binOp, run t0 he])) hn
   | _ => cases hr
theorem sound_bin {next : Act → World → Prop} {Q : Exit → Act → World → Prop} {op : BinOp} {t t' : TypeId} {y z : Operand} (hT : TOk E) (h : Rel E.P x st a w L ow) (ho : o.op = .binOp op t y z t')
  (hr : Runs E.P st (opnd y fun a => opnd z fun b => binM E t o.dst op a b) rs d) (hl : ∀ p ∈ d.s, p.1 < st.s.length) (hn : Good E x (st.app d) next) : o.wp E.P a w next Q := by
 obtain ⟨b, rs1, h1, h2⟩ := opnd_runs h hr
 obtain ⟨c, rs2, h3, h4⟩ := opnd_runs h h1
 unfold binM at h3
 split at h3
 ·rename_i k m k' n
  have hy := avr_one_v h2
  have hz := avr_one_v h4
  have key : ∀ r, (binOp op t (.int k m) (.int k' n)).run E.P w = .ok r w → (execOp a.eval o).run E.P w = .ok (.value r) w := fun r hb => run_binOp_eq ho hy hz eqGuard_int hb
  split at h3
  ·cases h3 with
   | need h0 hr => exact finN h hr hl (key _ (by simp only [binOp, Op.shift]; rw [if_neg (by omega)]; rfl)) hn
  ·cases h3 with
   | need h0 hr => exact fin h hr hl (avr_v rfl) (key _ (by simp only [binOp, Op.shift]; rw [if_neg (by omega)]; rfl)) hn
  ·split at h3
   ·rename_i hk _
    subst hk
    exact sound_int h ho hy hz ⟨by assumption, by assumption⟩ h3 hl hn
   ·cases h3
 ·exact sound_str h ho (avr_one_v h2) (avr_one_v h4) h3 hl hn
 ·obtain ⟨i, hi, _, h5⟩ := typ_runs hT h3
  obtain ⟨dsc, q1, q2, q3, q4⟩ := hi.under
  split at h5
  ·rename_i hk
   rw [hk] at q4
   simp only at q4
   subst q4
   exact sound_bool h ho (avr_one_v h2) (avr_one_v h4) q1 h5 hl hn
  ·cases h5
 ·obtain ⟨i, hi, hc, h5⟩ := typ_runs hT h3
  split at h5
  ·rename_i ks hk
   exact sound_cmp h ho rfl rfl h2 h4 (hc ks hk) h5 hl hn
  ·cases h5
 ·cases h3
end
end Ev

namespace Ev
open Go
section
variable {E : Env} {x : Cx} {st : St} {a : Act} {w w' : World} {L L' : Nat → Pl} {ow ow' : Own} {rs : List Loc} {d : Delta} {o : Oper}
theorem OC.toFR {P : Program} {F : Frs} {p : List Nat} {c : C} {v : Value} (h : OC P w F ow p c v) (hc : c.isUs = false) : FR w F c v := by
 cases h with
 | v h => exact .v h
 | x h => exact .x h
 | sl h => exact h
 | ex h => exact .ex h
 | me => cases hc
 | us => cases hc
 | mp => cases hc
theorem scs_get {id g : Nat} {mk : Nat → Pth} : ∀ (l : List C) (k i : Nat), (scs id g mk k l)[i]? = (l[i]?).map fun c => if c.isUs then .ref id g (mk (k + i)) else .c c := by
 intro l
 induction l with
 | nil => intro k i; simp [scs]
 | cons c l ih =>
  intro k i
  cases i with
  | zero => cases c <;> simp [scs, C.isUs]
  | succ i =>
   have : k + 1 + i = k + (i + 1) := by omega
   cases c <;> simp [scs, ih, this]
theorem scs_length {id g : Nat} {mk : Nat → Pth} (l : List C) (k : Nat) : (scs id g mk k l).length = l.length := by
 induction l generalizing k with
 | nil => rfl
 | cons c l ih => cases c <;> simp [scs, ih]
theorem sub_get {l : List C} {j n i : Nat} {c : C} (h : (sub l j n)[i]? = some c) : l[j + i]? = some c ∧ i < n := by
 simp only [sub] at h
 rw [List.getElem?_take] at h
 split at h
 ·rw [List.getElem?_drop] at h; exact ⟨h, by assumption⟩
 ·cases h
theorem sub_length {l : List C} {j n : Nat} (h : j + n ≤ l.length) : (sub l j n).length = n := by simp [sub]; omega
theorem addr_add {b o k : Nat} : (⟨b, o, none⟩ : Addr).add k = ⟨b, o + k, none⟩ := by unfold Addr.add; split <;> simp_all
theorem isAgg_run {P : Program} {t : TypeId} {i : TI} (hi : OkTI P t i) : (isAgg t).run P w = .ok i.agg w := by
 obtain ⟨dsc, h1, h2, _⟩ := hi.under
 cases ha : i.agg with
 | true =>
  rcases h2.1 ha with ⟨fs, rfl⟩ | ⟨n, e, rfl⟩ <;> simp [isAgg, underlying, h1]
 | false =>
  have : ∀ fs, dsc ≠ .struct fs := fun fs e => by rw [h2.2 (.inl ⟨fs, e⟩)] at ha; cases ha
  have : ∀ n e, dsc ≠ .array n e := fun n e' e => by rw [h2.2 (.inr ⟨n, e', e⟩)] at ha; cases ha
  cases dsc <;> simp_all [isAgg, underlying]
theorem sizeOf_run {P : Program} {t : TypeId} {i : TI} (hi : OkTI P t i) : (Go.sizeOf t).run P w = .ok i.size w := by
 obtain ⟨inf, z, h1, h2, _⟩ := hi.info
 simp [Go.sizeOf, typeInfo, h1, h2]
theorem size_one {P : Program} {t : TypeId} {i : TI} (hi : OkTI P t i) (ha : i.agg = false) : i.size = 1 := by
 obtain ⟨dsc, _, _, h3, _⟩ := hi.under
 exact h3 ha
theorem run_load_at {P : Program} {t : TypeId} {i : TI} (hi : OkTI P t i) {b k : Nat} (vs : List Value) (hl : vs.length = i.size) (hv : ∀ j v, vs[j]? = some v → w.cell? ⟨b, k + j, none⟩ = some v) :
  (Instr.loadAt t (.pointer (some ⟨b, k, none⟩))).run P w = .ok (if i.agg then .agg vs.toArray else vs.getD 0 undef) w := by
 have hc : (loadCells ⟨b, k, none⟩ i.size).run P w = .ok vs.toArray w := by
  rw [← hl]
  exact run_loadCells_list w ⟨b, k, none⟩ vs fun j v hj => by rw [addr_add]; exact hv j v hj
 unfold Instr.loadAt
 simp only [Instr.sureAddr, loadVar, Sem.run_bind, Sem.run_pure, Result.andThen_ok, isAgg_run hi]
 cases ha : i.agg with
 | true => simp [hc, sizeOf_run hi]
 | false =>
  have h1 := size_one hi ha
  cases vs with
  | nil => simp at hl; omega
  | cons v vs =>
   have := hv 0 v rfl
   simp at this
   simp [this]
theorem mkAV_runs {P : Program} {i : TI} {l : List SC} {k : AV → M} (hr : Runs P st (mkAV i l .fail k) rs d) : (i.agg = true ∧ Runs P st (k (.agg l)) rs d) ∨ (i.agg = false ∧ ∃ s, l = [s] ∧ Runs P st (k (.one s)) rs d) := by
 unfold mkAV at hr
 split at hr
 ·exact .inl ⟨by assumption, hr⟩
 ·exact .inr ⟨by assumption, _, rfl, hr⟩
 ·cases hr
theorem fin_load {next : Act → World → Prop} {Q : Exit → Act → World → Prop} {t : TypeId} {y : Operand} {i : TI} {l : List SC} {vs : List Value} {b k : Nat} (h : Rel E.P x st a w L ow) (ho : o.op = .load t y) (hi : OkTI E.P t i) (hy : a.eval y = .pointer (some ⟨b, k, none⟩))
  (hr : Runs E.P st (mkAV i l .fail fun b => out o.dst b []) rs d) (hl : ∀ p ∈ d.s, p.1 < st.s.length) (hlen : l.length = i.size) (hvl : vs.length = i.size)
  (hv : ∀ (j : Nat) (v : Value), vs[j]? = some v → w.cell? ⟨b, k + j, none⟩ = some v) (hs : ∀ (j : Nat) (s : SC) (v : Value), l[j]? = some s → vs[j]? = some v → SCR E.P w (x.F w ow) L st.o s v)
  (hn : Good E x (st.app d) next) : o.wp E.P a w next Q := by
 have hrun := run_load_at hi vs hvl hv
 rcases mkAV_runs hr with ⟨ha, hr2⟩ | ⟨ha, s, rfl, hr2⟩
 ·refine fin h hr2 hl (.agg (vs := vs.toArray) (by simp [hlen, hvl]) fun j s v hj hv => hs j s v hj (by simpa using hv)) ?_ hn
  simp [execOp, ho, hy, hrun, ha]
 ·have h1 := size_one hi ha
  cases vs with
  | nil => simp at hvl; omega
  | cons v vs =>
   refine fin h hr2 hl (.one (hs 0 s v rfl rfl)) ?_ hn
   simp [execOp, ho, hy, hrun, ha]
theorem ObjR.scr {id : Nat} {ob : Ob} {cells : List C} {off : Nat} {c : C} {u : Value} (h : Rel E.P x st a w L ow) (ho : st.o[id]? = some ob) (hc : ob.cells = some cells) (hj : cells[off]? = some c) (hu : (L id).val w off = some u) :
  SCR E.P w (x.F w ow) L st.o (if c.isUs then .ref id ob.g (.cell off) else .c c) u := by
 obtain ⟨u', h1, h2⟩ := (h.objs id ob cells ho hc).cell off c hj
 rw [hu] at h1; injection h1 with h1; subst h1
 by_cases hus : c.isUs = true
 ·rw [if_pos hus]
  exact .ref h2.one ho hc (Nat.le_refl _) (fun _ e rows _ => hu) fun l off' hl hp => by injection hp with hp; subst hp; rw [hl] at hu; exact hu
 ·rw [if_neg hus]
  exact .c (h2.toFR (by simpa using hus))
theorem loadB_of {P : Program} {dd : Option Tmp} {i : TI} {id off : Nat} (h : Runs P st (.head id fun h => bif ownHd i h off then out dd (.one (.ref id h.g (.cell off))) [] else loadB dd i id off) rs d) : ∃ rs', Runs P st (loadB dd i id off) rs' d := by
 cases h with
 | @head _ _ ob rs0 _ ho h =>
  dsimp only at h
  cases hb : ownHd i ob.hd off with
  | false => rw [hb] at h; exact ⟨_, h⟩
  | true =>
   rw [hb, cond_true] at h
   unfold ownHd at hb
   split at hb
   ·rename_i cs ha hc
    split at hb
    ·rename_i e hcs
     obtain ⟨e, n⟩ := e
     have hsz := Nat.eq_of_beq_eq_true hb
     obtain ⟨cells, rows, h1, h2, h3⟩ := hd_cell hc hcs
     have hlt := (List.getElem?_eq_some_iff.1 h2).1
     have hble : Nat.ble (off + i.size) cells.length = true := by rw [hsz]; exact Nat.ble_eq_true_of_le hlt
     have hsub : sub cells off i.size = [.us e rows] := by
      rw [hsz]
      refine List.ext_getElem? fun j => ?_
      cases j with
      | zero =>
       cases hc0 : (sub cells off 1)[0]? with
       | none =>
        have h5 := List.getElem?_eq_none_iff.1 hc0
        rw [sub_length (by rw [← hsz]; exact Nat.le_of_ble_eq_true hble)] at h5
        omega
       | some c =>
        obtain ⟨g1, _⟩ := sub_get hc0
        rw [Nat.add_zero, h2] at g1
        injection g1 with g1
        subst g1; rfl
      | succ j =>
       have h5 : (sub cells off 1).length = 1 := sub_length (by rw [← hsz]; exact Nat.le_of_ble_eq_true hble)
       rw [List.getElem?_eq_none_iff.2 (by omega)]; rfl
     have h6 : Runs P st (cellsOf ob fun cells => bif Nat.ble (off + i.size) cells.length then mkAV i (scs id ob.g .cell off (sub cells off i.size)) .fail fun a => out dd a [] else .fail) rs0 d := by
      unfold cellsOf
      rw [h1]
      dsimp only
      rw [hble, cond_true, hsub]
      unfold mkAV
      rw [ha]
      exact h
     exact ⟨_, .obj ho h6⟩
    ·cases hb
   ·cases hb
theorem SCR.wk {P : Program} {F : Frs} {ob : List Ob} {s : SC} {v : Value} (h : SCR P w F L ob s v) : SCR P w F L ob (wkC s) v := by
 cases h with
 | c hf => cases hf with
  | v h => exact .c (.v h)
  | x h => exact .c (.x h)
  | sl val h1 h2 h3 h4 h5 h6 => exact .c (.sl val h1 h2 h3 h4 h5 h6)
  | ex h => exact .c h
 | ref h1 h2 h3 h4 h5 h6 => exact .ref h1 h2 h3 h4 h5 h6
 | view h1 h2 h3 h4 h5 => exact .view h1 h2 h3 h4 h5
theorem wkL_get {b : Bool} {l : List SC} {j : Nat} {s : SC} (h : (wkL b l)[j]? = some s) : ∃ s0, l[j]? = some s0 ∧ (s = s0 ∨ s = wkC s0) := by
 unfold wkL at h
 cases b with
 | false => exact ⟨s, h, .inl rfl⟩
 | true =>
  rw [cond_true, List.getElem?_map] at h
  cases hj : l[j]? with
  | none => rw [hj] at h; cases h
  | some s0 => rw [hj] at h; injection h with h; exact ⟨s0, rfl, .inr h.symm⟩
theorem wkL_length {b : Bool} {l : List SC} : (wkL b l).length = l.length := by
 unfold wkL; cases b <;> simp
theorem sound_load {next : Act → World → Prop} {Q : Exit → Act → World → Prop} {t : TypeId} {y : Operand} (hT : TOk E) (h : Rel E.P x st a w L ow) (ho : o.op = .load t y)
  {wk : Bool} (hr : Runs E.P st (typ E t fun i => opnd y fun a => loadM wk o.dst i a) rs d) (hl : ∀ p ∈ d.s, p.1 < st.s.length) (hn : Good E x (st.app d) next) : o.wp E.P a w next Q := by
 obtain ⟨i, hi, _, h0⟩ := typ_runs hT hr
 obtain ⟨b, rs1, h1, h2⟩ := opnd_runs h h0
 unfold loadM at h1
 split at h1
 ·rename_i id off
  obtain ⟨rs3, h1⟩ := loadB_of h1
  unfold loadB at h1
  cases h1 with
  | obj ho1 h3 =>
   rename_i ob rs2
   obtain ⟨cells, h4, h5⟩ := cellsOf_runs h3
   obtain ⟨hb, h6⟩ := runs_cond h5
   have hb := Nat.le_of_ble_eq_true hb
   generalize hv : a.eval y = v at h2
   cases h2 with
   | @bx _ _ g _ _ k2 k3 k4 =>
    have hR := h.objs id ob cells ho1 h4
    have hval : ∀ j, j < i.size → ∃ u, w.cell? ⟨g, off + j, none⟩ = some u := fun j hj => by
     obtain ⟨u, q1, _⟩ := hR.cell (off + j) _ (List.getElem?_eq_getElem (by omega))
     rw [k4] at q1; exact ⟨u, q1⟩
    refine fin_load (vs := (List.range i.size).map fun j => (w.cell? ⟨g, off + j, none⟩).getD undef) h ho hi hv h6 hl (by rw [scs_length, sub_length hb]) (by simp) (fun j v hj => ?_) (fun j s v hj hv => ?_) hn
    ·have hjl := (List.getElem?_eq_some_iff.1 hj).1
     simp at hjl
     obtain ⟨u, hu⟩ := hval j hjl
     simp [hjl, hu] at hj
     rw [hu, hj]
    ·rw [scs_get] at hj
     cases hc : (sub cells off i.size)[j]? with
     | none => simp [hc] at hj
     | some c =>
      rw [hc] at hj
      simp only [Option.map_some, Option.some.injEq] at hj
      obtain ⟨hc1, hjl⟩ := sub_get hc
      obtain ⟨u, hu⟩ := hval j hjl
      simp [hjl, hu] at hv
      subst hv
      rw [← hj]
      exact ObjR.scr h ho1 h4 hc1 (by rw [k4]; exact hu)
 ·rename_i id g off n j0
  cases h1 with
  | obj ho1 h3 =>
   rename_i ob rs2
   obtain ⟨hg, h3⟩ := runs_cond h3
   have hg := Nat.eq_of_beq_eq_true hg
   obtain ⟨cells, h4, h5⟩ := cellsOf_runs h3
   split at h5
   ·rename_i e rows hc
    cases h5 with
    | row hrow h6 =>
     rename_i r
     obtain ⟨hb, h7⟩ := runs_cond h6
     have hb := Nat.le_of_ble_eq_true hb
     generalize hv : a.eval y = v at h2
     cases h2 with
     | dp k2 k3 k4 k5 =>
      rw [ho1] at k2; injection k2 with k2; subst k2
      rw [h4] at k3; injection k3 with k3; subst k3
      obtain ⟨u, b, q1, q2, rfl⟩ := k5 hg e rows r hc hrow
      have hR := h.objs id ob cells ho1 h4
      obtain ⟨u', q3, q4⟩ := hR.cell off _ hc
      rw [q1] at q3; injection q3 with q3; subst q3
      have q5 := q4
      cases q5 with
      | @us _ _ _ _ inner hown hp hsz how ih =>
       have hrl := hsz r (List.mem_of_getElem? hrow)
       have hnl := (List.getElem?_eq_some_iff.1 hrow).1
       have hcell : ∀ j, j < i.size → w.cell? ⟨b, n * E.P.cellsOf e + j0 + j, none⟩ = some (inner.getD (n * E.P.cellsOf e + (j0 + j)) undef) := fun j hj => by
        obtain ⟨g', cap, hu, _, _, hcl, _⟩ := ownsRow_cell hown (idx_lt hnl (show j0 + j < E.P.cellsOf e by omega))
        rw [hu] at q2
        have : g' = b := by simpa [Value.ownBlock] using q2
        subst this
        rw [Nat.add_assoc]; exact hcl
       refine fin_load (vs := (List.range i.size).map fun j => inner.getD (n * E.P.cellsOf e + (j0 + j)) undef) h ho hi hv h7 hl (by rw [scs_length, sub_length hb]) (by simp) (fun j v hj => ?_) (fun j s v hj hv => ?_) hn
       ·have hjl := (List.getElem?_eq_some_iff.1 hj).1
        simp at hjl
        simp [hjl] at hj
        rw [hcell j hjl, ← hj]; simp [List.getD_eq_getElem?_getD]
       ·rw [scs_get] at hj
        cases hc2 : (sub r j0 i.size)[j]? with
        | none => simp [hc2] at hj
        | some c =>
         rw [hc2] at hj
         simp only [Option.map_some, Option.some.injEq] at hj
         obtain ⟨hc1, hjl⟩ := sub_get hc2
         have hoc := ih n r (j0 + j) c hrow hc1
         simp [hjl] at hv
         have hv' : v = inner.getD (n * E.P.cellsOf e + (j0 + j)) undef := by rw [← hv]; simp [List.getD_eq_getElem?_getD]
         subst hv'
         rw [← hj]
         by_cases hus : c.isUs = true
         ·rw [if_pos hus]
          refine .ref hoc.one ho1 h4 (by omega) (fun _ e2 rows2 _ => ⟨e, rows, u, b, hc, q1, q2, ?_⟩) fun l off' _ hp => by cases hp
          rw [← Nat.add_assoc]
          have := hcell j hjl
          rw [← Nat.add_assoc] at this
          exact this
         ·rw [if_neg hus]
          exact .c (hoc.toFR (by simpa using hus))
   ·cases h5
 ·rename_i row off ad
  obtain ⟨hb, h6⟩ := runs_cond h1
  have hb := Nat.le_of_ble_eq_true hb
  generalize hv : a.eval y = v at h2
  cases h2 with
  | @ep _ _ b k _ had hrow =>
   have hcell : ∀ j c, j < i.size → row[off + j]? = some c → ∃ u, w.cell? ⟨b, k + off + j, none⟩ = some u ∧ FR w (x.F w ow) c u := fun j c hj hc => by
    obtain ⟨_, u, q1, q2⟩ := hrow _ c hc
    exact ⟨u, by rw [Nat.add_assoc]; exact q1, q2⟩
   refine fin_load (vs := (List.range i.size).map fun j => (w.cell? ⟨b, k + off + j, none⟩).getD undef) h ho hi hv h6 hl (by rw [List.length_map, sub_length hb]) (by simp) (fun j v hj => ?_) (fun j s v hj hv => ?_) hn
   ·have hjl := (List.getElem?_eq_some_iff.1 hj).1
    simp at hjl
    obtain ⟨u, hu, _⟩ := hcell j _ hjl (List.getElem?_eq_getElem (by omega))
    simp [hjl, hu] at hj
    rw [hu, hj]
   ·simp only [List.getElem?_map] at hj
    cases hc : (sub row off i.size)[j]? with
    | none => simp [hc] at hj
    | some c =>
     rw [hc] at hj
     simp only [Option.map_some, Option.some.injEq] at hj
     obtain ⟨hc1, hjl⟩ := sub_get hc
     obtain ⟨u, hu, hf⟩ := hcell j c hjl hc1
     simp [hjl, hu] at hv
     subst hv
     rw [← hj]
     exact .c hf
 ·rename_i l off
  obtain ⟨hb, h6⟩ := runs_cond h1
  have hb := Nat.le_of_ble_eq_true hb
  generalize hv : a.eval y = v at h2
  cases h2 with
  | @cp _ _ b vs q1 q2 q3 q4 =>
   refine fin_load (vs := (vs.drop off).take i.size) h ho hi hv h6 hl (by rw [wkL_length]; simp; omega) (by simp; omega) (fun j v hj => ?_) (fun j s' v hj' hv => ?_) hn
   ·rw [List.getElem?_take] at hj
    split at hj
    ·rw [List.getElem?_drop] at hj; exact q3 _ v hj
    ·cases hj
   ·obtain ⟨s, hj, hs⟩ := wkL_get hj'
    rw [List.getElem?_take] at hj hv
    split at hj
    ·rename_i hlt
     rw [if_pos hlt, List.getElem?_drop] at hv
     rw [List.getElem?_drop] at hj
     have hq := q4 _ s v hj hv
     rcases hs with rfl | rfl
     ·exact hq
     ·exact hq.wk
    ·cases hj
 ·cases h1
end
end Ev

namespace Ev
open Go
section
variable {E : Env} {x : Cx} {st : St} {a : Act} {w w' : World} {L L' : Nat → Pl} {ow ow' : Own} {rs : List Loc} {d : Delta} {o : Oper} {next : Act → World → Prop} {Q : Exit → Act → World → Prop}
theorem under_struct {P : Program} {t : TypeId} {i : TI} {f fo : Nat} {ft : TypeId} (hi : OkTI P t i) (hf : fieldAt i.kind f = some (fo, ft)) : ∃ fields fl, P.underlying t = some (.struct fields) ∧ fields[f]? = some fl ∧ fl.offset = fo ∧ fl.type = ft ∧ P.cellsOf ft ≠ 0 := by
 obtain ⟨dsc, h1, _, _, h4⟩ := hi.under
 cases hk : i.kind with
 | struct fs =>
  rw [hk] at h4 hf
  obtain ⟨fields, rfl, h5, h6⟩ := h4
  obtain ⟨fl, h7, h8, h9, h10⟩ := h6 f fo ft hf
  exact ⟨fields, fl, h1, h7, h8, h9, h10⟩
 | _ => rw [hk] at hf; cases hf
theorem size_run {P : Program} {t : TypeId} (h : P.cellsOf t ≠ 0) : (Go.sizeOf t).run P w = .ok (P.cellsOf t) w := by
 cases hi : P.info? t with
 | none => simp [Program.cellsOf, hi] at h
 | some i => simp [Go.sizeOf, typeInfo, hi, Program.cellsOf]
theorem sound_fieldAddr {t : TypeId} {y : Operand} {f : Nat} (hT : TOk E) (h : Rel E.P x st a w L ow) (ho : o.op = .fieldAddr t y f)
  (hr : Runs E.P st (typ E t fun i => match fieldAt i.kind f with | some (fo, _) => opnd y fun a => addrM o.dst fo a | none => .fail) rs d) (hl : ∀ p ∈ d.s, p.1 < st.s.length) (hn : Good E x (st.app d) next) : o.wp E.P a w next Q := by
 obtain ⟨i, hi, _, h0⟩ := typ_runs hT hr
 split at h0
 ·rename_i fo ft hf
  obtain ⟨fields, fl, k1, k2, k3, k4, k5⟩ := under_struct hi hf
  obtain ⟨b, rs1, h1, h2⟩ := opnd_runs h h0
  have run : ∀ bb oo, a.eval y = .pointer (some ⟨bb, oo, none⟩) → (execOp a.eval o).run E.P w = .ok (.value (.pointer (some ⟨bb, oo + fo, none⟩))) w := by
   intro bb oo he
   have hs := size_run (w := w) (P := E.P) (t := fl.type) (by rw [k4]; exact k5)
   rw [k4] at hs
   simp only [execOp, ho, Instr.fieldAt, underlying, k1, k2, Sem.run_bind, run_program, Result.andThen_ok, Sem.run_pure, he, Instr.sureAddr, fieldPlace, k4, hs, k5, if_false, Sem.run_ite, k3, addr_add]
  unfold addrM at h1
  generalize hv : a.eval y = v at h2
  split at h1
  ·cases h2 with
   | bx q2 q3 q4 => exact fin h h1 hl (.bx q2 q3 q4) (run _ _ hv) hn
  ·cases h2 with
   | dp q2 q3 q4 q5 =>
    rename_i aa ob cells
    have ha : aa.spot = none ∨ True := .inr trivial
    by_cases hp : aa.spot = none
    ·obtain ⟨ab, ao, as_⟩ := aa
     simp only at hp; subst hp
     refine fin h h1 hl (.dp q2 q3 q4 fun hg e rows r hc hr => ?_) (run _ _ hv) hn
     obtain ⟨u, b, p1, p2, p3⟩ := q5 hg e rows r hc hr
     injection p3 with p3 p4
     exact ⟨u, b, p1, p2, by rw [p3, p4, Nat.add_assoc]⟩
    ·have hs := size_run (w := w) (P := E.P) (t := fl.type) (by rw [k4]; exact k5)
     rw [k4] at hs
     refine fin h h1 hl (.dp (a := aa.add fo) q2 q3 q4 fun hg e rows r hc hr => ?_) ?_ hn
     ·obtain ⟨u, b, p1, p2, p3⟩ := q5 hg e rows r hc hr
      rw [p3] at hp; exact absurd rfl hp
     ·simp only [execOp, ho, Instr.fieldAt, underlying, k1, k2, Sem.run_bind, run_program, Result.andThen_ok, Sem.run_pure, hv, Instr.sureAddr, fieldPlace, k4, hs, k5, if_false, Sem.run_ite, k3]
  ·cases h2 with
   | @ep _ _ b k _ had hrow =>
    refine fin h h1 hl (v := .pointer (some ⟨b, k + _ + fo, none⟩)) ?_ (run _ _ hv) hn
    rw [Nat.add_assoc]
    exact .ep had hrow
  ·cases h2 with
   | cp q1 q2 q3 q4 => exact fin h h1 hl (.cp q1 q2 q3 q4) (run _ _ hv) hn
  ·cases h1
 ·cases h0
theorem asIntOf_run {P : Program} {k : IntKind} {n : Int} : (asIntOf (.int k n)).run P w = .ok (k, n) w := rfl
theorem FR.slice_inv {F : Frs} {rows : List (List C)} {v : Value} (h : FR w F (.sl rows) v) : ∃ aa cap, v = .slice aa rows.length cap ∧ rows.length ≤ cap ∧ cap ≤ maxLen := by
 cases h with
 | sl val hn hc hm => exact ⟨_, _, by rw [hn], by omega, hm⟩
theorem ref_slice {pend : List (Nat × Ob)} {id : Nat} {p : Pth} {ob : Ob} {cells : List C} {e : TypeId} {rows : List (List C)} {v : Value} (h : Rel E.P x (st.pend pend) a w L ow) (h1 : (st.pend pend).o[id]? = some ob) (h2 : ob.cells = some cells) (h3 : getC cells p = some (.us e rows)) (hv : ValAt E.P w (L id) cells p v) :
  ∃ aa cap, v = .slice aa rows.length cap ∧ rows.length ≤ cap ∧ cap ≤ maxLen := own_len (ownAt_oc h h1 h2 h3 hv)
theorem run_indexAt {P : Program} {t e : TypeId} {ad : Addr} {n cap : Nat} {k : IntKind} {i : Int} {sz : Nat} (hu : P.underlying t = some (.slice e)) (hs : (Go.sizeOf e).run P w = .ok sz w) (h0 : 0 ≤ i) (h1 : i < n) :
  (Instr.indexAt t (.slice (some ad) n cap) (.int k i)).run P w = .ok (.pointer (some (ad.add (i.toNat * sz)))) w := by
 simp [Instr.indexAt, asIntOf_run, underlying, hu, h0, h1, hs]
theorem sound_indexAddr {t : TypeId} {y z : Operand} (hT : TOk E) (h : Rel E.P x st a w L ow) (ho : o.op = .indexAddr t y z)
  (hr : Runs E.P st (typ E t fun i => opnd y fun a => opnd z fun b => asInt b fun _ n => indexAddrM E o.dst i a n) rs d) (hl : ∀ p ∈ d.s, p.1 < st.s.length) (hn : Good E x (st.app d) next) : o.wp E.P a w next Q := by
 obtain ⟨i, hi, _, h0⟩ := typ_runs hT hr
 obtain ⟨b, rs1, h1, h2⟩ := opnd_runs h h0
 obtain ⟨c, rs2, h3, h4⟩ := opnd_runs h h1
 obtain ⟨k, n, hz, rfl, h5⟩ := asInt_runs h3 h4
 obtain ⟨dsc, u1, _, _, u4⟩ := hi.under
 unfold indexAddrM at h5
 split at h5
 ·rename_i e hk
  rw [hk] at u4
  simp only at u4; subst u4
  obtain ⟨ie, hie, hpp, h6⟩ := elt_runs hT h5
  have hsz := sizeOf_run (w := w) hie
  have run : ∀ ad len cap, a.eval y = .slice (some ad) len cap → 0 ≤ n → n < len → (execOp a.eval o).run E.P w = .ok (.value (.pointer (some (ad.add (n.toNat * ie.size))))) w := by
   intro ad len cap he hn0 hn1
   simp [execOp, ho, he, hz, run_indexAt u1 hsz hn0 hn1]
  generalize hv : a.eval y = v at h2
  split at h6
  ·cases h2 with
   | one hs => cases hs with
    | c hf =>
     cases h6 with
     | need hn0 h7 =>
      cases h7 with
      | row hrow h8 =>
       rename_i rows r
       obtain ⟨hb, h9⟩ := runs_cond h8
       have hb := Nat.eq_of_beq_eq_true hb
       have hlt := (List.getElem?_eq_some_iff.1 hrow).1
       cases hf with
       | @sl _ aa m cap sz val q1 q2 q3 q4 q5 q6 =>
        have hrsz := q4 r (List.mem_of_getElem? hrow)
        have hpos := hpp
        obtain ⟨b0, o0, ha, _⟩ := q5 n.toNat r 0 _ hrow (List.getElem?_eq_getElem (by omega))
        subst ha
        refine fin h h9 hl (v := .pointer (some ⟨b0, o0 + n.toNat * ie.size + 0, none⟩)) (.ep (fun _ h => nomatch h) fun j c hj => ?_) ?_ hn
        ·obtain ⟨b1, o1, ha, hF, hcl⟩ := q5 n.toNat r j c hrow hj
         injection ha with ha; injection ha with ha1 ha2; subst ha1; subst ha2
         refine ⟨hF, _, ?_, q6 n.toNat r j c hrow hj⟩
         rw [← hrsz, hb, ← Nat.add_assoc] at hcl
         exact hcl
        ·rw [Nat.add_zero, ← addr_add]
         exact run _ _ _ hv hn0 (by omega)
  ·rename_i id g off
   cases h2 with
   | one hs =>
    obtain ⟨ob, cells, e', rows, rs3, k1, k2, k3, k5, k6⟩ := hdAt_own h h6 hs
    obtain ⟨hb, h7⟩ := runs_cond k6
    have hb := Nat.eq_of_beq_eq_true hb
    subst hb
    cases h7 with
    | need hn0 h9 =>
      have k1' : st.o[id]? = some ob := k1
      have hoc := ownAt_oc (pend := []) h k1 k2 k3 k5
      obtain ⟨aa, cap, rfl, _, _⟩ := own_len hoc
      cases hoc with
      | us hown hp hsz' how ih =>
       have hpos := hpp
       have hlt : n.toNat * E.P.cellsOf e + 0 < rows.length * E.P.cellsOf e := idx_lt (by omega) hp
       obtain ⟨g', cap', hvv, _⟩ := ownsRow_cell hown hlt
       injection hvv with hvv; subst hvv
       refine fin h h9 hl (v := .pointer (some ⟨g', n.toNat * E.P.cellsOf e + 0, none⟩)) (.dp k1' k2 (Nat.le_refl _) fun _ e2 rows2 r2 q1 q2 => ?_) ?_ hn
       ·have k3' : cells[off]? = some (.us e rows) := k3
        rw [k3'] at q1; injection q1 with q1; injection q1 with q1 q3; subst q1; subst q3
        exact ⟨_, g', k5, rfl, rfl⟩
       ·rw [hie.cells, Nat.add_zero, ← Nat.zero_add (n.toNat * ie.size), ← addr_add]
        exact run _ _ _ hv hn0.1 (by simpa using hn0.2)
  ·rename_i id g off lo m
   cases h2 with
   | one hs =>
    obtain ⟨ob, cells, e', rows, rs3, v0, k1, k2, k3, k5, k7, k8, k6⟩ := hdAt_view h6 hs
    obtain ⟨hb, h7⟩ := runs_cond k6
    have hb := Nat.eq_of_beq_eq_true hb
    subst hb
    cases h7 with
    | need hn0 h9 =>
      have k1' : st.o[id]? = some ob := k1
      have hoc := ownAt_oc (pend := []) (p := .cell off) h k1 k2 k3 k5
      obtain ⟨aa, cap, rfl, _, _⟩ := own_len hoc
      cases hoc with
      | us hown hp hsz' how ih =>
       have hlt : (lo + n.toNat) * E.P.cellsOf e + 0 < rows.length * E.P.cellsOf e := idx_lt (by omega) hp
       obtain ⟨g', cap', hvv, hc1, _⟩ := ownsRow_cell hown hlt
       injection hvv with hvv _ hcap; subst hvv; subst hcap
       refine fin h h9 hl (v := .pointer (some ⟨g', (lo + n.toNat) * E.P.cellsOf e + 0, none⟩)) (.dp k1' k2 (Nat.le_refl _) fun _ e2 rows2 r2 q1 q2 => ?_) ?_ hn
       ·rw [k3] at q1; injection q1 with q1; injection q1 with q1 q3; subst q1; subst q3
        exact ⟨_, g', k5, rfl, rfl⟩
       ·have hv' : a.eval y = .slice (some ⟨g', 0 + lo * E.P.cellsOf e, none⟩) m (cap - lo) := by
         rw [hv, k8]
         simp only [resliced]
         rw [if_neg (by omega)]
         simp [addr_add]
        have := run _ _ _ hv' hn0.1 hn0.2
        rw [this]
        simp [addr_add, hie.cells, Nat.add_mul]
  ·cases h6
 ·rename_i m e hk
  rw [hk] at u4
  simp only at u4; subst u4
  obtain ⟨ie, hie, _, h6⟩ := typ_runs hT h5
  have hsz := sizeOf_run (w := w) hie
  generalize hv : a.eval y = v at h2
  split at h6
  ·cases h6 with
   | need hn0 h7 =>
    cases h2 with
    | bx q2 q3 q4 =>
     refine fin h h7 hl (.bx q2 q3 q4) ?_ hn
     simp [execOp, ho, hv, hz, Instr.indexAt, asIntOf_run, underlying, u1, hn0.1, hn0.2, hsz, Instr.sureAddr, addr_add]
  ·cases h6
 ·cases h5
end
end Ev

namespace Ev
open Go
section
variable {E : Env} {x : Cx} {st : St} {a : Act} {w w' : World} {L L' : Nat → Pl} {ow ow' : Own} {rs : List Loc} {d : Delta} {o : Oper} {next : Act → World → Prop} {Q : Exit → Act → World → Prop}
theorem sound_index {t : TypeId} {y z : Operand} (hT : TOk E) (h : Rel E.P x st a w L ow) (ho : o.op = .index t y z)
  (hr : Runs E.P st (typ E t fun i => opnd y fun a => opnd z fun b => asInt b fun _ n => match i.kind, a with
  | .str, .one (.c (.v (.string s))) => .need (0 ≤ n ∧ n < s.size) (out o.dst (av (.int .u8 (byteAt s n))) [])
  | _, _ => .fail) rs d) (hl : ∀ p ∈ d.s, p.1 < st.s.length) (hn : Good E x (st.app d) next) : o.wp E.P a w next Q := by
 obtain ⟨i, hi, _, h0⟩ := typ_runs hT hr
 obtain ⟨b, rs1, h1, h2⟩ := opnd_runs h h0
 obtain ⟨c, rs2, h3, h4⟩ := opnd_runs h h1
 obtain ⟨k, n, hz, rfl, h5⟩ := asInt_runs h3 h4
 obtain ⟨dsc, u1, _, _, u4⟩ := hi.under
 split at h5
 ·rename_i s hk
  rw [hk] at u4; simp only at u4; subst u4
  have hy := avr_one_v h2
  cases h5 with
  | need hb h6 =>
   refine fin h h6 hl (avr_v rfl) ?_ hn
   have hlt : n.toNat < s.size := by omega
   have : s[n.toNat]? = some s[n.toNat] := getElem?_pos s n.toNat hlt
   simp [execOp, ho, hy, hz, Instr.index, asIntOf_run, underlying, u1, hb.1, byteAt, hlt]
 ·cases h5
theorem sound_len {t : TypeId} {y : Operand} (hT : TOk E) (h : Rel E.P x st a w L ow) (ho : o.op = .call { callee := .builtin .len, args := #[y], argTypes := #[t] })
  (hr : Runs E.P st (typ E t fun i => opnd y fun a => lenM o.dst i a) rs d) (hl : ∀ p ∈ d.s, p.1 < st.s.length) (hn : Good E x (st.app d) next) : o.wp E.P a w next Q := by
 obtain ⟨i, hi, _, h0⟩ := typ_runs hT hr
 obtain ⟨b, rs1, h1, h2⟩ := opnd_runs h h0
 obtain ⟨dsc, u1, _, _, u4⟩ := hi.under
 have slc : ∀ e aa n cap, E.P.underlying t = some (.slice e) → a.eval y = .slice aa n cap → (execOp a.eval o).run E.P w = .ok (.value (.int .i64 n)) w := by
  intro e aa n cap hu he
  simp [execOp, ho, resolve, invoke, builtin, Builtin.len_, he, underlying, hu, goInt]
 unfold lenM at h1
 generalize hv : a.eval y = v at h2
 split at h1
 ·rename_i s hk
  rw [hk] at u4; simp only at u4; subst u4
  have hy := avr_one_v h2
  subst hy
  exact fin h h1 hl (avr_v rfl) (by simp [execOp, ho, resolve, invoke, builtin, Builtin.len_, hv, underlying, u1, goInt]) hn
 ·rename_i e hk
  rw [hk] at u4; simp only at u4; subst u4
  have hy := avr_one_v h2
  subst hy
  exact fin h h1 hl (avr_v rfl) (slc _ _ _ _ u1 hv) hn
 ·rename_i e rows hk
  rw [hk] at u4; simp only at u4; subst u4
  cases h2 with
  | one hs => cases hs with
   | c hf =>
    obtain ⟨aa, cap, rfl, _, _⟩ := hf.slice_inv
    exact fin h h1 hl (avr_v rfl) (slc _ _ _ _ u1 hv) hn
 ·rename_i e id g off hk
  rw [hk] at u4; simp only at u4; subst u4
  cases h2 with
  | one hs =>
   obtain ⟨ob, cells, e', rows, rs3, k1, k2, k3, k5, k6⟩ := hdAt_own h h1 hs
   obtain ⟨aa, cap, rfl, _, _⟩ := ref_slice (pend := []) h k1 k2 k3 k5
   exact fin h k6 hl (avr_v rfl) (slc _ _ _ _ u1 hv) hn
 ·rename_i e id g p _ hk
  rw [hk] at u4; simp only at u4; subst u4
  cases h2 with
  | one hs =>
   obtain ⟨ob, cells, put, e', rows, rs3, k1, k2, k3, k4, k5, k6⟩ := ownAt_runs (pend := []) h h1 (by simp) hs
   obtain ⟨aa, cap, rfl, _, _⟩ := ref_slice (pend := []) h k1 k2 k3 k5
   exact fin h k6 hl (avr_v rfl) (slc _ _ _ _ u1 hv) hn
 ·rename_i e id g off lo n hk
  rw [hk] at u4; simp only at u4; subst u4
  cases h2 with
  | one hs =>
   cases hs with
   | view k1 =>
    obtain ⟨aa, cap, rfl⟩ := k1
    exact fin h h1 hl (avr_v rfl) (slc _ _ _ _ u1 hv) hn
 ·rename_i n e hk
  rw [hk] at u4; simp only at u4; subst u4
  refine fin h h1 hl (avr_v rfl) ?_ hn
  simp [execOp, ho, resolve, invoke, builtin, Builtin.len_, hv, underlying, u1, goInt]
 ·cases h1
theorem sound_extract {y : Operand} {n : Nat} (h : Rel E.P x st a w L ow) (ho : o.op = .extract y n)
  (hr : Runs E.P st (opnd y fun | .tup l => (match l[n]? with | some a => out o.dst a [] | none => .fail) | _ => .fail) rs d) (hl : ∀ p ∈ d.s, p.1 < st.s.length) (hn : Good E x (st.app d) next) : o.wp E.P a w next Q := by
 obtain ⟨b, rs1, h1, h2⟩ := opnd_runs h hr
 generalize hv : a.eval y = v at h2
 split at h1
 ·rename_i l
  split at h1
  ·rename_i c hc
   cases h2 with
   | @tup _ vs q1 q2 =>
    have hlt : n < vs.size := by rw [← q1]; exact (List.getElem?_eq_some_iff.1 hc).1
    have hg : vs[n]? = some vs[n] := Array.getElem?_eq_getElem hlt
    exact fin h h1 hl (q2 n c _ hc hg) (by simp [execOp, ho, hv, Instr.extract, hg]) hn
  ·cases h1
 ·cases h1
theorem sound_nil {y : Operand} (h : Rel E.P x st a w L ow) (ho : o.op = .nilCheck y)
  (hr : Runs E.P st (opnd y fun a => match a with
  | .bx _ _ => out o.dst a []
  | .dp _ _ _ _ _ => out o.dst a []
  | .ep _ _ _ => out o.dst a []
  | .cp _ _ => out o.dst a []
  | .clo _ _ => out o.dst a []
  | _ => .fail) rs d) (hl : ∀ p ∈ d.s, p.1 < st.s.length) (hn : Good E x (st.app d) next) : o.wp E.P a w next Q := by
 obtain ⟨b, rs1, h1, h2⟩ := opnd_runs h hr
 have key : ∀ v, a.eval y = v → ((∃ ad, v = .pointer (some ad)) ∨ ∃ f vs, v = .func (.func f) #[] vs) → (execOp a.eval o).run E.P w = .ok (.value v) w := by
  rintro v hv (⟨ad, rfl⟩ | ⟨f, vs, rfl⟩) <;> simp [execOp, ho, hv]
 generalize hv : a.eval y = v at h2
 split at h1
 ·exact fin h h1 hl h2 (key _ hv (.inl (by cases h2; exact ⟨_, rfl⟩))) hn
 ·exact fin h h1 hl h2 (key _ hv (.inl (by cases h2; exact ⟨_, rfl⟩))) hn
 ·exact fin h h1 hl h2 (key _ hv (.inl (by cases h2; exact ⟨_, rfl⟩))) hn
 ·exact fin h h1 hl h2 (key _ hv (.inl (by cases h2; exact ⟨_, rfl⟩))) hn
 ·exact fin h h1 hl h2 (key _ hv (.inr (by cases h2; exact ⟨_, _, rfl⟩))) hn
 ·cases h1
theorem sound_makeFunc {g : FuncId} {cs : Array Operand} (h : Rel E.P x st a w L ow) (ho : o.op = .makeFunc (.func g) #[] cs)
  (hr : Runs E.P st (opnds cs.toList [] fun l => out o.dst (.clo g l) []) rs d) (hl : ∀ p ∈ d.s, p.1 < st.s.length) (hn : Good E x (st.app d) next) : o.wp E.P a w next Q := by
 obtain ⟨bs, rs1, h1, h2, h3⟩ := opnds_runs h hr
 refine fin h h1 hl (v := .func (.func g) #[] (cs.map a.eval)) (.clo (by simp [h2]) fun i b v hi hv => h3 i b v (by simpa using hi) (by simpa using hv)) ?_ hn
 simp [execOp, ho, Instr.makeFunc]
theorem sound_makeIface {t : TypeId} {y : Operand} (h : Rel E.P x st a w L ow) (ho : o.op = .makeInterface t y)
  (hr : Runs E.P st (opnd y fun a => out o.dst (.ifc t a) []) rs d) (hl : ∀ p ∈ d.s, p.1 < st.s.length) (hq : (Instr.makeInterface t (a.eval y)).run E.P w = .ok (.iface t (a.eval y)) w) (hn : Good E x (st.app d) next) : o.wp E.P a w next Q := by
 obtain ⟨b, rs1, h1, h2⟩ := opnd_runs h hr
 exact fin h h1 hl (.ifc h2) (by simp [execOp, ho, hq]) hn
theorem sound_minmax {lt : Bool} {y z : Operand} {tys : Array TypeId} (h : Rel E.P x st a w L ow) (ho : o.op = .call { callee := .builtin (if lt then .min else .max), args := #[y, z], argTypes := tys })
  (hr : Runs E.P st (opnd y fun a => opnd z fun b => minmaxM o.dst lt a b) rs d) (hl : ∀ p ∈ d.s, p.1 < st.s.length) (hn : Good E x (st.app d) next) : o.wp E.P a w next Q := by
 obtain ⟨b, rs1, h1, h2⟩ := opnd_runs h hr
 obtain ⟨c, rs2, h3, h4⟩ := opnd_runs h h1
 unfold minmaxM at h3
 split at h3
 ·have hy := avr_one_v h2
  have hz := avr_one_v h4
  cases lt with
  | true => exact fin h h3 hl (avr_v rfl) (by simp [execOp, ho, resolve, invoke, builtin, Builtin.min_, Builtin.min2, hy, hz]) hn
  | false => exact fin h h3 hl (avr_v rfl) (by simp [execOp, ho, resolve, invoke, builtin, Builtin.max_, Builtin.max2, hy, hz]) hn
 ·rename_i m n
  have hy := avr_one_v h2
  have hz := avr_one_v h4
  cases h3 with
  | split h5 =>
   cases lt with
   | true =>
    cases hb : (Op.bytesLess m.toList n.toList || m.toList == n.toList) with
    | true =>
     simp only [if_true, hb, cond_true] at h5
     exact fin h h5 hl (avr_v rfl) (by simp [execOp, ho, resolve, invoke, builtin, Builtin.min_, Builtin.min2, hy, hz, Op.stringOp, Go.asBool, hb]) hn
    | false =>
     simp only [if_true, hb, cond_false] at h5
     exact fin h h5 hl (avr_v rfl) (by simp [execOp, ho, resolve, invoke, builtin, Builtin.min_, Builtin.min2, hy, hz, Op.stringOp, Go.asBool, hb]) hn
   | false =>
    cases hb : Op.bytesLess m.toList n.toList with
    | true =>
     simp [hb] at h5
     exact fin h h5 hl (avr_v rfl) (by simp [execOp, ho, resolve, invoke, builtin, Builtin.max_, Builtin.max2, hy, hz, Op.stringOp, Go.asBool, hb]) hn
    | false =>
     simp [hb] at h5
     exact fin h h5 hl (avr_v rfl) (by simp [execOp, ho, resolve, invoke, builtin, Builtin.max_, Builtin.max2, hy, hz, Op.stringOp, Go.asBool, hb]) hn
 ·cases h3
theorem bnd_runs {y : Option Operand} {dflt : Int} {k : Int → M} (h : Rel E.P x st a w L ow) (hr : Runs E.P st (bnd y dflt k) rs d) : ∃ n rs', Runs E.P st (k n) rs' d ∧ ((y = none ∧ n = dflt) ∨ ∃ kk, y.map a.eval = some (.int kk n)) := by
 cases y with
 | none => exact ⟨dflt, rs, hr, .inl ⟨rfl, rfl⟩⟩
 | some y =>
  obtain ⟨b, rs1, h1, h2⟩ := opnd_runs h hr
  obtain ⟨k, n, hv, rfl, h3⟩ := asInt_runs h1 h2
  exact ⟨n, rs1, h3, .inr ⟨k, by simp [hv]⟩⟩
theorem run_bounds {P : Program} {isS : Bool} {n c : Nat} {lo hi : Option Value} {l h : Int} (hh : (hi = none ∧ h = n) ∨ ∃ kk, hi = some (.int kk h)) (hl : (lo = none ∧ l = 0) ∨ ∃ kk, lo = some (.int kk l)) (h0 : 0 ≤ l) (h1 : l ≤ h) (h2 : h ≤ n) (h3 : n ≤ c) :
  (Instr.sliceBounds isS n c lo hi none).run P w = .ok (l.toNat, h.toNat, c) w := by
 have e1 : h ≤ c := by omega
 have e2 : 0 ≤ h := by omega
 have e3 : (h.toNat : Int) = h := Int.toNat_of_nonneg e2
 rcases hh with ⟨rfl, rfl⟩ | ⟨k, rfl⟩ <;> rcases hl with ⟨rfl, rfl⟩ | ⟨k', rfl⟩ <;> simp [Instr.sliceBounds, Instr.sliceBound, asIntOf_run, h0, h1, e1, e2] <;> (intro hcc; exfalso; omega)
theorem FR.sub {F : Frs} {rows : List (List C)} {v : Value} {sz l n : Nat} (h : FR w F (.sl rows) v) (hs : ∀ r ∈ rows, r.length = sz) (hl : l + n ≤ rows.length) : FR w F (.sl ((rows.drop l).take n)) (resliced v l n sz) := by
 cases h with
 | @sl _ aa m cap sz' val q1 q2 q3 q4 q5 q6 =>
  have hlen : ((rows.drop l).take n).length = n := by simp; omega
  have get : ∀ i r, ((rows.drop l).take n)[i]? = some r → rows[l + i]? = some r ∧ i < n := fun i r hi => by
   rw [List.getElem?_take] at hi
   split at hi
   ·rw [List.getElem?_drop] at hi; exact ⟨hi, by assumption⟩
   ·cases hi
  refine .sl (sz := sz) (fun i j => val (l + i) j) hlen (by omega) (by omega) (fun r hr => hs r (List.mem_of_mem_drop (List.mem_of_mem_take hr))) (fun i r j c hi hj => ?_) (fun i r j c hi hj => q6 _ r j c (get i r hi).1 hj)
  obtain ⟨hi', hin⟩ := get i r hi
  obtain ⟨b, o, ha, hF, hc⟩ := q5 _ r j c hi' hj
  have hsz : sz' = sz := by rw [← q4 r (List.mem_of_getElem? hi'), hs r (List.mem_of_getElem? hi')]
  subst hsz; subst ha
  refine ⟨b, o + l * sz', ?_, hF, ?_⟩
  ·rw [if_neg (by omega)]; simp [addr_add]
  ·rw [← hc]; congr 2; rw [Nat.add_mul]; omega
theorem sound_slice {t : TypeId} {y : Operand} {lo hi : Option Operand} (hT : TOk E) (h : Rel E.P x st a w L ow) (ho : o.op = .slice t y lo hi none)
  (hr : Runs E.P st (typ E t fun i => opnd y fun a => sliceM E o.dst i a lo hi) rs d) (hl : ∀ p ∈ d.s, p.1 < st.s.length) (hn : Good E x (st.app d) next) : o.wp E.P a w next Q := by
 obtain ⟨i, hi', _, h0⟩ := typ_runs hT hr
 obtain ⟨b, rs1, h1, h2⟩ := opnd_runs h h0
 obtain ⟨dsc, u1, _, _, u4⟩ := hi'.under
 have conv : ∀ {y : Option Operand} {n dflt : Int}, ((y = none ∧ n = dflt) ∨ ∃ kk, y.map a.eval = some (.int kk n)) → ((y.map a.eval = none ∧ n = dflt) ∨ ∃ kk, y.map a.eval = some (.int kk n)) := fun hh => hh.imp (fun ⟨p, q⟩ => ⟨by rw [p]; rfl, q⟩) id
 unfold sliceM at h1
 generalize hv : a.eval y = v at h2
 split at h1
 ·rename_i s
  split at h1
  ·rename_i hk
   rw [hk] at u4; simp only at u4; subst u4
   have hy := avr_one_v h2; subst hy
   obtain ⟨hh, rs2, h3, e1⟩ := bnd_runs h h1
   obtain ⟨ll, rs3, h4, e2⟩ := bnd_runs h h3
   cases h4 with
   | need hb h5 =>
    refine fin h h5 hl (avr_v rfl) ?_ hn
    have := run_bounds (w := w) (P := E.P) (isS := false) (c := s.size) (conv e1) (conv e2) hb.1 hb.2.1 hb.2.2 (Nat.le_refl _)
    simp [execOp, ho, Instr.sliceAt, Instr.slice, underlying, u1, hv, this]
  ·cases h1
 ·rename_i rows
  split at h1
  ·rename_i e hk
   rw [hk] at u4; simp only at u4; subst u4
   obtain ⟨ie, hie, _, h1⟩ := typ_runs hT h1
   obtain ⟨hh, rs2, h3, e1⟩ := bnd_runs h h1
   obtain ⟨ll, rs3, h4, e2⟩ := bnd_runs h h3
   cases h4 with
   | need hb h5 =>
    cases h2 with
    | one hs => cases hs with
     | c hf =>
      have hsub := hf.sub (l := ll.toNat) (n := (hh - ll).toNat) (sz := ie.size) hb.2.2.2 (by omega)
      obtain ⟨aa, cap, rfl, hc1, hc2⟩ := hf.slice_inv
      refine fin h h5 hl (.one (.c hsub)) ?_ hn
      have := run_bounds (w := w) (P := E.P) (isS := true) (c := cap) (conv e1) (conv e2) hb.1 hb.2.1 hb.2.2.1 hc1
      have hd : hh.toNat - ll.toNat = (hh - ll).toNat := by omega
      simp [execOp, ho, Instr.sliceAt, Instr.slice, underlying, u1, hv, this, sizeOf_run hie, resliced, hd]
  ·cases h1
 ·rename_i id g off
  split at h1
  ·rename_i e hk
   rw [hk] at u4; simp only at u4; subst u4
   cases h2 with
   | one hs =>
    obtain ⟨ob, cells, put, e', rows, rs3, k1, k2, k3, k4, k5, k6⟩ := ownAt_runs (pend := []) h h1 (by simp) hs
    obtain ⟨hb1, h1⟩ := runs_cond k6
    have hb1 := Nat.eq_of_beq_eq_true hb1
    subst hb1
    obtain ⟨hh, rs2, h3, e1⟩ := bnd_runs h h1
    obtain ⟨ll, rs3, h4, e2⟩ := bnd_runs h h3
    cases h4 with
    | need hb h5 =>
     cases h5 with
     | obj ho1 h6 =>
      have k1' : st.o[id]? = some ob := k1
      rw [k1'] at ho1; injection ho1 with ho1; subst ho1
      have hoc := ownAt_oc (pend := []) h k1 k2 k3 k5
      have hpos : E.P.cellsOf e ≠ 0 := by cases hoc with | us _ hp => omega
      obtain ⟨aa, cap, rfl, hc1, hc2⟩ := own_len hoc
      refine fin h h6 hl (v := resliced (.slice aa rows.length cap) ll.toNat (hh - ll).toNat (E.P.cellsOf e)) (.one (.view ⟨_, _, rfl⟩ k1' k2 (Nat.le_refl _) fun _ e2 rows2 q1 => ?_)) ?_ hn
      ·have k3' : cells[off]? = some (.us e rows) := k3
       rw [k3'] at q1; injection q1 with q1; injection q1 with q1 q3; subst q1; subst q3
       exact ⟨by omega, _, k5, rfl⟩
      ·have := run_bounds (w := w) (P := E.P) (isS := true) (c := cap) (conv e1) (conv e2) hb.1 hb.2.1 hb.2.2 hc1
       have hd : hh.toNat - ll.toNat = (hh - ll).toNat := by omega
       simp [execOp, ho, Instr.sliceAt, Instr.slice, underlying, u1, hv, this, size_run hpos, resliced, hd]
  ·cases h1
 ·rename_i id off
  split at h1
  ·rename_i n e hk
   rw [hk] at u4; simp only at u4; subst u4
   obtain ⟨ie, hie, _, h1⟩ := typ_runs hT h1
   cases h1 with
   | obj g1 h1 =>
    obtain ⟨cells, g2, h1⟩ := cellsOf_runs h1
    cases h2 with
    | bx k2 k3 k4 =>
     refine fin h h1 hl (.bs k2 k3 k4) ?_ hn
     have := run_bounds (w := w) (P := E.P) (isS := false) (n := n) (c := n) (lo := none) (hi := none) (l := 0) (h := (n : Int)) (.inl ⟨rfl, rfl⟩) (.inl ⟨rfl, rfl⟩) (by omega) (by omega) (by omega) (Nat.le_refl _)
     simp only [Int.toNat_zero, Int.toNat_natCast] at this
     simp [execOp, ho, Instr.sliceAt, underlying, u1, hv, this, sizeOf_run hie, Instr.sureAddr, Addr.add]
  ·cases h1
 ·cases h1
end
end Ev

namespace Ev
open Go
section
variable {E : Env} {x : Cx} {st : St} {a : Act} {w w' : World} {L L' : Nat → Pl} {ow ow' : Own} {rs : List Loc} {d : Delta} {o : Oper} {next : Act → World → Prop} {Q : Exit → Act → World → Prop}
theorem pend_cons {pend : List (Nat × Ob)} {id : Nat} {b : Ob} : st.pend ((id, b) :: pend) = { (st.pend pend) with o := (st.pend pend).o.set id b } := rfl
theorem Hand.nil {P : Program} {F : Frs} {hid : Nat} : Hand P w F ow hid [] [] := ⟨rfl, by simp, by simp⟩
theorem Hand.snoc {P : Program} {F : Frs} {hid : Nat} {cs : List C} {vs : List Value} {c : C} {v : Value} (h : Hand P w F ow hid cs vs) (hc : OC P w F ow [hid, cs.length] c v) (hnm : ∀ T, c ≠ .me T := by intro T h; cases h) : Hand P w F ow hid (cs ++ [c]) (vs ++ [v]) := by
 refine ⟨by simp [h.1], fun k c' v' hk hv => ?_, fun k T hk => ?_⟩
 rotate_left
 ·rw [List.getElem?_append] at hk
  split at hk
  ·exact h.2.2 k T hk
  ·rw [List.getElem?_singleton] at hk
   split at hk
   ·injection hk with hk; exact hnm T hk
   ·cases hk
 by_cases hlt : k < cs.length
 ·rw [List.getElem?_append_left hlt] at hk
  rw [List.getElem?_append_left (by rw [h.1]; exact hlt)] at hv
  exact h.2.1 k c' v' hk hv
 ·rw [List.getElem?_append_right (by omega)] at hk
  rw [List.getElem?_append_right (by rw [h.1]; omega)] at hv
  have : k = cs.length := by
   have := (List.getElem?_eq_some_iff.1 hk).1
   simp at this; omega
  subst this
  simp at hk; subst hk
  simp [h.1] at hv; subst hv
  exact hc
theorem Hand.move {P : Program} {F F' : Frs} {hid : Nat} {cs : List C} {vs : List Value} (h : Hand P w F ow hid cs vs) (hF : FStep w w' F F') (hO : ∀ k r, ow k = some (hid :: r) → w'.heap[k]? = w.heap[k]? ∧ ow' k = some (hid :: r)) : Hand P w' F' ow' hid cs vs :=
 ⟨h.1, fun k c v hk hv => (h.2.1 k c v hk hv).move hF fun b r hb => hO b (k :: r) hb, h.2.2⟩
theorem SCR.toOC {P : Program} {F : Frs} {ob : List Ob} {p : List Nat} {c : C} {v : Value} (h : SCR P w F L ob (.c c) v) (hc : c.isUs = false) : OC P w F ow p c v := by
 cases h with
 | c hf => cases hf with
  | v h => exact .v h
  | x h => exact .x h
  | sl val h1 h2 h3 h4 h5 h6 => exact .sl (.sl val h1 h2 h3 h4 h5 h6)
  | ex h => exact .ex h
theorem OStep.tell {id : Nat} {ob : Ob} {cells : List C} {p : Pth} {n : C} (h : Rel E.P x st a w L ow) (ho : st.o[id]? = some ob) (hc : ob.cells = some cells) (hnu : ∀ e r, n ≠ .us e r) :
  OStep E.P w w L L st.o (st.o.set id { ob with cells := some (putC cells n p) }) := by
 intro id' ob' cells' h1 h2
 by_cases hi : id' = id
 ·subst hi
  rw [ho] at h1; injection h1 with h1; subst h1
  rw [hc] at h2; injection h2 with h2; subst h2
  refine ⟨_, _, List.getElem?_set_self (List.getElem?_eq_some_iff.1 ho).1, rfl, Nat.le_refl _, rfl, fun _ off e rows' hoff => ?_⟩
  obtain ⟨rows, g1, g2, _, g3⟩ := getC_put_other hoff hnu
  refine ⟨rows, g1, g2, rfl, fun i r' j e2 rows2' hi hj => ?_⟩
  obtain ⟨⟨r, k1, k2⟩, _⟩ := g3 i r' j e2 rows2' hi hj
  exact ⟨r, rows2', k1, k2, fun _ _ _ _ => rfl⟩
 ·exact ⟨ob', cells', by rw [List.getElem?_set_ne (Ne.symm hi)]; exact h1, h2, Nat.le_refl _, rfl, fun _ => ObStep.same (h.objs id' ob' cells' h1 h2) fun _ _ _ => rfl⟩
theorem ObStep.trans {P : Program} {w1 w2 w3 : World} {pl : Pl} {c1 c2 c3 : List C} (h : ObStep P w1 w2 pl c1 c2) (h' : ObStep P w2 w3 pl c2 c3) : ObStep P w1 w3 pl c1 c3 := by
 intro off e rows' h3
 obtain ⟨rows2, q1, q2, q3, q4⟩ := h' off e rows' h3
 obtain ⟨rows1, p1, p2, p3, p4⟩ := h off e rows2 q1
 refine ⟨rows1, p1, p2.trans q2, q3.trans p3, fun i r' j e2 rows2' hi hj => ?_⟩
 obtain ⟨r2, s2, k1, k2, k3⟩ := q4 i r' j e2 rows2' hi hj
 obtain ⟨r1, s1, m1, m2, m3⟩ := p4 i r2 j e2 s2 k1 k2
 exact ⟨r1, s1, m1, m2, fun u g hu hg => (k3 u g (p3.trans hu) hg).trans (m3 u g hu hg)⟩
theorem OStep.trans {P : Program} {w1 w2 w3 : World} {L1 L2 L3 : Nat → Pl} {o1 o2 o3 : List Ob} (h : OStep P w1 w2 L1 L2 o1 o2) (h' : OStep P w2 w3 L2 L3 o2 o3) : OStep P w1 w3 L1 L3 o1 o3 := by
 intro id ob cells h1 h2
 obtain ⟨ob2, c2, p1, p2, p3, p4, p5⟩ := h id ob cells h1 h2
 obtain ⟨ob3, c3, q1, q2, q3, q4, q5⟩ := h' id ob2 c2 p1 p2
 refine ⟨ob3, c3, q1, q2, Nat.le_trans p3 q3, q4.trans p4, fun hg => ?_⟩
 have e1 : ob2.g = ob.g := by omega
 exact (p5 e1).trans (by rw [← p4]; exact q5 (by omega))
theorem OStep.refl (h : Rel E.P x st a w L ow) : OStep E.P w w L L st.o st.o := fun id ob cells h1 h2 => ⟨ob, cells, h1, h2, Nat.le_refl _, rfl, fun _ => ObStep.same (h.objs id ob cells h1 h2) fun _ _ _ => rfl⟩
theorem FStep.refl {F : Frs} : FStep w w F F := fun _ hk => ⟨rfl, hk⟩
theorem pend_none {pend : List (Nat × Ob)} {hid : Nat} (hh : st.o[hid]? = none) : (st.pend pend).o[hid]? = none := by
 have h1 := List.getElem?_eq_none_iff.1 hh
 exact List.getElem?_eq_none (by show (applyS pend st.o).length ≤ hid; rw [length_applyS]; exact h1)
theorem pend_lt {pend : List (Nat × Ob)} {id : Nat} {ob : Ob} (h : (st.pend pend).o[id]? = some ob) : id < st.o.length := by
 have := (List.getElem?_eq_some_iff.1 h).1
 have h2 : (applyS pend st.o).length = st.o.length := length_applyS _ _
 exact h2 ▸ this
theorem absM_sound {hid : Nat} : ∀ (l : List SC) (vs : List Value) (pend : List (Nat × Ob)) (acc : List C) (accv : List Value) (k : List C → List (Nat × Ob) → M) (rs : List Loc) (ow : Own),
  Rel E.P x (st.pend pend) a w L ow → Runs E.P st (absM l pend acc k) rs d → (∀ p ∈ pend, p.1 < st.o.length) → st.o[hid]? = none →
  vs.length = l.length → (∀ (i : Nat) (s : SC) (v : Value), l[i]? = some s → vs[i]? = some v → SCR E.P w (x.F w ow) L (st.pend pend).o s v) → (∀ c, SC.c c ∈ l → c.isUs = false) →
  Hand E.P w (x.F w ow) ow hid acc.reverse accv →
  ∃ cs pend' rs' ow', Runs E.P st (k cs pend') rs' d ∧ Rel E.P x (st.pend pend') a w L ow' ∧ (∀ p ∈ pend', p.1 < st.o.length) ∧ Hand E.P w (x.F w ow') ow' hid cs (accv ++ vs) ∧ FStep w w (x.F w ow) (x.F w ow') ∧ OStep E.P w w L L (st.pend pend).o (st.pend pend').o ∧
   ∀ (id : Nat) (ob : Ob), (st.pend pend).o[id]? = some ob → ob.cells = none → (st.pend pend').o[id]? = some ob := by
 intro l
 induction l with
 | nil =>
  intro vs pend acc accv k rs ow h hr hl hh hvl hs hnu hH
  have : vs = [] := List.eq_nil_of_length_eq_zero (by simpa using hvl)
  subst this
  exact ⟨acc.reverse, pend, rs, ow, hr, h, hl, by simpa using hH, FStep.refl, OStep.refl h, fun _ _ hh _ => hh⟩
 | cons s l ih =>
  intro vs pend acc accv k rs ow h hr hl hh hvl hs hnu hH
  cases vs with
  | nil => simp at hvl
  | cons v vs =>
   have hs0 := hs 0 s v rfl rfl
   have hhp := pend_none (pend := pend) hh
   have more : ∀ (id : Nat) (b : Ob), id < st.o.length → ∀ p ∈ (id, b) :: pend, p.1 < st.o.length := fun id b hid p hp => by
    rcases List.mem_cons.1 hp with hp | hp
    ·subst hp; exact hid
    ·exact hl p hp
   have keep : ∀ (id : Nat) (b ob : Ob) (cells : List C), (st.pend pend).o[id]? = some ob → ob.cells = some cells → ∀ (id' : Nat) (ob' : Ob), (st.pend pend).o[id']? = some ob' → ob'.cells = none → (st.pend ((id, b) :: pend)).o[id']? = some ob' := by
    intro id b ob cells g1 g2 id' ob' g3 g4
    have hne : id ≠ id' := fun e => by subst e; rw [g1] at g3; injection g3 with g3; subst g3; rw [g2] at g4; cases g4
    rw [pend_cons]
    show ((st.pend pend).o.set id b)[id']? = some ob'
    rw [List.getElem?_set_ne hne]; exact g3
   cases s with
   | c c =>
    obtain ⟨cs, pend', rs', ow', h1, h2, h3, h4, h5, h6, h7⟩ := ih vs pend (c :: acc) (accv ++ [v]) k rs ow h hr hl hh (by simpa using hvl) (fun i s u hi hu => hs (i + 1) s u (by simpa using hi) (by simpa using hu)) (fun c hc => hnu c (by simp [hc]))
     (by rw [List.reverse_cons]; exact hH.snoc (hs0.toOC (hnu c (by simp))) (fun T e => by have := hnu c (by simp); subst e; cases this))
    exact ⟨cs, pend', rs', ow', h1, h2, h3, by simpa using h4, h5, h6, h7⟩
   | ref id g p =>
    obtain ⟨ob, cells, put, e, rows, rs1, k1, k2, k3, k4, k5, k6⟩ := ownAt_runs h hr hl hs0
    obtain ⟨t1, t2, t3⟩ := h.take (q := [hid, acc.reverse.length]) k1 k2 k3
    have hid' : id ≠ hid := fun e => by subst e; rw [hhp] at k1; cases k1
    have hrel : Rel E.P x (st.pend ((id, put .x) :: pend)) a w L (relab (pathOf id p) [hid, acc.reverse.length] ow) := by rw [k4]; exact t1
    have hst : OStep E.P w w L L (st.pend pend).o (st.pend ((id, put .x) :: pend)).o := by rw [k4]; exact OStep.tell h k1 k2 (by simp)
    have hFs : FStep w w (x.F w ow) (x.F w (relab (pathOf id p) [hid, acc.reverse.length] ow)) := by rw [t3]; exact FStep.refl
    have hH' := hH.move hFs (ow' := relab (pathOf id p) [hid, acc.reverse.length] ow) fun k r hk => ⟨rfl, relab_out hk (pathOf_other (Ne.symm hid'))⟩
    obtain ⟨cs, pend', rs', ow', h1, h2, h3, h4, h5, h6, h7⟩ := ih vs ((id, put .x) :: pend) (.us e rows :: acc) (accv ++ [v]) k rs1 _ hrel k6 (more _ _ (pend_lt k1)) hh (by simpa using hvl)
     (fun i s u hi hu => (hs (i + 1) s u (by simpa using hi) (by simpa using hu)).step hFs hst) (fun c hc => hnu c (by simp [hc])) (by rw [List.reverse_cons]; exact hH'.snoc (by rw [t3]; exact t2 v k5))
    exact ⟨cs, pend', rs', ow', h1, h2, h3, by simpa using h4, fun k hk => h5 k (hFs k hk).2, hst.trans h6, fun id' ob' g1 g2 => h7 id' ob' (keep id _ ob cells k1 k2 id' ob' g1 g2) g2⟩
   | view id g off lo n =>
    obtain ⟨ob, cells, put, e, rows, rs1, v0, k1, k2, k3, k4, k5, k7, k8, k6⟩ := viewAt_runs hr hl hs0
    cases k6 with
    | frz hz k6 =>
     rename_i c'
     cases c' with
     | sl rows' =>
      obtain ⟨t1, t2, t3⟩ := h.freeze (p := .cell off) k1 k2 k3 hz
      have hid' : id ≠ hid := fun e => by subst e; rw [hhp] at k1; cases k1
      have hrel : Rel E.P x (st.pend ((id, put (.sl rows')) :: pend)) a w L (drop (pathOf id (.cell off)) ow) := by rw [k4]; exact t1
      have hst : OStep E.P w w L L (st.pend pend).o (st.pend ((id, put (.sl rows')) :: pend)).o := by rw [k4]; exact OStep.tell h k1 k2 (by simp)
      have hFs : FStep w w (x.F w ow) (x.F w (drop (pathOf id (.cell off)) ow)) := fun k hk => ⟨rfl, t3 k hk⟩
      have hH' := hH.move hFs (ow' := drop (pathOf id (.cell off)) ow) fun k r hk => ⟨rfl, drop_out hk (pathOf_other (Ne.symm hid'))⟩
      have hfr := t2 v0 k5
      have hrl : ∀ r ∈ rows', r.length = E.P.cellsOf e := by
       have hoc := ownAt_oc (p := .cell off) h k1 k2 k3 k5
       cases hoc with
       | us hown hp hsz how ihh =>
        cases hz with
        | us hzl hzr _ =>
         intro r hr
         obtain ⟨i, hi⟩ := List.mem_iff_getElem?.1 hr
         have hi' : i < rows.length := by rw [hzl]; exact (List.getElem?_eq_some_iff.1 hi).1
         rw [← hzr i _ _ (List.getElem?_eq_getElem hi') hi]
         exact hsz _ (List.getElem_mem hi')
      have hrl2 : rows.length = rows'.length := by cases hz with | us hzl _ _ => exact hzl
      have hsub := hfr.sub hrl (l := lo) (n := n) (by omega)
      rw [← k8] at hsub
      obtain ⟨cs, pend', rs', ow', h1, h2, h3, h4, h5, h6, h7⟩ := ih vs ((id, put (.sl rows')) :: pend) (.sl ((rows'.drop lo).take n) :: acc) (accv ++ [v]) k rs1 _ hrel k6 (more _ _ (pend_lt k1)) hh (by simpa using hvl)
       (fun i s u hi hu => (hs (i + 1) s u (by simpa using hi) (by simpa using hu)).step hFs hst) (fun c hc => hnu c (by simp [hc])) (by rw [List.reverse_cons]; exact hH'.snoc (.sl hsub))
      exact ⟨cs, pend', rs', ow', h1, h2, h3, by simpa using h4, fun k hk => h5 k (hFs k hk).2, hst.trans h6, fun id' ob' g1 g2 => h7 id' ob' (keep id _ ob cells k1 k2 id' ob' g1 g2) g2⟩
     | v _ => cases k6
     | us _ _ => cases k6
     | x => cases k6
     | mp _ => cases k6
     | ex _ _ => cases k6
     | me _ => cases k6
theorem absF_sound {hid : Nat} : ∀ (l : List SC) (vs : List Value) (pend : List (Nat × Ob)) (acc : List C) (accv : List Value) (k : List C → List (Nat × Ob) → M) (rs : List Loc) (ow : Own),
  Rel E.P x (st.pend pend) a w L ow → Runs E.P st (absF l pend acc k) rs d → (∀ p ∈ pend, p.1 < st.o.length) → st.o[hid]? = none →
  vs.length = l.length → (∀ (i : Nat) (s : SC) (v : Value), l[i]? = some s → vs[i]? = some v → SCR E.P w (x.F w ow) L (st.pend pend).o s v) → (∀ c, SC.c c ∈ l → c.isUs = false) →
  Hand E.P w (x.F w ow) ow hid acc.reverse accv →
  ∃ cs pend' rs' ow', Runs E.P st (k cs pend') rs' d ∧ Rel E.P x (st.pend pend') a w L ow' ∧ (∀ p ∈ pend', p.1 < st.o.length) ∧ Hand E.P w (x.F w ow') ow' hid cs (accv ++ vs) ∧ FStep w w (x.F w ow) (x.F w ow') ∧ OStep E.P w w L L (st.pend pend).o (st.pend pend').o ∧
   ∀ (id : Nat) (ob : Ob), (st.pend pend).o[id]? = some ob → ob.cells = none → (st.pend pend').o[id]? = some ob := by
 intro l
 induction l with
 | nil =>
  intro vs pend acc accv k rs ow h hr hl hh hvl hs hnu hH
  have : vs = [] := List.eq_nil_of_length_eq_zero (by simpa using hvl)
  subst this
  exact ⟨acc.reverse, pend, rs, ow, hr, h, hl, by simpa using hH, FStep.refl, OStep.refl h, fun _ _ hh _ => hh⟩
 | cons s l ih =>
  intro vs pend acc accv k rs ow h hr hl hh hvl hs hnu hH
  cases vs with
  | nil => simp at hvl
  | cons v vs =>
   have hs0 := hs 0 s v rfl rfl
   have hhp := pend_none (pend := pend) hh
   have more : ∀ (id : Nat) (b : Ob), id < st.o.length → ∀ p ∈ (id, b) :: pend, p.1 < st.o.length := fun id b hid p hp => by
    rcases List.mem_cons.1 hp with hp | hp
    ·subst hp; exact hid
    ·exact hl p hp
   have keep : ∀ (id : Nat) (b ob : Ob) (cells : List C), (st.pend pend).o[id]? = some ob → ob.cells = some cells → ∀ (id' : Nat) (ob' : Ob), (st.pend pend).o[id']? = some ob' → ob'.cells = none → (st.pend ((id, b) :: pend)).o[id']? = some ob' := by
    intro id b ob cells g1 g2 id' ob' g3 g4
    have hne : id ≠ id' := fun e => by subst e; rw [g1] at g3; injection g3 with g3; subst g3; rw [g2] at g4; cases g4
    rw [pend_cons]
    show ((st.pend pend).o.set id b)[id']? = some ob'
    rw [List.getElem?_set_ne hne]; exact g3
   cases s with
   | c c =>
    by_cases hnil : c = .v (.slice none 0 0)
    ·subst hnil
     have hv0 : v = nilV := by have := avr_one_v (.one hs0); exact this
     subst hv0
     have hr' : Runs E.P st (absF l pend (.sl [] :: acc) k) rs d := hr
     obtain ⟨cs, pend', rs', ow', h1, h2, h3, h4, h5, h6, h7⟩ := ih vs pend (.sl [] :: acc) (accv ++ [nilV]) k rs ow h hr' hl hh (by simpa using hvl) (fun i s u hi hu => hs (i + 1) s u (by simpa using hi) (by simpa using hu)) (fun c hc => hnu c (by simp [hc]))
      (by rw [List.reverse_cons]; exact hH.snoc (.sl (.sl (sz := 0) (fun _ _ => undef) rfl (Nat.le_refl _) (by simp [maxLen]) (by simp) (by simp) (by simp))))
     exact ⟨cs, pend', rs', ow', h1, h2, h3, by simpa using h4, h5, h6, h7⟩
    have hr' : Runs E.P st (absF l pend (c :: acc) k) rs d := by
     unfold absF at hr
     split at hr
     ·rename_i hq; cases hq
     ·rename_i hq; injection hq with hq1 hq2; injection hq1 with hq1; exact absurd hq1 hnil
     ·rename_i hq; injection hq with hq1 hq2; injection hq1 with hq1; subst hq1; subst hq2; exact hr
     ·rename_i hq; cases hq
     ·rename_i hq; cases hq
    obtain ⟨cs, pend', rs', ow', h1, h2, h3, h4, h5, h6, h7⟩ := ih vs pend (c :: acc) (accv ++ [v]) k rs ow h hr' hl hh (by simpa using hvl) (fun i s u hi hu => hs (i + 1) s u (by simpa using hi) (by simpa using hu)) (fun c hc => hnu c (by simp [hc]))
     (by rw [List.reverse_cons]; exact hH.snoc (hs0.toOC (hnu c (by simp))) (fun T e => by have := hnu c (by simp); subst e; cases this))
    exact ⟨cs, pend', rs', ow', h1, h2, h3, by simpa using h4, h5, h6, h7⟩
   | ref id g p =>
    obtain ⟨ob, cells, put, e, rows, rs1, k1, k2, k3, k4, k5, k6⟩ := ownAt_runs h hr hl hs0
    cases k6 with
    | frz hz k6 =>
     rename_i c'
     obtain ⟨t1, t2, t3⟩ := h.freeze k1 k2 k3 hz
     have hid' : id ≠ hid := fun e => by subst e; rw [hhp] at k1; cases k1
     have hrel : Rel E.P x (st.pend ((id, put c') :: pend)) a w L (drop (pathOf id p) ow) := by rw [k4]; exact t1
     have hst : OStep E.P w w L L (st.pend pend).o (st.pend ((id, put c') :: pend)).o := by rw [k4]; exact OStep.tell h k1 k2 (fun e r => by cases hz; simp)
     have hFs : FStep w w (x.F w ow) (x.F w (drop (pathOf id p) ow)) := fun k hk => ⟨rfl, t3 k hk⟩
     have hH' := hH.move hFs (ow' := drop (pathOf id p) ow) fun k r hk => ⟨rfl, drop_out hk (pathOf_other (Ne.symm hid'))⟩
     have hfr := t2 v k5
     have hoc' : ∀ q, OC E.P w (x.F w (drop (pathOf id p) ow)) (drop (pathOf id p) ow) q c' v := fun q => by cases hz; exact .sl hfr
     obtain ⟨cs, pend', rs', ow', h1, h2, h3, h4, h5, h6, h7⟩ := ih vs ((id, put c') :: pend) (c' :: acc) (accv ++ [v]) k rs1 _ hrel k6 (more _ _ (pend_lt k1)) hh (by simpa using hvl)
      (fun i s u hi hu => (hs (i + 1) s u (by simpa using hi) (by simpa using hu)).step hFs hst) (fun c hc => hnu c (by simp [hc])) (by rw [List.reverse_cons]; exact hH'.snoc (hoc' _) (fun T e => by subst e; cases hz))
     exact ⟨cs, pend', rs', ow', h1, h2, h3, by simpa using h4, fun k hk => h5 k (hFs k hk).2, hst.trans h6, fun id' ob' g1 g2 => h7 id' ob' (keep id _ ob cells k1 k2 id' ob' g1 g2) g2⟩
   | view id g off lo n =>
    obtain ⟨ob, cells, put, e, rows, rs1, v0, k1, k2, k3, k4, k5, k7, k8, k6⟩ := viewAt_runs hr hl hs0
    cases k6 with
    | frz hz k6 =>
     rename_i c'
     cases c' with
     | sl rows' =>
      obtain ⟨t1, t2, t3⟩ := h.freeze (p := .cell off) k1 k2 k3 hz
      have hid' : id ≠ hid := fun e => by subst e; rw [hhp] at k1; cases k1
      have hrel : Rel E.P x (st.pend ((id, put (.sl rows')) :: pend)) a w L (drop (pathOf id (.cell off)) ow) := by rw [k4]; exact t1
      have hst : OStep E.P w w L L (st.pend pend).o (st.pend ((id, put (.sl rows')) :: pend)).o := by rw [k4]; exact OStep.tell h k1 k2 (by simp)
      have hFs : FStep w w (x.F w ow) (x.F w (drop (pathOf id (.cell off)) ow)) := fun k hk => ⟨rfl, t3 k hk⟩
      have hH' := hH.move hFs (ow' := drop (pathOf id (.cell off)) ow) fun k r hk => ⟨rfl, drop_out hk (pathOf_other (Ne.symm hid'))⟩
      have hfr := t2 v0 k5
      have hrl : ∀ r ∈ rows', r.length = E.P.cellsOf e := by
       have hoc := ownAt_oc (p := .cell off) h k1 k2 k3 k5
       cases hoc with
       | us hown hp hsz how ihh =>
        cases hz with
        | us hzl hzr _ =>
         intro r hr
         obtain ⟨i, hi⟩ := List.mem_iff_getElem?.1 hr
         have hi' : i < rows.length := by rw [hzl]; exact (List.getElem?_eq_some_iff.1 hi).1
         rw [← hzr i _ _ (List.getElem?_eq_getElem hi') hi]
         exact hsz _ (List.getElem_mem hi')
      have hrl2 : rows.length = rows'.length := by cases hz with | us hzl _ _ => exact hzl
      have hsub := hfr.sub hrl (l := lo) (n := n) (by omega)
      rw [← k8] at hsub
      obtain ⟨cs, pend', rs', ow', h1, h2, h3, h4, h5, h6, h7⟩ := ih vs ((id, put (.sl rows')) :: pend) (.sl ((rows'.drop lo).take n) :: acc) (accv ++ [v]) k rs1 _ hrel k6 (more _ _ (pend_lt k1)) hh (by simpa using hvl)
       (fun i s u hi hu => (hs (i + 1) s u (by simpa using hi) (by simpa using hu)).step hFs hst) (fun c hc => hnu c (by simp [hc])) (by rw [List.reverse_cons]; exact hH'.snoc (.sl hsub))
      exact ⟨cs, pend', rs', ow', h1, h2, h3, by simpa using h4, fun k hk => h5 k (hFs k hk).2, hst.trans h6, fun id' ob' g1 g2 => h7 id' ob' (keep id _ ob cells k1 k2 id' ob' g1 g2) g2⟩
     | v _ => cases k6
     | us _ _ => cases k6
     | x => cases k6
     | mp _ => cases k6
     | ex _ _ => cases k6
     | me _ => cases k6
theorem OC.shrink {P : Program} {F : Frs} {p : List Nat} {e : TypeId} {rows : List (List C)} {v : Value} {n : Nat} (h : OC P w F ow p (.us e rows) v) (hn : n ≤ rows.length) : OC P w F ow p (.us e (rows.take n)) (resliced v 0 n (P.cellsOf e)) := by
 cases h with
 | @us _ _ _ _ inner hown hp hsz how ih =>
  have hl : (rows.take n).length = n := by rw [List.length_take]; omega
  have hmul : n * P.cellsOf e ≤ rows.length * P.cellsOf e := Nat.mul_le_mul_right _ hn
  have hin : (inner.take (n * P.cellsOf e)).length = n * P.cellsOf e := by rw [List.length_take, hown.1]; omega
  have hsz' : ∀ r ∈ rows.take n, r.length = P.cellsOf e := fun r hr => hsz r (List.mem_of_mem_take hr)
  have hih : ∀ (i : Nat) (r : List C) (j : Nat) (c : C), (rows.take n)[i]? = some r → r[j]? = some c → OC P w F ow (p ++ [i, j]) c ((inner.take (n * P.cellsOf e)).getD (i * P.cellsOf e + j) undef) := by
   intro i r j c hi hj
   have hil := (List.getElem?_eq_some_iff.1 hi).1
   rw [hl] at hil
   rw [List.getElem?_take, if_pos hil] at hi
   have hjl := (List.getElem?_eq_some_iff.1 hj).1
   rw [hsz r (List.mem_of_getElem? hi)] at hjl
   have := ih i r j c hi hj
   rw [List.getD_eq_getElem?_getD] at this ⊢
   rw [List.getElem?_take, if_pos (idx_lt hil hjl)]
   exact this
  rcases hown.2 with ⟨hv, h0⟩ | ⟨g, cap, cur, hv, q1, q2, q3, q4, q5, q6⟩
  ·subst hv
   have hn0 : n = 0 := by omega
   subst hn0
   exact .us (inner := inner.take (0 * P.cellsOf e)) ⟨by rw [hl]; exact hin, .inl ⟨rfl, hl⟩⟩ hp hsz' (fun g hg => by simp [resliced, Value.ownBlock] at hg) hih
  ·subst hv
   have hv' : resliced (.slice (some ⟨g, 0, none⟩) rows.length cap) 0 n (P.cellsOf e) = .slice (some ⟨g, 0, none⟩) n cap := by
    simp only [resliced, Nat.zero_mul, Nat.sub_zero]
    split
    ·rfl
    ·simp [Addr.add]
   rw [hv']
   exact .us (inner := inner.take (n * P.cellsOf e)) ⟨by rw [hl]; exact hin, .inr ⟨g, cap, cur, by rw [hl], q1, q2, by rw [hl]; omega, q4, q5, by rw [hl, ← q6, List.take_take, Nat.min_eq_left hmul]⟩⟩ hp hsz' (fun g' hg => how g' hg) hih
theorem absV_sound {hid : Nat} {l : List SC} {vs : List Value} {k : List C → List (Nat × Ob) → M} (h : Rel E.P x st a w L ow) (hr : Runs E.P st (absV l k) rs d) (_hh : st.o[hid]? = none)
  (hvl : vs.length = l.length) (hs : ∀ (i : Nat) (s : SC) (v : Value), l[i]? = some s → vs[i]? = some v → SCR E.P w (x.F w ow) L st.o s v) :
  ∃ cs pend' rs' ow', Runs E.P st (k cs pend') rs' d ∧ Rel E.P x (st.pend pend') a w L ow' ∧ (∀ p ∈ pend', p.1 < st.o.length) ∧ Hand E.P w (x.F w ow') ow' hid cs ([] ++ vs) ∧ FStep w w (x.F w ow) (x.F w ow') ∧ OStep E.P w w L L (st.pend []).o (st.pend pend').o ∧
   ∀ (id : Nat) (ob : Ob), (st.pend []).o[id]? = some ob → ob.cells = none → (st.pend pend').o[id]? = some ob := by
 unfold absV at hr
 split at hr
 ·rename_i id g off n
  match vs, hvl with
  | [v], _ =>
  have hs0 := hs 0 _ v rfl rfl
  obtain ⟨ob, cells, put, e, rows, rs1, v0, k1, k2, k3, k4, k5, k7, k8, k6⟩ := viewAt_runs (pend := []) hr (by simp) hs0
  have k1 : st.o[id]? = some ob := k1
  have hg : getC cells (.cell off) = some (.us e rows) := k3
  obtain ⟨t1, t2, t3⟩ := h.take (q := [hid, 0]) k1 k2 hg
  have hrel : Rel E.P x (st.pend [(id, put .x)]) a w L (relab (pathOf id (.cell off)) [hid, 0] ow) := by rw [k4]; exact t1
  have hst : OStep E.P w w L L (st.pend []).o (st.pend [(id, put .x)]).o := by rw [k4]; exact OStep.tell (st := st) h k1 k2 (by simp)
  have hFs : FStep w w (x.F w ow) (x.F w (relab (pathOf id (.cell off)) [hid, 0] ow)) := by rw [t3]; exact FStep.refl
  have hid' : id < st.o.length := (List.getElem?_eq_some_iff.1 k1).1
  refine ⟨_, _, rs1, _, k6, hrel, fun p hp => by rw [List.mem_singleton.1 hp]; exact hid', ⟨rfl, fun j c u hj hu => ?_, fun j T hj => by cases j with
   | zero => simp at hj
   | succ j => simp at hj⟩, hFs, hst, fun id' ob' g1 g2 => ?_⟩
  ·cases j with
   | zero =>
    simp at hj hu; subst hj; subst hu
    rw [k8, t3]
    exact (t2 v0 k5).shrink (by omega)
   | succ j => simp at hj
  ·have hne : id ≠ id' := fun e => by subst e; have g1 : st.o[id]? = some ob' := g1; rw [k1] at g1; injection g1 with g1; subst g1; rw [k2] at g2; cases g2
   show (st.o.set id _)[id']? = _
   rw [List.getElem?_set_ne hne]; exact g1
 ·cases hr
end
end Ev

namespace Ev
open Go
section
variable {E : Env} {x : Cx} {st : St} {a : Act} {w w' : World} {L L' : Nat → Pl} {ow ow' : Own} {rs : List Loc} {d : Delta} {o : Oper} {next : Act → World → Prop} {Q : Exit → Act → World → Prop}
theorem SCR.one {P : Program} {F : Frs} {ob : List Ob} {s : SC} {v : Value} (h : SCR P w F L ob s v) : v.oneCell' = true := by
 cases h with
 | c h => exact h.one
 | ref h => exact h
 | view h => obtain ⟨_, _, rfl⟩ := h; rfl
theorem SCR.notUs {P : Program} {F : Frs} {ob : List Ob} {c : C} {v : Value} (h : SCR P w F L ob (.c c) v) : c.isUs = false := by
 cases h with
 | c h => cases h <;> rfl
theorem cells_one {v : Value} (h : v.oneCell' = true) : v.cells = #[v] := by cases v <;> first | rfl | cases h
theorem scsOf_vals {P : Program} {F : Frs} {ob : List Ob} {b : AV} {v : Value} {l : List SC} (h : AVR P w F L ob b v) (hl : scsOf b = some l) : v.cells.toList.length = l.length ∧ ∀ (i : Nat) (s : SC) (u : Value), l[i]? = some s → v.cells.toList[i]? = some u → SCR P w F L ob s u := by
 cases h with
 | one hs =>
  injection hl with hl; subst hl
  rw [cells_one hs.one]
  refine ⟨rfl, fun i s u hi hu => ?_⟩
  cases i with
  | zero => simp at hi hu; subst hi; subst hu; exact hs
  | succ i => simp at hi
 | agg h1 h2 =>
  injection hl with hl; subst hl
  exact ⟨by simpa [Value.cells] using h1.symm, fun i s u hi hu => h2 i s u hi (by simpa [Value.cells] using hu)⟩
 | tup => cases hl
 | bx => cases hl
 | dp => cases hl
 | bs => cases hl
 | ep => cases hl
 | cp => cases hl
 | clo => cases hl
 | ifc => cases hl
theorem OC.norm {P : Program} {F : Frs} {p : List Nat} {c : C} {v : Value} {k : Option TypeId} (h : OC P w F ow p c v) (hk : ∀ e, k = some e → 0 < P.cellsOf e) : OC P w F ow p (normC k c) v := by
 unfold normC
 split
 ·rename_i e
  cases h
  exact .us (inner := []) (World.ownsRow_nil w 0 e _) (hk e rfl) (by simp) (fun g hg => by cases hg) (by simp)
 ·exact h
theorem normCs_length : ∀ (ks : List (Option TypeId)) (cs : List C), (normCs ks cs).length = cs.length := by
 intro ks
 induction ks with
 | nil => intro cs; cases cs <;> rfl
 | cons k ks ih => intro cs; cases cs with
  | nil => rfl
  | cons c cs => simp [normCs, ih]
theorem normCs_me {ks : List (Option TypeId)} : ∀ {cs : List C}, (∀ (k : Nat) (T : TypeId), cs[k]? ≠ some (.me T)) → ∀ (k : Nat) (T : TypeId), (normCs ks cs)[k]? ≠ some (.me T) := by
 induction ks with
 | nil => intro cs h; cases cs <;> exact h
 | cons q ks ih =>
  intro cs h
  cases cs with
  | nil => exact h
  | cons c cs =>
   intro k T
   cases k with
   | zero =>
    simp only [normCs, List.getElem?_cons_zero]
    intro e
    injection e with e
    unfold normC at e
    split at e
    ·cases e
    ·exact h 0 T (by rw [e]; rfl)
   | succ k => exact ih (fun k T e => h (k + 1) T e) k T
theorem Hand.norm {P : Program} {F : Frs} {hid : Nat} {cs : List C} {vs : List Value} {ks : List (Option TypeId)} (h : Hand P w F ow hid cs vs) (hk : ∀ e, some e ∈ ks → 0 < P.cellsOf e) : Hand P w F ow hid (normCs ks cs) vs := by
 have gen : ∀ (ks : List (Option TypeId)) (cs : List C) (n : Nat), (∀ e, some e ∈ ks → 0 < P.cellsOf e) → (∀ (k : Nat) (c : C) (v : Value), cs[k]? = some c → vs[n + k]? = some v → OC P w F ow [hid, n + k] c v) →
   ∀ (k : Nat) (c : C) (v : Value), (normCs ks cs)[k]? = some c → vs[n + k]? = some v → OC P w F ow [hid, n + k] c v := by
  intro ks
  induction ks with
  | nil => intro cs n _ hh; cases cs <;> exact hh
  | cons k ks ih =>
   intro cs n hk hh
   cases cs with
   | nil => exact hh
   | cons c cs =>
    intro j c' v hj hv
    cases j with
    | zero => simp [normCs] at hj; subst hj; exact (hh 0 c v rfl hv).norm fun e he => hk e (by simp [he])
    | succ j =>
     have := ih cs (n + 1) (fun e he => hk e (by simp [he])) (fun k c v h1 h2 => by have := hh (k + 1) c v (by simpa using h1) (by rw [← h2]; congr 1; omega); rwa [show n + (k + 1) = n + 1 + k from by omega] at this) j c' v (by simpa [normCs] using hj) (by rw [← hv]; congr 1; omega)
     rwa [show n + 1 + j = n + (j + 1) from by omega] at this
 refine ⟨by rw [normCs_length]; exact h.1, fun k c v hk' hv => ?_, normCs_me h.2.2⟩
 have := gen ks cs 0 hk (fun k c v h1 h2 => by have := h.2.1 k c v h1 (by simpa using h2); simpa using this) k c v hk' (by simpa using hv)
 simpa using this
theorem isAbsent_runs {P : Program} {ob : Ob} {k : M} (hr : Runs P st (isAbsent ob k) rs d) : ob.cells = none ∧ Runs P st k rs d := by
 unfold isAbsent at hr
 split at hr
 ·exact ⟨by assumption, hr⟩
 ·cases hr
theorem st_len_none : st.o[st.o.length]? = none := List.getElem?_eq_none (Nat.le_refl _)
theorem OkTI.zero_run {P : Program} {t : TypeId} {i : TI} (hi : OkTI P t i) : ∃ z, (zeroValue t).run P w = .ok z w ∧ z.cells.toList = i.zero := by
 obtain ⟨inf, z, h1, _, _, h4, h5, _⟩ := hi.info
 exact ⟨z, by simp [zeroValue, typeInfo, h1, h4], h5⟩
theorem Rel.setMe {P : Program} {d g : Nat} {ob : Ob} {r : List C} {cs : Array Value} {e : TypeId} (h : Rel P x st a w L ow) (hd : st.o[d]? = some ob) (hc : ob.cells = some (.v (.pointer none) :: r)) (hL : L d = .blk g) (hg : w.heap[g]? = some (.cells cs e (0, 0))) :
  Rel P x { st with o := st.o.set d { ob with cells := some (.me e :: r) } } a w L ow := by
 have hdl : d < st.o.length := (List.getElem?_eq_some_iff.1 hd).1
 have hR := h.objs d ob _ hd hc
 refine h.step rfl h.keeps h.owOk (fun k hk => ⟨rfl, hk⟩) (fun id ob1 cells h1 h2 => ?_) (fun id ob1 cells h1 h2 => ?_) (fun id ob1 cells h1 h2 h3 => ?_)
 ·by_cases hi : id = d
  ·subst hi
   rw [hd] at h1; injection h1 with h1; subst h1
   rw [hc] at h2; injection h2 with h2; subst h2
   refine ⟨_, _, List.getElem?_set_self hdl, rfl, Nat.le_refl _, rfl, fun _ off e' rows' hoff => ?_⟩
   cases off with
   | zero => simp at hoff
   | succ off => exact ObStep.same hR (fun _ _ _ => rfl) (off + 1) e' rows' hoff
  ·exact ⟨ob1, cells, by rw [List.getElem?_set_ne (Ne.symm hi)]; exact h1, h2, Nat.le_refl _, rfl, fun _ => ObStep.same (h.objs id ob1 cells h1 h2) fun _ _ _ => rfl⟩
 ·by_cases hi : id = d
  ·subst hi
   simp [hdl] at h1; subst h1
   injection h2 with h2; subst h2
   obtain ⟨u, hu, ho⟩ := hR.cell 0 (.v (.pointer none)) rfl
   cases ho with
   | v ho1 =>
    refine ⟨fun g' hg' => ⟨(hR.blk g' hg').1, by simpa using (hR.blk g' hg').2⟩, fun j c hj => ?_, fun T g' hg' hT => ?_⟩
    ·cases j with
     | zero => simp at hj; subst hj; exact ⟨_, hu, .me rfl⟩
     | succ j => exact hR.cell (j + 1) c hj
    ·simp at hT; subst hT
     rw [hL] at hg'; injection hg' with hg'; subst hg'
     exact ⟨_, cs, hu, .inl rfl, hg⟩
  ·rw [List.getElem?_set_ne (Ne.symm hi)] at h1
   exact h.objs id ob1 cells h1 h2
 ·by_cases hi : id = d
  ·subst hi
   simp [hdl] at h1; subst h1
   exact h.kinds id ob _ hd hc h3
  ·rw [List.getElem?_set_ne (Ne.symm hi)] at h1
   exact h.kinds id ob1 cells h1 h2 h3
theorem meC_cases (m : Option TypeId) (t : TypeId) (l : List C) : meC m t l = l ∨ ∃ r, l = .v (.pointer none) :: r ∧ meC m t l = .me t :: r := by
 unfold meC
 split
 ·rename_i T r
  cases hb : Nat.beq T t with
  | false => exact .inl rfl
  | true =>
   have := Nat.eq_of_beq_eq_true hb
   subst this
   exact .inr ⟨_, rfl, rfl⟩
 ·exact .inl rfl
theorem hand_zero {P : Program} {F : Frs} {hid : Nat} {t : TypeId} {i : TI} (hi : OkTI P t i) : Hand P w F ow hid (zeroC i) i.zero := by
 refine Hand.norm ⟨by simp, fun k c v hk hv => ?_, fun k T hk => by simp at hk⟩ hi.ckOk
 simp [hv] at hk
 subst hk
 exact .v (hi.zone v (List.mem_of_getElem? hv))
theorem sound_alloc {t : TypeId} (hT : TOk E) (h : Rel E.P x st a w L ow) (ho : o.op = .alloc t)
  (hr : Runs E.P st (typ E t fun i => match o.dst with
  | some d => .obj (d + E.m) fun ob => isAbsent ob (.ret ⟨[(d, some (.bx (d + E.m) 0))], [(d + E.m, ⟨0, 0, some (meC E.me t (zeroC i))⟩)], []⟩)
  | none => .fail) rs d) (hl : ∀ p ∈ d.s, p.1 < st.s.length) (hn : Good E x (st.app d) next) : o.wp E.P a w next Q := by
 obtain ⟨i, hi, _, h0⟩ := typ_runs hT hr
 cases hd : o.dst with
 | none => rw [hd] at h0; cases h0
 | some dd =>
  rw [hd] at h0
  cases h0 with
  | obj ho1 h1 =>
   obtain ⟨h2, h3⟩ := isAbsent_runs h1
   cases h3
   obtain ⟨z, hz, hzc⟩ := hi.zero_run (w := w)
   have hb := h.newB (g := 0) (e := t) st_len_none ho1 h2 (hand_zero (hid := st.o.length) hi)
   have hdl : dd + E.m < st.o.length := (List.getElem?_eq_some_iff.1 ho1).1
   refine wp_value (v := .pointer (some ⟨w.heap.size, 0, none⟩)) (w' := w.alloc (.cells i.zero.toArray t)) ?_ ?_
   ·have : z.cells = i.zero.toArray := by rw [← hzc]
    simp [execOp, ho, Instr.alloc, hz, newVar, newRow, this]
   ·rw [hd]
    rcases meC_cases E.me t (zeroC i) with hz0 | ⟨r0, hz1, hz2⟩
    ·rw [hz0] at hl hn
     exact hn _ _ _ _ (hb.put (d := dd) (by rw [← h.len]; exact hl (dd, some (.bx (dd + E.m) 0)) (by simp)) (.bx (List.getElem?_set_self hdl) rfl (by simp)))
    ·rw [hz1] at hb
     have hb2 := hb.setMe (d := dd + E.m) (g := w.heap.size) (List.getElem?_set_self hdl) rfl (by simp) (heap_alloc_new _ _)
     simp only [List.set_set] at hb2
     rw [hz2] at hl hn
     exact hn _ _ _ _ (hb2.put (d := dd) (by rw [← h.len]; exact hl (dd, some (.bx (dd + E.m) 0)) (by simp)) (.bx (List.getElem?_set_self hdl) rfl (by simp)))
theorem sound_box {t : TypeId} {y : Operand} (hT : TOk E) (h : Rel E.P x st a w L ow) (ho : o.op = .box t y)
  (hr : Runs E.P st (typ E t fun i => opnd y fun a => match scsOf a, o.dst with
  | some l, some d => bif memN E.cb d then .ret ⟨[(d, some (.cp l 0))], [], []⟩ else .obj (d + E.m) fun ob => isAbsent ob (absM l [] [] fun cs pend => .ret ⟨[(d, some (.bx (d + E.m) 0))], (d + E.m, ⟨0, 0, some (normCs i.ck cs)⟩) :: pend, []⟩)
  | _, _ => .fail) rs d) (hl : ∀ p ∈ d.s, p.1 < st.s.length) (hlo : ∀ p ∈ d.o, p.1 < st.o.length) (hn : Good E x (st.app d) next) : o.wp E.P a w next Q := by
 obtain ⟨i, hi, _, h0⟩ := typ_runs hT hr
 obtain ⟨b, rs1, h1, h2⟩ := opnd_runs h h0
 split at h1
 ·rename_i l dd hsc hd
  cases hcb : memN E.cb dd with
  | true =>
   rw [hcb] at h1
   cases h1
   obtain ⟨hv1, hv2⟩ := scsOf_vals h2 hsc
   have hg := h.grow (Grow.alloc w (.cells (a.eval y).cells t))
   refine wp_value (v := .pointer (some ⟨w.heap.size, 0, none⟩)) (w' := w.alloc (.cells (a.eval y).cells t)) ?_ ?_
   ·simp [execOp, ho, Instr.box, newVar, newRow]
   ·rw [hd]
    have hF : FStep w (w.alloc (.cells (a.eval y).cells t)) (x.F w ow) (x.F (w.alloc (.cells (a.eval y).cells t)) ow) := fun k hk => ⟨(Grow.alloc w _).block k (h.F_lt hk), FF_grow (Grow.alloc w _).size hk (h.F_own hk)⟩
    refine hn _ _ _ _ (hg.put (d := dd) (by rw [← h.len]; exact hl (dd, some (.cp l 0)) (by simp)) (.cp (vs := (a.eval y).cells.toList) hv1.symm (.inr ⟨by simp, ?_, .inr h.keeps.size⟩) (fun j v hj => ?_) fun j s v hj hvj => (hv2 j s v hj hvj).step hF ?_))
    ·cases hw : ow w.heap.size with
     | none => rfl
     | some p => exact absurd (h.owOk _ p hw).1 (Nat.lt_irrefl _)
    ·rw [World.cell?, heap_alloc_new]
     simpa using hj
    ·intro id ob cells k1 k2
     exact ⟨ob, cells, k1, k2, Nat.le_refl _, rfl, fun _ => ObStep.same (h.objs id ob cells k1 k2) fun k r hk => (Grow.alloc w _).block k (h.owOk k _ hk).1⟩
  | false =>
  rw [hcb] at h1
  cases h1 with
  | obj ho1 h3 =>
   rename_i ob rs2
   obtain ⟨h4, h5⟩ := isAbsent_runs h3
   obtain ⟨hv1, hv2⟩ := scsOf_vals h2 hsc
   obtain ⟨cs, pend, rs3, ow1, q1, q2, q3, q4, q5, q6, q7⟩ := absM_sound (hid := st.o.length) l (a.eval y).cells.toList [] [] [] _ rs2 ow h h5 (by simp) st_len_none hv1 hv2 (fun c hc => by
    obtain ⟨j, hj⟩ := List.mem_iff_getElem?.1 hc
    have hlt := (List.getElem?_eq_some_iff.1 hj).1
    exact (hv2 j _ _ hj (List.getElem?_eq_getElem (by rw [hv1]; exact hlt))).notUs) Hand.nil
   cases q1
   have hdl : dd + E.m < st.o.length := (List.getElem?_eq_some_iff.1 ho1).1
   obtain ⟨ob', k1, k2⟩ : ∃ ob', (st.pend pend).o[dd + E.m]? = some ob' ∧ ob'.cells = none := ⟨_, q7 _ _ ho1 h4, h4⟩
   have hb := q2.newB (g := 0) (e := t) (pend_none st_len_none) k1 k2 (q4.norm hi.ckOk)
   have hdl2 : dd + E.m < (st.pend pend).o.length := (List.getElem?_eq_some_iff.1 k1).1
   refine wp_value (v := .pointer (some ⟨w.heap.size, 0, none⟩)) (w' := w.alloc (.cells (a.eval y).cells t)) ?_ ?_
   ·simp [execOp, ho, Instr.box, newVar, newRow]
   ·rw [hd]
    have hb' : Rel E.P x _ a (w.alloc (.cells (a.eval y).cells t)) _ _ := hb
    refine hn _ _ _ _ (hb'.put (d := dd) (by rw [← h.len]; exact hl (dd, some (.bx (dd + E.m) 0)) (by simp)) (.bx (List.getElem?_set_self hdl2) rfl (by simp)))
 ·cases h1
end
end Ev

namespace Ev
open Go
section
variable {E : Env} {x : Cx} {st : St} {a : Act} {w w' : World} {L L' : Nat → Pl} {ow ow' : Own} {rs : List Loc} {d : Delta} {o : Oper} {next : Act → World → Prop} {Q : Exit → Act → World → Prop}
theorem run_storeCells_cons {P : Program} {ad : Addr} {v : Value} {vs : List Value} {k : Nat} (hv : v.oneCell' = true) (hc : w.cell? (ad.add k) ≠ none) (hf : w.frozen? (ad.add k) = false) :
  (storeCells ad (v :: vs) k).run P w = (storeCells ad vs (k + 1)).run P (w.setCell (ad.add k) v) := by
 obtain ⟨u, hu⟩ := Option.ne_none_iff_exists'.1 hc
 simp only [storeCells, Sem.run_bind]
 rw [run_store P w (ad.add k) v _ hv]
 simp [hu, hf]
theorem set_set_o {id : Nat} {b1 b2 : Ob} : ({ ({ st with o := st.o.set id b1 } : St) with o := (({ st with o := st.o.set id b1 } : St).o).set id b2 } : St) = { st with o := st.o.set id b2 } := by
 simp [List.set_set]
theorem val_keep {id : Nat} {ob : Ob} {cells : List C} {off i j : Nat} {ad : Addr} {u : Value} (h : Rel E.P x st a w L ow) (ho : st.o[id]? = some ob) (hc : ob.cells = some cells) (had : AddrAt E.P w (L id) cells (.elem off i j) ad) (k : Nat) : (L id).val (w.setCell ad u) k = (L id).val w k := by
 have hR := h.objs id ob cells ho hc
 cases hpl : L id with
 | vals l => rfl
 | blk gb =>
  refine cell_of_heap (heap_setCell_other w ad _ u fun e1 => ?_)
  subst e1
  have h1 := (hR.blk _ hpl).1
  obtain ⟨e', rows', u0, g, k1, k2, k3, rfl⟩ := had
  obtain ⟨u1, k4, k5⟩ := hR.cell off _ k1
  rw [k2] at k4; injection k4 with k4; subst k4
  rw [(k5.lt k3).2] at h1; simp at h1
theorem set_self {α : Type} {l : List α} {i : Nat} {b : α} (h : l[i]? = some b) : l.set i b = l := by
 obtain ⟨hi, rfl⟩ := List.getElem?_eq_some_iff.1 h
 exact List.set_getElem_self hi
theorem stores_box {id hid off g : Nat} : ∀ (cs : List C) (vs : List Value) (m k0 : Nat) (st : St) (w : World) (ow : Own) (ob : Ob) (cells : List C), Rel E.P x st a w L ow → st.o[id]? = some ob → ob.cells = some cells → L id = .blk g →
  off + k0 + cs.length ≤ cells.length → st.o[hid]? = none → vs.length = cs.length → (∀ (k : Nat) (c : C) (v : Value), cs[k]? = some c → vs[k]? = some v → OC E.P w (x.F w ow) ow [hid, m + k] c v) → (∀ (k : Nat) (T : TypeId), cs[k]? ≠ some (.me T)) →
  ∃ w' ow', (storeCells ⟨g, off, none⟩ vs k0).run E.P w = .ok () w' ∧ Rel E.P x { st with o := st.o.set id { ob with g := ob.g + bumps cs, cells := some (setSeg cells (off + k0) cs) } } a w' L ow' := by
 intro cs
 induction cs with
 | nil =>
  intro vs m k0 st w ow ob cells h ho hc hL hlen hh hvl hH hnm
  have : vs = [] := List.eq_nil_of_length_eq_zero (by simpa using hvl)
  subst this
  refine ⟨w, ow, rfl, ?_⟩
  have : ({ st with o := st.o.set id { ob with g := ob.g + bumps [], cells := some (setSeg cells (off + k0) []) } } : St) = st := by
   have : ({ ob with g := ob.g + bumps [], cells := some (setSeg cells (off + k0) []) } : Ob) = ob := by cases ob; simp_all [bumps, setSeg]
   rw [this]
   rw [set_self ho]
  rw [this]; exact h
 | cons c cs ih =>
  intro vs m k0 st w ow ob cells h ho hc hL hlen hh hvl hH hnm
  cases vs with
  | nil => simp at hvl
  | cons v vs =>
   have hu := hH 0 c v rfl rfl
   have hlt : off + k0 < cells.length := by simp at hlen; omega
   have hg : getC cells (.cell (off + k0)) = some cells[off + k0] := List.getElem?_eq_getElem hlt
   obtain ⟨q1, q2, q3, q4⟩ := h.storeCell (p := .cell (off + k0)) (ad := ⟨g, off + k0, none⟩) ho hc hg hh (m := m) hu (fun T e => hnm 0 T (by rw [e]; rfl)) ⟨g, hL, rfl⟩
   have hidl := (List.getElem?_eq_some_iff.1 ho).1
   have hne : id ≠ hid := fun e => by subst e; rw [ho] at hh; cases hh
   obtain ⟨w', ow', r1, r2⟩ := ih vs (m + 1) (k0 + 1) _ _ _ _ _ q3 (List.getElem?_set_self hidl) rfl hL (by simp [putC] at hlen ⊢; omega) (by rw [List.getElem?_set_ne hne]; exact hh) (by simpa using hvl)
    (fun k c' v' hk hv => by rw [Nat.add_assoc, Nat.add_comm 1 k]; exact q4 _ c' v' (by omega) (hH (k + 1) c' v' (by simpa using hk) (by simpa using hv))) (fun k T e => hnm (k + 1) T (by simpa using e))
   refine ⟨w', ow', ?_, ?_⟩
   ·rw [run_storeCells_cons hu.one (by rw [addr_add]; exact q1) (by rw [addr_add]; exact q2), addr_add]; exact r1
   ·rw [set_set_o] at r2
    have : ({ stored ob cells c (.cell (off + k0)) with g := (stored ob cells c (.cell (off + k0))).g + bumps cs, cells := some (setSeg (putC cells c (.cell (off + k0))) (off + (k0 + 1)) cs) } : Ob) = { ob with g := ob.g + bumps (c :: cs), cells := some (setSeg cells (off + k0) (c :: cs)) } := by
     have : (stored ob cells c (.cell (off + k0))).g + bumps cs = ob.g + bumps (c :: cs) := by cases c <;> simp [stored, C.isUs, bumps] <;> omega
     simp only [stored] at this ⊢
     rw [this]; simp [setSeg, putC, Nat.add_assoc]
    rw [this] at r2; exact r2
theorem stores_elem {id hid off n b : Nat} {e : TypeId} {u : Value} : ∀ (cs : List C) (vs : List Value) (m j k0 : Nat) (st : St) (w : World) (ow : Own) (ob : Ob) (cells : List C) (rows : List (List C)) (r : List C), Rel E.P x st a w L ow → st.o[id]? = some ob → ob.cells = some cells →
  cells[off]? = some (.us e rows) → rows[n]? = some r → (L id).val w off = some u → u.ownBlock = some b →
  j + k0 + cs.length ≤ r.length → st.o[hid]? = none → vs.length = cs.length → (∀ (k : Nat) (c : C) (v : Value), cs[k]? = some c → vs[k]? = some v → OC E.P w (x.F w ow) ow [hid, m + k] c v) → (∀ (k : Nat) (T : TypeId), cs[k]? ≠ some (.me T)) →
  ∃ w' ow', (storeCells ⟨b, n * E.P.cellsOf e + j, none⟩ vs k0).run E.P w = .ok () w' ∧ Rel E.P x { st with o := st.o.set id { ob with g := ob.g + bumps cs, cells := some (cells.set off (.us e (rows.set n (setSeg r (j + k0) cs)))) } } a w' L ow' := by
 intro cs
 induction cs with
 | nil =>
  intro vs m j k0 st w ow ob cells rows r h ho hc hce hr hu0 hub hlen hh hvl hH hnm
  have : vs = [] := List.eq_nil_of_length_eq_zero (by simpa using hvl)
  subst this
  refine ⟨w, ow, rfl, ?_⟩
  have e1 : rows.set n (setSeg r (j + k0) []) = rows := set_self hr
  have e2 : cells.set off (.us e rows) = cells := set_self hce
  have : ({ st with o := st.o.set id { ob with g := ob.g + bumps [], cells := some (cells.set off (.us e (rows.set n (setSeg r (j + k0) [])))) } } : St) = st := by
   rw [e1, e2]
   have : ({ ob with g := ob.g + bumps [], cells := some cells } : Ob) = ob := by cases ob; simp_all [bumps]
   rw [this]
   rw [set_self ho]
  rw [this]; exact h
 | cons c cs ih =>
  intro vs m j k0 st w ow ob cells rows r h ho hc hce hr hu0 hub hlen hh hvl hH hnm
  cases vs with
  | nil => simp at hvl
  | cons v vs =>
   have hu := hH 0 c v rfl rfl
   have hlt : j + k0 < r.length := by simp at hlen; omega
   have hg : getC cells (.elem off n (j + k0)) = some r[j + k0] := by simp [getC, hce, hr, List.getElem?_eq_getElem hlt]
   have had : AddrAt E.P w (L id) cells (.elem off n (j + k0)) ⟨b, n * E.P.cellsOf e + (j + k0), none⟩ := ⟨e, rows, u, b, hce, hu0, hub, rfl⟩
   obtain ⟨q1, q2, q3, q4⟩ := h.storeCell ho hc hg hh (m := m) hu (fun T e => hnm 0 T (by rw [e]; rfl)) had
   have hidl := (List.getElem?_eq_some_iff.1 ho).1
   have hofl := (List.getElem?_eq_some_iff.1 hce).1
   have hnl := (List.getElem?_eq_some_iff.1 hr).1
   have hne : id ≠ hid := fun e => by subst e; rw [ho] at hh; cases hh
   have hput : putC cells c (.elem off n (j + k0)) = cells.set off (.us e (rows.set n (r.set (j + k0) c))) := by simp [putC, hce, hr]
   obtain ⟨w', ow', r1, r2⟩ := ih vs (m + 1) j (k0 + 1) _ _ _ _ _ (rows.set n (r.set (j + k0) c)) (r.set (j + k0) c) q3 (List.getElem?_set_self hidl) rfl (by rw [hput]; exact List.getElem?_set_self hofl) (List.getElem?_set_self hnl)
    ((val_keep h ho hc had off).trans hu0) hub (by simp at hlen ⊢; omega) (by rw [List.getElem?_set_ne hne]; exact hh) (by simpa using hvl)
    (fun k c' v' hk hv => by rw [Nat.add_assoc, Nat.add_comm 1 k]; exact q4 _ c' v' (by omega) (hH (k + 1) c' v' (by simpa using hk) (by simpa using hv))) (fun k T e => hnm (k + 1) T (by simpa using e))
   have had2 : (⟨b, n * E.P.cellsOf e + j, none⟩ : Addr).add k0 = ⟨b, n * E.P.cellsOf e + (j + k0), none⟩ := by rw [addr_add, Nat.add_assoc]
   refine ⟨w', ow', ?_, ?_⟩
   ·rw [run_storeCells_cons hu.one (by rw [had2]; exact q1) (by rw [had2]; exact q2), had2]; exact r1
   ·rw [set_set_o] at r2
    have : ({ stored ob cells c (.elem off n (j + k0)) with g := (stored ob cells c (.elem off n (j + k0))).g + bumps cs, cells := some ((putC cells c (.elem off n (j + k0))).set off (.us e ((rows.set n (r.set (j + k0) c)).set n (setSeg (r.set (j + k0) c) (j + (k0 + 1)) cs)))) } : Ob) =
      { ob with g := ob.g + bumps (c :: cs), cells := some (cells.set off (.us e (rows.set n (setSeg r (j + k0) (c :: cs))))) } := by
     have : (stored ob cells c (.elem off n (j + k0))).g + bumps cs = ob.g + bumps (c :: cs) := by cases c <;> simp [stored, C.isUs, bumps] <;> omega
     simp only [stored] at this ⊢
     rw [this, hput]; simp [setSeg, List.set_set, Nat.add_assoc]
    rw [this] at r2; exact r2
theorem run_storeAt {P : Program} {t : TypeId} {i : TI} (hi : OkTI P t i) {ad : Addr} {v : Value} (hs : v.cells.size = i.size) {w' : World} (hr : (storeCells ad v.cells.toList).run P w = .ok () w') : (Instr.storeAt t (.pointer (some ad)) v).run P w = .ok () w' := by
 simp [Instr.storeAt, Instr.sureAddr, storeVar, sizeOf_run hi, hs, hr]
theorem wp_skip {v : Next} (hv : v = .skip) (hr : (execOp a.eval o).run E.P w = .ok v w') (hn : next (a.put o.dst undef) w') : o.wp E.P a w next Q := by
 subst hv
 unfold Oper.wp; rw [hr]; exact hn
theorem sound_store {t : TypeId} {y z : Operand} (hT : TOk E) (h : Rel E.P x st a w L ow) (ho : o.op = .store t y z)
  (hr : Runs E.P st (typ E t fun i => opnd y fun a => opnd z fun b => storeM (fbAt E.fb a) o.dst i a b) rs d) (hl : ∀ p ∈ d.s, p.1 < st.s.length) (hlo : ∀ p ∈ d.o, p.1 < st.o.length) (hn : Good E x (st.app d) next) : o.wp E.P a w next Q := by
 obtain ⟨i, hi, _, h0⟩ := typ_runs hT hr
 obtain ⟨b, rs1, h1, h2⟩ := opnd_runs h h0
 obtain ⟨c, rs2, h3, h4⟩ := opnd_runs h h1
 unfold storeM at h3
 split at h3
 ·cases h3
 ·rename_i l hsc
  obtain ⟨hv1, hv2⟩ := scsOf_vals h4 hsc
  have hnu : ∀ c, SC.c c ∈ l → c.isUs = false := (fun c hc => by
    obtain ⟨j, hj⟩ := List.mem_iff_getElem?.1 hc
    have hlt := (List.getElem?_eq_some_iff.1 hj).1
    exact (hv2 j _ _ hj (List.getElem?_eq_getElem (by rw [hv1]; exact hlt))).notUs)
  have habs : ∀ (k : List C → List (Nat × Ob) → M), Runs E.P st ((bif isSame b c then absV l else bif fbAt E.fb b then absF l [] [] else absM l [] []) k) rs2 d → ∃ cs pend' rs' ow', Runs E.P st (k cs pend') rs' d ∧ Rel E.P x (st.pend pend') a w L ow' ∧ (∀ p ∈ pend', p.1 < st.o.length) ∧ Hand E.P w (x.F w ow') ow' st.o.length cs ([] ++ (a.eval z).cells.toList) ∧ FStep w w (x.F w ow) (x.F w ow') ∧ OStep E.P w w L L (st.pend []).o (st.pend pend').o ∧
    ∀ (id : Nat) (ob : Ob), (st.pend []).o[id]? = some ob → ob.cells = none → (st.pend pend').o[id]? = some ob := by
   intro k hk
   cases hsame : isSame b c with
   | true =>
    rw [hsame] at hk
    exact absV_sound (hid := st.o.length) h hk st_len_none hv1 hv2
   | false =>
   rw [hsame] at hk
   simp only [cond_false] at hk
   cases hf : fbAt E.fb b with
   | true =>
    rw [hf] at hk
    exact absF_sound (hid := st.o.length) l (a.eval z).cells.toList [] [] [] _ rs2 ow h hk (by simp) st_len_none hv1 hv2 hnu Hand.nil
   | false =>
    rw [hf] at hk
    exact absM_sound (hid := st.o.length) l (a.eval z).cells.toList [] [] [] _ rs2 ow h hk (by simp) st_len_none hv1 hv2 hnu Hand.nil
  obtain ⟨cs, pend, rs3, ow1, q1, q2, q3, q4, q5, q6, q7⟩ := habs _ h3
  obtain ⟨hb, q1b⟩ := runs_cond q1
  clear q1
  have hb := Nat.eq_of_beq_eq_true hb
  have hH := q4.norm hi.ckOk
  have hcl : (normCs i.ck cs).length = i.size := by rw [normCs_length]; exact hb
  have hsz : (a.eval z).cells.size = i.size := by have := q4.1; simp at this; omega
  have hb2 := h2.step q5 q6
  have done : ∀ (id : Nat) (ob : Ob) (ad : Addr) (w1 : World) (ow2 : Own), a.eval y = .pointer (some ad) → (storeCells ad (a.eval z).cells.toList).run E.P w = .ok () w1 →
    Rel E.P x { (st.pend pend) with o := (st.pend pend).o.set id ob } a w1 L ow2 → st.app d = st.app ⟨match o.dst with | some d => [(d, none)] | none => [], (id, ob) :: pend, []⟩ → o.wp E.P a w next Q := by
   intro id ob ad w1 ow2 he hrun hrel hd
   rw [hd] at hn
   refine wp_skip rfl (w' := w1) ?_ ?_
   ·simp [execOp, ho, he, run_storeAt hi hsz hrun]
   ·cases hdst : o.dst with
    | none => rw [hdst] at hn; exact hn _ _ _ _ hrel
    | some dd => rw [hdst] at hn; exact hn _ _ _ _ hrel.putNone
  generalize hv : a.eval y = v at hb2
  split at q1b
  ·rename_i id off
   obtain ⟨ob, rs4, k1, k2⟩ := getOb_runs q1b q3
   obtain ⟨cells, k3, k4⟩ := cellsOf_runs k2
   obtain ⟨hb3, k5⟩ := runs_cond k4
   have hb3 := Nat.le_of_ble_eq_true hb3
   cases k5
   cases hb2 with
   | bx p1 p2 p3 =>
    obtain ⟨w1, ow2, r1, r2⟩ := stores_box (hid := st.o.length) (off := off) (normCs i.ck cs) (a.eval z).cells.toList 0 0 (st.pend pend) w ow1 ob cells q2 k1 k3 p3 (by omega) (pend_none st_len_none) hH.1 (fun k c v hk hv => by simpa using hH.2.1 k c v hk hv) hH.2.2
    exact done _ _ _ w1 ow2 hv r1 r2 rfl
  ·rename_i id g off n j
   obtain ⟨ob, rs4, k1, k2'⟩ := getOb_runs q1b q3
   obtain ⟨hg, k2⟩ := runs_cond k2'
   clear k2'
   have hg := Nat.eq_of_beq_eq_true hg
   obtain ⟨cells, k3, k4⟩ := cellsOf_runs k2
   split at k4
   ·rename_i e rows hce
    cases k4 with
    | row hrow k5 =>
     obtain ⟨hb3, k6⟩ := runs_cond k5
     have hb3 := Nat.le_of_ble_eq_true hb3
     rename_i r0 _
     have hd : st.app d = st.app ⟨match o.dst with | some d => [(d, none)] | none => [], (id, { ob with g := ob.g + bumps (normCs i.ck cs), cells := some (cells.set off (.us e (rows.set n (setSeg r0 j (normCs i.ck cs))))) }) :: pend, []⟩ := by
      split at k6
      ·rename_i hb0
       cases k6
       have k1' : st.o[id]? = some ob := k1
       rw [hb0]
       show St.mk _ (applyC [(id, off, n, _)] st.o) = St.mk _ (st.o.set id _)
       simp only [applyC, List.foldr_cons, List.foldr_nil, upd, k1', setElem, k3, hce]
       rfl
      ·rename_i pend' m _ hm
       cases k6
       rfl
     clear k6
     cases hb2 with
     | dp p1 p2 p3 p4 =>
      rw [k1] at p1; injection p1 with p1; subst p1
      rw [k3] at p2; injection p2 with p2; subst p2
      obtain ⟨u, bb, p5, p6, rfl⟩ := p4 hg e rows _ hce hrow
      obtain ⟨w1, ow2, r1, r2⟩ := stores_elem (hid := st.o.length) (off := off) (normCs i.ck cs) (a.eval z).cells.toList 0 j 0 (st.pend pend) w ow1 ob cells rows _ q2 k1 k3 hce hrow p5 p6 (by omega) (pend_none st_len_none) hH.1 (fun k c v hk hv => by simpa using hH.2.1 k c v hk hv) hH.2.2
      exact done _ _ _ w1 ow2 hv r1 r2 hd
   ·cases k4
  ·cases q1b
end
end Ev

namespace Ev
open Go
section
variable {E : Env} {x : Cx} {st : St} {a : Act} {w w' : World} {L L' : Nat → Pl} {ow ow' : Own} {rs : List Loc} {d : Delta} {o : Oper} {next : Act → World → Prop} {Q : Exit → Act → World → Prop}
theorem setSC_length : ∀ (cs r : List SC) (j : Nat), (setSC r j cs).length = r.length := by
 intro cs
 induction cs with
 | nil => intro r j; rfl
 | cons c cs ih => intro r j; simp [setSC, ih]
theorem setSC_get : ∀ (cs r : List SC) (j k : Nat), j + cs.length ≤ r.length → (setSC r j cs)[k]? = if j ≤ k ∧ k < j + cs.length then cs[k - j]? else r[k]? := by
 intro cs
 induction cs with
 | nil => intro r j k _; rw [if_neg (by simp)]; rfl
 | cons c cs ih =>
  intro r j k hl
  simp only [List.length_cons] at hl
  simp only [setSC]
  rw [ih _ _ _ (by simp; omega)]
  by_cases hk : k = j
  ·subst hk
   rw [if_neg (by omega), if_pos (by simp), List.getElem?_set_self (by omega)]; simp
  ·by_cases h2 : j + 1 ≤ k ∧ k < j + 1 + cs.length
   ·rw [if_pos h2, if_pos (by simp only [List.length_cons]; omega)]
    have : k - j = (k - (j + 1)) + 1 := by omega
    rw [this, List.getElem?_cons_succ]
   ·rw [if_neg h2, if_neg (by simp only [List.length_cons]; omega), List.getElem?_set_ne (Ne.symm hk)]
def putAll (cells : Array Value) (off : Nat) (vs : List Value) (k : Nat) : Array Value := (vs.zipIdx k).foldl (fun cs p => cs.setIfInBounds (off + p.2) p.1) cells
theorem putAll_size : ∀ (vs : List Value) (cells : Array Value) (off k : Nat), (putAll cells off vs k).size = cells.size := by
 intro vs
 induction vs with
 | nil => intro cells off k; rfl
 | cons v vs ih => intro cells off k; have := ih (cells.setIfInBounds (off + k) v) off (k + 1); simp only [putAll, List.zipIdx_cons, List.foldl_cons] at this ⊢; simpa using this
theorem putAll_get : ∀ (vs : List Value) (cells : Array Value) (off k j : Nat), off + k + vs.length ≤ cells.size → (putAll cells off vs k)[j]? = if off + k ≤ j ∧ j < off + k + vs.length then vs[j - (off + k)]? else cells[j]? := by
 intro vs
 induction vs with
 | nil => intro cells off k j _; rw [if_neg (by simp)]; rfl
 | cons v vs ih =>
  intro cells off k j hl
  simp only [List.length_cons] at hl
  have h1 := ih (cells.setIfInBounds (off + k) v) off (k + 1) j (by simp; omega)
  have h2 : putAll cells off (v :: vs) k = putAll (cells.setIfInBounds (off + k) v) off vs (k + 1) := by simp [putAll]
  rw [h2, h1]
  by_cases hk : j = off + k
  ·subst hk
   rw [if_neg (by omega), if_pos (by simp)]
   simp [show off + k < cells.size by omega]
  ·by_cases h3 : off + (k + 1) ≤ j ∧ j < off + (k + 1) + vs.length
   ·rw [if_pos h3, if_pos (by simp only [List.length_cons]; omega)]
    have : j - (off + k) = (j - (off + (k + 1))) + 1 := by omega
    rw [this, List.getElem?_cons_succ]
   ·rw [if_neg h3, if_neg (by simp only [List.length_cons]; omega), Array.getElem?_setIfInBounds_ne (by omega)]
theorem fill_step {place : Nat → Option (Nat × Nat)} {cells : Array Value} {i off n : Nat} {v : Value} {rest : List (Nat × Value)} (hp : place i = some (off, n)) (hs : v.cells.size = n) (hl : off + n ≤ cells.size) :
  Instr.fill place cells ((i, v) :: rest) = Instr.fill place (putAll cells off v.cells.toList 0) rest := by
 have : v.cells.zipIdx.foldl (fun cs (c, j) => cs.setIfInBounds (off + j) c) cells = putAll cells off v.cells.toList 0 := by
  rw [putAll, ← Array.foldl_toList]; simp
 simp only [Instr.fill, hp]
 rw [if_neg (by simp [hs]; omega), this]
theorem parts_sound {place : Nat → Option (Nat × Nat)} {size : Nat → Option (Nat × Nat)} (hp : ∀ i off n, size i = some (off, n) → place i = some (off, n)) (h : Rel E.P x st a w L ow) :
  ∀ (ps : List (Nat × Operand)) (acc : List SC) (cells : Array Value) (k : List SC → M) (rs : List Loc), Runs E.P st (parts E size ps acc k) rs d → acc.length = cells.size →
   (∀ (i : Nat) (s : SC) (v : Value), acc[i]? = some s → cells[i]? = some v → SCR E.P w (x.F w ow) L st.o s v) →
   ∃ l cells' rs', Runs E.P st (k l) rs' d ∧ Instr.fill place cells (ps.map fun p => (p.1, a.eval p.2)) = some cells' ∧ l.length = cells'.size ∧ l.length = acc.length ∧
    ∀ (i : Nat) (s : SC) (v : Value), l[i]? = some s → cells'[i]? = some v → SCR E.P w (x.F w ow) L st.o s v := by
 intro ps
 induction ps with
 | nil => exact fun acc cells k rs hr hl hs => ⟨acc, cells, rs, hr, rfl, hl, rfl, hs⟩
 | cons p ps ih =>
  obtain ⟨i, y⟩ := p
  intro acc cells k rs hr hl hs
  simp only [parts] at hr
  split at hr
  ·rename_i off n hsz
   obtain ⟨b, rs1, h1, h2⟩ := opnd_runs h hr
   split at h1
   ·rename_i cs hsc
    obtain ⟨hb, h3⟩ := runs_cond h1
    rw [Bool.and_eq_true] at hb
    have hb1 := Nat.eq_of_beq_eq_true hb.1
    have hb2 := Nat.le_of_ble_eq_true hb.2
    obtain ⟨hv1, hv2⟩ := scsOf_vals h2 hsc
    have hvs : (a.eval y).cells.size = n := by rw [← hb1, ← hv1]; simp
    obtain ⟨l, cells', rs', q1, q2, q3, q4, q5⟩ := ih (setSC acc off cs) (putAll cells off (a.eval y).cells.toList 0) k rs1 h3 (by rw [setSC_length, putAll_size]; exact hl) (fun j s v hj hv => by
     rw [setSC_get _ _ _ _ (by omega)] at hj
     rw [putAll_get _ _ _ _ _ (by simp; omega)] at hv
     rw [Nat.add_zero, hv1] at hv
     split at hj
     ·rename_i hc
      rw [if_pos hc] at hv
      exact hv2 _ s v hj hv
     ·rename_i hc
      rw [if_neg hc] at hv
      exact hs j s v hj hv)
    refine ⟨l, cells', rs', q1, ?_, q3, q4.trans (setSC_length _ _ _), q5⟩
    simp only [List.map_cons]
    rw [fill_step (hp i off n hsz) hvs (by omega)]
    exact q2
   ·cases h1
  ·cases hr
theorem zero_scr {P : Program} {F : Frs} {ob : List Ob} {zs : List Value} (hz : ∀ v ∈ zs, v.oneCell' = true) : ∀ (i : Nat) (s : SC) (v : Value), (zs.map fun z => SC.c (.v z))[i]? = some s → zs.toArray[i]? = some v → SCR P w F L ob s v := by
 intro i s v hi hv
 simp at hv
 simp [hv] at hi
 subst hi
 exact .c (.v (hz v (List.mem_of_getElem? hv)))
theorem sound_build {t : TypeId} {ps : Array (Nat × Operand)} (hT : TOk E) (h : Rel E.P x st a w L ow) (ho : o.op = .build t ps)
  (hr : Runs E.P st (typ E t fun i => bif buildable E i.kind then parts E (fieldsOf E i.kind) ps.toList (i.zero.map fun z => .c (.v z)) (fun l => out o.dst (.agg l) []) else .fail) rs d) (hl : ∀ p ∈ d.s, p.1 < st.s.length) (hn : Good E x (st.app d) next) : o.wp E.P a w next Q := by
 obtain ⟨i, hi, _, hr2⟩ := typ_runs hT hr
 obtain ⟨hbd, h0⟩ := runs_cond hr2
 obtain ⟨dsc, u1, _, _, u4⟩ := hi.under
 obtain ⟨z, hz, hzc⟩ := hi.zero_run (w := w)
 have hz2 : z.cells = i.zero.toArray := by rw [← hzc]
 cases hk : i.kind with
 | struct fs =>
  rw [hk] at u4 h0
  obtain ⟨fields, rfl, hfl, hf⟩ := u4
  have hpl : ∀ k off n, fieldsOf E (.struct fs) k = some (off, n) → ((fields.map fun f => (f.offset, E.P.cellsOf f.type))[k]?) = some (off, n) := by
   intro k off n hh
   simp only [fieldsOf] at hh
   split at hh
   ·rename_i off' t' hfk
    split at hh
    ·rename_i j hj
     injection hh with hh; injection hh with hh1 hh2; subst hh1; subst hh2
     obtain ⟨f, g1, g2, g3, g4⟩ := hf k off' t' hfk
     simp [g1, g2, g3, (hT _ _ hj).1.cells]
    ·cases hh
   ·cases hh
  obtain ⟨l, cells', rs', q1, q2, q3, q4, q5⟩ := parts_sound hpl h ps.toList _ i.zero.toArray _ rs h0 (by simp) (zero_scr hi.zone)
  refine fin h q1 hl (v := .agg cells') (.agg q3 q5) ?_ hn
  have hm : (fields.mapM fun f => do pure (f.offset, ← Go.sizeOf f.type) : Sem (Array (Nat × Nat))).run E.P w = .ok (fields.map fun f => (f.offset, E.P.cellsOf f.type)) w := by
   have key : ∀ (l : List Field), (∀ f ∈ l, E.P.cellsOf f.type ≠ 0) → (l.mapM fun f => do pure (f.offset, ← Go.sizeOf f.type) : Sem (List (Nat × Nat))).run E.P w = .ok (l.map fun f => (f.offset, E.P.cellsOf f.type)) w := by
    intro l
    induction l with
    | nil => intro _; rfl
    | cons f l ih =>
     intro hh
     have ih' := ih fun g hg => hh g (by simp [hg])
     rw [List.mapM_cons]
     simp only [Sem.run_bind, size_run (hh f (by simp)), Result.andThen_ok, Sem.run_pure, ih', List.map_cons]
   have := key fields.toList fun f hf' => by
    obtain ⟨k, hk'⟩ := List.mem_iff_getElem?.1 hf'
    have hkl : k < fs.length := by rw [hfl]; simpa using (List.getElem?_eq_some_iff.1 hk').1
    obtain ⟨f', g1, g2, g3, g4⟩ := hf k _ _ (List.getElem?_eq_getElem hkl)
    rw [Array.getElem?_toList] at hk'
    rw [hk'] at g1; injection g1 with g1; subst g1; rw [g3]; exact g4
   rw [Array.mapM_eq_mapM_toList, Sem.run_map, this, Result.andThen_ok, ← Array.toList_map]
  have hq : Instr.fill (fun k => (fields.map fun f => (f.offset, E.P.cellsOf f.type))[k]?) i.zero.toArray (ps.map fun (i, y) => (i, a.eval y)).toList = some cells' := by rw [Array.toList_map]; exact q2
  have hb : (Instr.build t (ps.map fun (i, y) => (i, a.eval y))).run E.P w = .ok (.agg cells') w := by
   simp only [Instr.build, Sem.run_bind, hz, run_underlying u1, Result.andThen_ok, hm, hz2]
   rw [hq]; rfl
  simp only [execOp, ho, Sem.run_bind, hb, Result.andThen_ok, Sem.run_pure]
 | array m e =>
  rw [hk] at u4 h0
  simp only at u4; subst u4
  cases hE : E.T e with
  | none =>
   rw [hk] at hbd; simp [buildable, hE] at hbd
  | some j =>
   have hje := (hT _ _ hE).1
   have hpl : ∀ k off n, fieldsOf E (.array m e) k = some (off, n) → (fun k => some (k * j.size, j.size)) k = some (off, n) := by
    intro k off n hh
    simp only [fieldsOf, hE] at hh
    cases hb : Nat.blt k m <;> rw [hb] at hh
    ·cases hh
    ·exact hh
   obtain ⟨l, cells', rs', q1, q2, q3, q4, q5⟩ := parts_sound hpl h ps.toList _ i.zero.toArray _ rs h0 (by simp) (zero_scr hi.zone)
   refine fin h q1 hl (v := .agg cells') (.agg q3 q5) ?_ hn
   have hq : Instr.fill (fun k => some (k * j.size, j.size)) i.zero.toArray (ps.map fun (i, y) => (i, a.eval y)).toList = some cells' := by rw [Array.toList_map]; exact q2
   have hb : (Instr.build t (ps.map fun (i, y) => (i, a.eval y))).run E.P w = .ok (.agg cells') w := by
    simp only [Instr.build, Sem.run_bind, hz, run_underlying u1, Result.andThen_ok, sizeOf_run hje, hz2]
    rw [hq]; rfl
   simp only [execOp, ho, Sem.run_bind, hb, Result.andThen_ok, Sem.run_pure]
 | _ => rw [hk] at hbd; cases hbd
end
end Ev
