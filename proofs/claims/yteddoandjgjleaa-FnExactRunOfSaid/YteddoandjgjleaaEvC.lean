/-
  An abstract machine, sound for the model: part 3.
-/
import Derived.Test.YteddoandjgjleaaEvB
namespace Ev
open Go
/-! ### Sorting by blocks -/
/-- The first j blocks of this width, each sorted. -/
def sb {α : Type} (lt : α → α → Bool) (w : Nat) : Nat → List α → List α
  | 0, _ => []
  | j + 1, l => isort lt (l.take w) ++ sb lt w j (l.drop w)
/-- All blocks, each sorted. -/
def tl {α : Type} (lt : α → α → Bool) (w : Nat) (l : List α) : List α := sb lt w l.length l
theorem sb_nil {α : Type} (lt : α → α → Bool) (w : Nat) : ∀ j, sb lt w j ([] : List α) = [] := by
  intro j
  induction j with
  | zero => rfl
  | succ j ih => simp [sb, ih, isort]
theorem sb_more {α : Type} (lt : α → α → Bool) {w : Nat} (hw : 0 < w) : ∀ (j : Nat) (l : List α), l.length ≤ j → sb lt w j l = tl lt w l := by
  have key : ∀ (j k : Nat) (l : List α), l.length ≤ j → l.length ≤ k → sb lt w j l = sb lt w k l := by
    intro j
    induction j with
    | zero =>
      intro k l h _
      have : l = [] := List.eq_nil_of_length_eq_zero (by omega)
      subst this; rw [sb_nil, sb_nil]
    | succ j ih =>
      intro k l h hk
      cases k with
      | zero =>
        have : l = [] := List.eq_nil_of_length_eq_zero (by omega)
        subst this; rw [sb_nil, sb_nil]
      | succ k =>
        show isort lt (l.take w) ++ sb lt w j (l.drop w) = isort lt (l.take w) ++ sb lt w k (l.drop w)
        cases hl : l with
        | nil => simp [sb_nil]
        | cons x l' => rw [ih k _ (by rw [List.length_drop]; simp [hl] at h ⊢; omega) (by rw [List.length_drop]; simp [hl] at hk ⊢; omega)]
  exact fun j l h => key j _ l h (Nat.le_refl _)
theorem tl_cons {α : Type} (lt : α → α → Bool) {w : Nat} (hw : 0 < w) (l : List α) : tl lt w l = isort lt (l.take w) ++ tl lt w (l.drop w) := by
  rw [← sb_more lt hw (l.length + 1) l (by omega), ← sb_more lt hw l.length (l.drop w) (by rw [List.length_drop]; omega)]
  rfl
theorem tl_short {α : Type} (lt : α → α → Bool) {w : Nat} (hw : 0 < w) {l : List α} (h : l.length ≤ w) : tl lt w l = isort lt l := by
  rw [tl_cons lt hw, List.take_of_length_le h, List.drop_eq_nil_of_le h]
  simp [tl, sb]
theorem sb_snoc {α : Type} (lt : α → α → Bool) (w : Nat) : ∀ (j : Nat) (l : List α), sb lt w (j + 1) l = sb lt w j l ++ isort lt ((l.drop (w * j)).take w) := by
  intro j
  induction j with
  | zero => intro l; simp [sb]
  | succ j ih =>
    intro l
    show isort lt (l.take w) ++ sb lt w (j + 1) (l.drop w) = (isort lt (l.take w) ++ sb lt w j (l.drop w)) ++ _
    rw [ih, List.drop_drop, List.append_assoc, show w + w * j = w * (j + 1) by rw [Nat.mul_succ]; omega]
theorem sb_len {α : Type} (lt : α → α → Bool) (w : Nat) : ∀ (j : Nat) (l : List α), w * j ≤ l.length → (sb lt w j l).length = w * j := by
  intro j
  induction j with
  | zero => intro l _; rfl
  | succ j ih =>
    intro l h
    rw [Nat.mul_succ] at h
    rw [sb_snoc, List.length_append, ih l (by omega), isort_len, List.length_take, List.length_drop, Nat.mul_succ]
    omega
theorem sb_tl {α : Type} (lt : α → α → Bool) {w : Nat} (hw : 0 < w) : ∀ (j : Nat) (l : List α), sb lt w j l ++ tl lt w (l.drop (w * j)) = tl lt w l := by
  intro j
  induction j with
  | zero => intro l; simp [sb]
  | succ j ih =>
    intro l
    rw [sb_snoc, List.append_assoc]
    have := tl_cons lt hw (l.drop (w * j))
    rw [List.drop_drop, show w * j + w = w * (j + 1) by rw [Nat.mul_succ]] at this
    rw [← this, ih]
theorem tl_len {α : Type} (lt : α → α → Bool) {w : Nat} (hw : 0 < w) : ∀ (n : Nat) (l : List α), l.length ≤ n → (tl lt w l).length = l.length := by
  intro n
  induction n with
  | zero => intro l h; rw [List.eq_nil_of_length_eq_zero (show l.length = 0 by omega)]; rfl
  | succ n ih =>
    intro l h
    cases hl : l with
    | nil => rfl
    | cons x l' =>
      rw [← hl, tl_cons lt hw, List.length_append, isort_len, List.length_take, ih (l.drop w) (by rw [List.length_drop]; simp [hl] at h ⊢; omega), List.length_drop]
      omega
theorem sortRange_app {α : Type} (lt : α → α → Bool) {p q : List α} {a b : Nat} (ha : a = p.length) (hab : a ≤ b) : sortRange lt (p ++ q) a b = p ++ isort lt (q.take (b - a)) ++ q.drop (b - a) := by
  subst ha
  rw [sortRange, List.take_left, List.drop_left, List.drop_append]
  simp [List.drop_eq_nil_of_le hab]
end Ev

/-! ## Keys, entries and their order, plain -/
namespace Ev
open Go
abbrev slt (a b : ByteArray) : Bool := Op.bytesLess a.toList b.toList
theorem bl_irr : ∀ (a : List UInt8), Op.bytesLess a a = false := by
  intro a
  induction a with
  | nil => rfl
  | cons x a ih => simp [Op.bytesLess, ih]
theorem bl_asym : ∀ (a b : List UInt8), Op.bytesLess a b = true → Op.bytesLess b a = false := by
  intro a
  induction a with
  | nil => intro b h; cases b <;> simp_all [Op.bytesLess]
  | cons x a ih =>
    intro b h
    cases b with
    | nil => simp [Op.bytesLess] at h
    | cons y b =>
      simp only [Op.bytesLess, Bool.or_eq_true, decide_eq_true_eq, Bool.and_eq_true, beq_iff_eq] at h
      simp only [Op.bytesLess, Bool.or_eq_false_iff, decide_eq_false_iff_not, Bool.and_eq_false_imp, beq_iff_eq]
      rcases h with h | ⟨h1, h2⟩
      · refine ⟨fun h' => ?_, fun h' => ?_⟩
        · exact absurd h (UInt8.lt_asymm h')
        · subst h'; exact absurd h (UInt8.lt_irrefl _)
      · subst h1
        exact ⟨UInt8.lt_irrefl _, fun _ => ih b h2⟩
theorem bl_tot : ∀ (a b : List UInt8), Op.bytesLess a b = false → Op.bytesLess b a = false → a = b := by
  intro a
  induction a with
  | nil => intro b h h'; cases b <;> simp_all [Op.bytesLess]
  | cons x a ih =>
    intro b h h'
    cases b with
    | nil => simp [Op.bytesLess] at h'
    | cons y b =>
      simp only [Op.bytesLess, Bool.or_eq_false_iff, decide_eq_false_iff_not, Bool.and_eq_false_imp, beq_iff_eq] at h h'
      have hxy : x = y := by
        have h1 := h.1; have h2 := h'.1
        exact UInt8.le_antisymm (UInt8.not_lt.1 h2) (UInt8.not_lt.1 h1)
      subst hxy
      rw [ih b (h.2 rfl) (h'.2 rfl)]
theorem bl_trans : ∀ (a b c : List UInt8), Op.bytesLess a b = true → Op.bytesLess b c = true → Op.bytesLess a c = true := by
  intro a
  induction a with
  | nil => intro b c h h'; cases b <;> cases c <;> simp_all [Op.bytesLess]
  | cons x a ih =>
    intro b c h h'
    cases b with
    | nil => simp [Op.bytesLess] at h
    | cons y b =>
      cases c with
      | nil => simp [Op.bytesLess] at h'
      | cons z c =>
        simp only [Op.bytesLess, Bool.or_eq_true, decide_eq_true_eq, Bool.and_eq_true, beq_iff_eq] at h h' ⊢
        rcases h with h | ⟨h1, h2⟩ <;> rcases h' with h' | ⟨h3, h4⟩
        · exact .inl (UInt8.lt_trans h h')
        · subst h3; exact .inl h
        · subst h1; exact .inl h'
        · subst h1; subst h3; exact .inr ⟨rfl, ih b c h2 h4⟩
theorem slt_tot {a b : ByteArray} (h : slt a b = false) (h' : slt b a = false) : a = b := by
  have := bl_tot _ _ h h'
  rw [ByteArray.toList_eq, ByteArray.toList_eq] at this
  exact ByteArray.ext (Array.toList_inj.1 this)
theorem slt_irr (a : ByteArray) : slt a a = false := bl_irr _
theorem slt_asym {a b : ByteArray} (h : slt a b = true) : slt b a = false := bl_asym _ _ h
theorem slt_trans {a b c : ByteArray} (h : slt a b = true) (h' : slt b c = true) : slt a c = true := bl_trans _ _ _ h h'
theorem slt_ne {a b : ByteArray} (h : slt a b = true) : a ≠ b := fun e => by rw [e, slt_irr] at h; cases h
/-- An entry comes ahead of another one. -/
def eLess (a b : Ent) : Bool := slt a.key b.key || (decide (a.key = b.key) && decide (b.seq < a.seq))
theorem eLess_wk : Wk eLess := by
  constructor
  · intro a b h
    simp only [eLess, Bool.or_eq_true, Bool.and_eq_true, decide_eq_true_eq] at h
    simp only [eLess, Bool.or_eq_false_iff, Bool.and_eq_false_imp, decide_eq_true_eq, decide_eq_false_iff_not]
    rcases h with h | ⟨h1, h2⟩
    · exact ⟨slt_asym h, fun e => absurd e.symm (slt_ne h)⟩
    · exact ⟨by rw [h1]; exact slt_irr _, fun _ => by omega⟩
  · intro a b c h1 h2
    simp only [eLess, Bool.or_eq_false_iff, Bool.and_eq_false_imp, decide_eq_true_eq, decide_eq_false_iff_not] at h1 h2 ⊢
    have key : slt a.key c.key = false := by
      cases hx : slt a.key c.key with
      | false => rfl
      | true =>
        -- b ≤ a < c ≤ b
        rcases Bool.eq_false_or_eq_true (slt b.key a.key) with hb | hb
        · have := slt_trans hb hx
          rw [h2.1] at this; cases this
        · have e := slt_tot h1.1 hb
          rw [← e, hx] at h2; cases h2.1
    refine ⟨key, fun e => ?_⟩
    have hab : a.key = b.key := by
      rcases Bool.eq_false_or_eq_true (slt b.key a.key) with hb | hb
      · rw [e] at hb; rw [hb] at h2; cases h2.1
      · exact slt_tot h1.1 hb
    have hbc : b.key = c.key := hab.symm.trans e
    have := h1.2 hab
    have := h2.2 hbc
    omega
def scmp (a b : ByteArray) : Int := if slt a b then -1 else if slt b a then 1 else 0
def icmp (a b : Int) : Int := if a < b then -1 else if b < a then 1 else 0
def firstNZ : List Int → Int
  | [] => 0
  | x :: l => if x = 0 then firstNZ l else x
theorem firstNZ_app {l m : List Int} (h : ∀ x ∈ l, x = 0) : firstNZ (l ++ m) = firstNZ m := by
  induction l with
  | nil => rfl
  | cons x l ih => simp only [List.cons_append, firstNZ]; rw [if_pos (h x (by simp)), ih fun y hy => h y (by simp [hy])]
def eord (a b : Ent) : Int := firstNZ [scmp a.key b.key, icmp b.seq a.seq]
theorem str_gt (a b : ByteArray) : (!(Op.bytesLess a.toList b.toList || a.toList == b.toList)) = slt b a := by
  cases h1 : slt a b with
  | true => rw [show Op.bytesLess a.toList b.toList = true from h1, slt_asym h1]; rfl
  | false =>
    rw [show Op.bytesLess a.toList b.toList = false from h1, bytes_beq]
    by_cases h : a = b
    · subst h; simp [slt_irr]
    · cases h2 : slt b a with
      | true => simp [h]
      | false => exact absurd (slt_tot h1 h2) h
theorem eord_lt (a b : Ent) : decide (eord a b < 0) = eLess a b := by
  simp only [eord, firstNZ, scmp, icmp, eLess]
  by_cases h1 : slt a.key b.key = true
  · simp [h1]
  · have h1 : slt a.key b.key = false := by simpa using h1
    by_cases h2 : slt b.key a.key = true
    · have : a.key ≠ b.key := fun e => by rw [e, slt_irr] at h2; cases h2
      simp [h1, h2, this]
    · have h2 : slt b.key a.key = false := by simpa using h2
      have := slt_tot h1 h2
      by_cases h3 : b.seq < a.seq
      · simp [h3, this, slt_irr]
      · by_cases h4 : a.seq < b.seq
        · simp [h3, h4, this, slt_irr]
        · simp [h3, h4, this, slt_irr]
/-! ### What is right -/
def okc (z : Int) : Bool := (decide (97 ≤ z) && decide (z ≤ 122)) || (decide (47 ≤ z) && decide (z ≤ 57))
def keyOk (s : ByteArray) : Bool := decide (1 ≤ s.size) && decide (s.size ≤ 8) && (List.range s.size).all fun i => okc (byteAt s i)
theorem keyOk_bad {s : ByteArray} {i : Nat} (hi : i < s.size) (h : okc (byteAt s i) = false) : keyOk s = false := by
  have : (List.range s.size).all (fun i => okc (byteAt s i)) = false := by
    rw [List.all_eq_false]
    exact ⟨i, by simpa using hi, by simp [h]⟩
  simp [keyOk, this]
theorem keyOk_all {s : ByteArray} (h : ∀ j : Nat, j < s.size → okc (byteAt s j) = true) : keyOk s = (decide (1 ≤ s.size) && decide (s.size ≤ 8)) := by
  have : (List.range s.size).all (fun i => okc (byteAt s i)) = true := by
    rw [List.all_eq_true]
    intro j hj
    exact h j (by simpa using hj)
  simp [keyOk, this]
theorem keyOk_len {s : ByteArray} (h : s.size < 1 ∨ 8 < s.size) : keyOk s = false := by
  unfold keyOk
  rcases h with h | h
  · rw [decide_eq_false (p := 1 ≤ s.size) (by omega)]; rfl
  · rw [decide_eq_false (p := s.size ≤ 8) (by omega)]; simp
def sumOk (n : Int) : Bool := decide (-1000000 ≤ n) && decide (n ≤ 1000000)
def entOk (e : Ent) : Bool := keyOk e.key && (decide (1 ≤ e.seq) && (decide (e.seq ≤ 100000) && (decide (e.text.size ≤ 60) && (sumOk e.n &&
  (decide (e.kind = 1) || (decide (e.kind = 2) && (decide (e.text = ⟨#[]⟩) && decide (e.n = 0))) || (decide (e.kind = 3) && decide (e.text = ⟨#[]⟩)))))))
/-- All right, and in order. -/
def ordOk : List Ent → Bool
  | [] => true
  | [a] => entOk a
  | a :: b :: l => entOk a && (eLess a b && ordOk (b :: l))
theorem ordOk_iff : ∀ (l : List Ent), ordOk l = true ↔ ∀ (j : Nat) (h : j < l.length), entOk l[j] = true ∧ (∀ i (hi : i + 1 = j), eLess (l[i]'(by omega)) l[j] = true) := by
  intro l
  induction l with
  | nil => simp [ordOk]
  | cons a l ih =>
    cases l with
    | nil =>
      simp only [ordOk]
      constructor
      · intro h j hj
        have : j = 0 := by simpa using hj
        subst this
        exact ⟨h, fun i hi => by omega⟩
      · intro h; exact (h 0 (by simp)).1
    | cons b l =>
      simp only [ordOk, Bool.and_eq_true]
      rw [ih]
      constructor
      · rintro ⟨h1, h2, h3⟩ j hj
        cases j with
        | zero => exact ⟨h1, fun i hi => by omega⟩
        | succ j =>
          refine ⟨(h3 j (by simpa using hj)).1, fun i hi => ?_⟩
          have : i = j := by omega
          subst this
          cases i with
          | zero => exact h2
          | succ i => exact (h3 (i + 1) (by simpa using hj)).2 i rfl
      · intro h
        refine ⟨(h 0 (by simp)).1, (h 1 (by simp)).2 0 rfl, fun j hj => ⟨(h (j + 1) (by simpa using hj)).1, fun i hi => ?_⟩⟩
        exact (h (j + 1) (by simpa using hj)).2 (i + 1) (by omega)
theorem ordOk_bad {l : List Ent} {j : Nat} (h : j < l.length) (hb : entOk l[j] = false ∨ ∃ i, ∃ hi : i + 1 = j, eLess (l[i]'(by omega)) l[j] = false) : ordOk l = false := by
  cases ho : ordOk l with
  | false => rfl
  | true =>
    obtain ⟨h1, h2⟩ := (ordOk_iff l).1 ho j h
    rcases hb with hb | ⟨i, hi, hb⟩
    · rw [h1] at hb; cases hb
    · rw [h2 i hi] at hb; cases hb
/-! ### Marks -/
theorem orN {m n : Nat} (hm : m < 65536) (hn : n < 65536) : IntKind.i64.wrap (((BitVec.ofInt IntKind.i64.bits (m : Int) ||| BitVec.ofInt IntKind.i64.bits (n : Int)).toNat : Nat) : Int) = ((m ||| n : Nat) : Int) := by
  have hlt : m ||| n < 65536 := Nat.or_lt_two_pow (n := 16) hm hn
  have h1 : (BitVec.ofInt IntKind.i64.bits (m : Int) ||| BitVec.ofInt IntKind.i64.bits (n : Int)).toNat = m ||| n := by
    rw [BitVec.toNat_or, BitVec.ofInt_natCast, BitVec.ofInt_natCast, BitVec.toNat_ofNat, BitVec.toNat_ofNat, Nat.mod_eq_of_lt (Nat.lt_of_lt_of_le hm (by decide)), Nat.mod_eq_of_lt (Nat.lt_of_lt_of_le hn (by decide))]
  rw [h1]
  exact wrapI' rfl (by omega)
theorem andN {m n : Nat} (hm : m < 65536) (hn : n < 65536) : IntKind.i64.wrap (((BitVec.ofInt IntKind.i64.bits (m : Int) &&& BitVec.ofInt IntKind.i64.bits (n : Int)).toNat : Nat) : Int) = ((m &&& n : Nat) : Int) := by
  have hlt : m &&& n < 65536 := Nat.and_lt_two_pow (n := 16) m hn
  have h1 : (BitVec.ofInt IntKind.i64.bits (m : Int) &&& BitVec.ofInt IntKind.i64.bits (n : Int)).toNat = m &&& n := by
    rw [BitVec.toNat_and, BitVec.ofInt_natCast, BitVec.ofInt_natCast, BitVec.toNat_ofNat, BitVec.toNat_ofNat, Nat.mod_eq_of_lt (Nat.lt_of_lt_of_le hm (by decide)), Nat.mod_eq_of_lt (Nat.lt_of_lt_of_le hn (by decide))]
  rw [h1]
  exact wrapI' rfl (by omega)
def hstep (h : Nat) (s : ByteArray) (i : Nat) : Nat := (31 * h + (byteAt s i).toNat) % 65521
def hsh (s : ByteArray) : Nat → Nat
  | 0 => 7
  | i + 1 => hstep (hsh s i) s i
theorem byteAt_lt (s : ByteArray) (i : Nat) : 0 ≤ byteAt s i ∧ byteAt s i < 256 := by
  unfold byteAt
  split
  · exact ⟨Int.natCast_nonneg _, by have := UInt8.toNat_lt (s[(i : Int).toNat]); omega⟩
  · omega
theorem hsh_lt (s : ByteArray) : ∀ i, hsh s i < 65521 := by
  intro i
  cases i with
  | zero => show 7 < 65521; decide
  | succ i => exact Nat.mod_lt _ (by decide)
def kmask (s : ByteArray) : Nat := 2 ^ (hsh s s.size % 16) ||| 2 ^ (hsh s s.size / 16 % 16)
theorem p16_lt (n : Nat) : 2 ^ (n % 16) < 65536 := by
  have : n % 16 < 16 := Nat.mod_lt _ (by decide)
  exact Nat.pow_lt_pow_right (a := 2) (by decide) this
theorem kmask_lt (s : ByteArray) : kmask s < 65536 := Nat.or_lt_two_pow (n := 16) (p16_lt _) (p16_lt _)
def rmask (l : List Ent) : Nat := l.foldl (fun m e => m ||| kmask e.key) 0
theorem rmask_snoc (l : List Ent) (e : Ent) : rmask (l ++ [e]) = rmask l ||| kmask e.key := by simp [rmask]
theorem rmask_lt (l : List Ent) : rmask l < 65536 := by
  have : ∀ (l : List Ent) (m : Nat), m < 65536 → l.foldl (fun m e => m ||| kmask e.key) m < 65536 := by
    intro l
    induction l with
    | nil => intro m h; exact h
    | cons e l ih => intro m h; exact ih _ (Nat.or_lt_two_pow (n := 16) h (kmask_lt _))
  exact this l 0 (by decide)
theorem bit_step {x i : Nat} : x / 2 ^ i = 2 * (x / 2 ^ (i + 1)) + x / 2 ^ i % 2 := by
  rw [Nat.pow_succ, ← Nat.div_div_eq_div_mul]; omega
theorem or_bit {a b i : Nat} : (a ||| b) / 2 ^ i % 2 = if a / 2 ^ i % 2 = 1 ∨ b / 2 ^ i % 2 = 1 then 1 else 0 := by
  have h : ∀ x : Nat, x / 2 ^ i % 2 = (x.testBit i).toNat := fun x => by
    rw [Nat.testBit_eq_decide_div_mod_eq]
    by_cases hx : x / 2 ^ i % 2 = 1
    · simp [hx]
    · have : x / 2 ^ i % 2 = 0 := by omega
      simp [this]
  rw [h, h, h, Nat.testBit_or]
  cases a.testBit i <;> cases b.testBit i <;> simp
theorem tmodN' (j n : Nat) : (j : Int).tmod (n : Int) = ((j % n : Nat) : Int) := rfl
theorem tdivN' (j n : Nat) : (j : Int).tdiv (n : Int) = ((j / n : Nat) : Int) := rfl
end Ev

/-! ## Runs, plain -/
namespace Ev
open Go
theorem isort_mem {α : Type} (lt : α → α → Bool) (l : List α) (z : α) : z ∈ isort lt l ↔ z ∈ l := by
  have hi : ∀ (e : α) (l : List α), z ∈ insR lt e l ↔ z = e ∨ z ∈ l := by
    intro e l
    induction l with
    | nil => simp [insR]
    | cons x l ih =>
      unfold insR
      split
      · simp only [List.mem_cons, ih]
        constructor
        · rintro (h | h | h)
          · exact .inr (.inl h)
          · exact .inl h
          · exact .inr (.inr h)
        · rintro (h | h | h)
          · exact .inr (.inl h)
          · exact .inl h
          · exact .inr (.inr h)
      · simp only [List.mem_cons]
  have key : ∀ (l acc : List α), z ∈ l.foldl (ins lt) acc ↔ z ∈ acc ∨ z ∈ l := by
    intro l
    induction l with
    | nil => intro acc; simp
    | cons x l ih =>
      intro acc
      rw [List.foldl_cons, ih]
      unfold ins
      rw [List.mem_reverse, hi, List.mem_reverse, List.mem_cons]
      constructor
      · rintro ((h | h) | h)
        · exact .inr (.inl h)
        · exact .inl h
        · exact .inr (.inr h)
      · rintro (h | h | h)
        · exact .inl (.inr h)
        · exact .inl (.inl h)
        · exact .inr h
  unfold isort
  rw [key]; simp
theorem srt_id {α : Type} {lt : α → α → Bool} (hw : Wk lt) {l : List α} (h : Srt lt l) : isort lt l = l := by
  have := srt_mrg hw (a := l) (b := []) h List.Pairwise.nil
  rwa [List.append_nil, mrg_nil_r] at this
theorem eLess_trans {a b c : Ent} (h : eLess a b = true) (h' : eLess b c = true) : eLess a c = true := by
  cases hx : eLess a c with
  | true => rfl
  | false =>
    have := eLess_wk.nt a c b hx (eLess_wk.asym _ _ h')
    rw [h] at this; cases this
theorem ordOk_get {l : List Ent} (h : ordOk l = true) : ∀ (d i : Nat) (hd : i + d + 1 < l.length), eLess (l[i]'(by omega)) (l[i + d + 1]'hd) = true := by
  intro d
  induction d with
  | zero => intro i hd; exact ((ordOk_iff l).1 h (i + 1) (by omega)).2 i rfl
  | succ d ih =>
    intro i hd
    exact eLess_trans (ih i (by omega)) (((ordOk_iff l).1 h (i + (d + 1) + 1) hd).2 (i + d + 1) (by omega))
theorem ordOk_srt {l : List Ent} (h : ordOk l = true) : Srt eLess l := by
  refine List.pairwise_iff_getElem.2 fun i j hi hj hij => eLess_wk.asym _ _ ?_
  have := ordOk_get h (j - i - 1) i (by omega)
  have he : i + (j - i - 1) + 1 = j := by omega
  simp only [he] at this
  exact this
def good (l : List Ent) : Bool := decide (1 ≤ l.length) && (decide (l.length ≤ 150) && ordOk (isort eLess l))
def runOk (r : Rn) : Bool := decide (1 ≤ r.ents.length) && (decide (r.ents.length ≤ 150) && (ordOk r.ents && decide (r.mask = (rmask r.ents : Nat))))
theorem runOk_eq (r : Rn) : runOk r = (good r.ents && decide ((⟨isort eLess r.ents, (rmask (isort eLess r.ents) : Nat)⟩ : Rn) = r)) := by
  unfold runOk good
  by_cases ho : ordOk r.ents = true
  · have hs := srt_id eLess_wk (ordOk_srt ho)
    rw [hs, ho]
    have : decide ((⟨r.ents, (rmask r.ents : Nat)⟩ : Rn) = r) = decide (r.mask = (rmask r.ents : Nat)) := by
      obtain ⟨e, m⟩ := r
      simp [eq_comm]
    rw [this]
    simp [Bool.and_assoc]
  · have ho : ordOk r.ents = false := by simpa using ho
    rw [ho]
    by_cases he : (⟨isort eLess r.ents, (rmask (isort eLess r.ents) : Nat)⟩ : Rn) = r
    · have h1 : isort eLess r.ents = r.ents := congrArg Rn.ents he
      rw [h1, ho]; simp
    · simp [he]
theorem runOk_len {r : Rn} (h : runOk r = true) : 1 ≤ r.ents.length ∧ r.ents.length ≤ 150 ∧ ordOk r.ents = true ∧ r.mask = (rmask r.ents : Nat) := by
  simpa [runOk] using h
theorem and_or {m k : Nat} : (m &&& k = k) ↔ (m ||| k = m) := by
  constructor
  · intro h
    apply Nat.eq_of_testBit_eq
    intro i
    have := congrArg (Nat.testBit · i) h
    simp only [Nat.testBit_and, Nat.testBit_or] at this ⊢
    cases h1 : m.testBit i <;> cases h2 : k.testBit i <;> simp_all
  · intro h
    apply Nat.eq_of_testBit_eq
    intro i
    have := congrArg (Nat.testBit · i) h
    simp only [Nat.testBit_and, Nat.testBit_or] at this ⊢
    cases h1 : m.testBit i <;> cases h2 : k.testBit i <;> simp_all
def runMay (r : Rn) (key : ByteArray) : Bool := runOk r && (!slt key ((r.ents.getD 0 ent0).key) && (!slt ((r.ents.getD (r.ents.length - 1) ent0).key) key && decide (rmask r.ents ||| kmask key = rmask r.ents)))
theorem str_le (a b : ByteArray) : (Op.bytesLess a.toList b.toList || a.toList == b.toList) = !slt b a := by
  rw [← str_gt]; simp
theorem plainE (xs : List Ent) : Plain (xs.map Ent.enc) := by
  intro r hr c hc
  obtain ⟨e, _, rfl⟩ := List.mem_map.1 hr
  simp only [Ent.enc, List.mem_cons, List.not_mem_nil, or_false] at hc
  rcases hc with h | h | h | h | h <;> subst h <;> trivial
theorem lenE (xs : List Ent) : ∀ r ∈ xs.map Ent.enc, r.length = 5 := by
  intro r hr
  obtain ⟨e, _, rfl⟩ := List.mem_map.1 hr
  rfl
end Ev
