/-
  Contracts of functions, part 2.
-/
import Derived.Test.YtfaofmjikhcihaaDoorTFnExactFrameText
set_option linter.unusedVariables false
set_option linter.unusedSimpArgs false
namespace Go.Proofs.YtfaofmjikhcihaaDoor
open Go Go.Proofs Ev
set_option maxRecDepth 100000
set_option maxHeartbeats 40000000
set_option linter.unusedSimpArgs false
set_option linter.unusedVariables false
theorem Builder_Len (l : Bs) (hl : l.length ≤ 140737488355328) : AFnK Tryd.prog 16 [.bx 0 0] [[.me 39, .us 5 (strU l)]] [0] (.one (vi l.length)) [[.me 39, .us 5 (strU l)]] := by
  have hol := strU_len l
  have hres : RV.one (vi (((strU l).length : Nat) : Int)) = RV.one (vi (l.length : Int)) := by rw [strU_len]
  refine AFnK.introX (E := En 1 md0) (en_ok 1 md0) Tryd.func16 rfl rfl rfl fun _ _ => ?_
  exact Need.mk ⟨[], _, .same, hres, rfl⟩ trivial
theorem Builder_LenF (l : Bs) (hl : l.length ≤ 140737488355328) : AFnK Tryd.prog 16 [.bx 0 0] [[.me 39, .sl (strU l)]] [0] (.one (vi l.length)) [[.me 39, .sl (strU l)]] := by
  have hol := strU_len l
  have hres : RV.one (vi (((strU l).length : Nat) : Int)) = RV.one (vi (l.length : Int)) := by rw [strU_len]
  refine AFnK.introX (E := En 1 md0) (en_ok 1 md0) Tryd.func16 rfl rfl rfl fun _ _ => ?_
  exact Need.mk ⟨[], _, .same, hres, rfl⟩ trivial
theorem impl_FrameText0 (b : List Ent) (hb : OkE b) (hl : b.length ≤ 1048576) (h : batOk b = false) : AFn Tryd.prog 7 [.one (.c (.sl (b.map Ent.enc)))] [] (.one (vs (bt (frameT b)))) [] := by
  have hB := impl_batchOk b hb hl
  rw [h] at hB
  have hres : RV.one (vs ⟨#[]⟩) = RV.one (vs (bt (frameT b))) := by rw [frameT_neg (by rw [h]; decide)]; rfl
  refine AFn.introX (E := En 0 md0) (en_ok 0 md0) Tryd.func7 rfl rfl rfl fun _ _ => ?_
  refine ACall.mk _ _ hB ?_
  refine Split.mk fun t h1 => ?_
  cases t
  case true => cases h1
  exact Need.mk ⟨[], _, .same, hres, rfl⟩ trivial
theorem impl_FrameText1 (b : List Ent) (hb : OkE b) (hl : b.length ≤ 1048576) (h : batOk b = true) : AFn Tryd.prog 7 [.one (.c (.sl (b.map Ent.enc)))] [] (.one (vs (bt (frameT b)))) [] := by
  have hB := impl_batchOk b hb hl
  rw [h] at hB
  have hol : (b.map Ent.enc).length = b.length := List.length_map ..
  have hb12 := (batOk_p h).2.1
  have hround : ∀ i : Nat, i < b.length → ∃ (e : Ent) (l0 l1 l2 l3 l4 l5 : Bs) (d1 d2 d3 d4 : ByteArray), (b.map Ent.enc)[i]? = some e.enc ∧ bodyT (b.take i) = l0 ∧ (e.key.size ≤ 8 ∧ d1.size ≤ 8 ∧ d2.size ≤ 8 ∧ d3.size ≤ 8 ∧ d4.size ≤ 8 ∧ e.text.size ≤ 60) ∧
      AFn Tryd.prog 15 [av (.int .i64 e.seq)] [] (.one (vs d1)) [] ∧ AFn Tryd.prog 15 [av (.int .i64 e.kind)] [] (.one (vs d2)) [] ∧ AFn Tryd.prog 15 [av (.int .i64 e.n)] [] (.one (vs d3)) [] ∧ AFn Tryd.prog 15 [av (.int .i64 (e.text.size : Int))] [] (.one (vs d4)) [] ∧
      AFnK Tryd.prog 14 [.bx 0 0, av (.string (e.key ++ ⟨#[32]⟩))] [[.me 39, .us 5 (strU l0)]] [0] (.tup [.one (vi (e.key ++ ⟨#[32]⟩).size), .one (.v .nilIface)]) [[.me 39, .us 5 (strU l1)]] ∧
      AFnK Tryd.prog 14 [.bx 0 0, av (.string (d1 ++ ⟨#[32]⟩))] [[.me 39, .us 5 (strU l1)]] [0] (.tup [.one (vi (d1 ++ ⟨#[32]⟩).size), .one (.v .nilIface)]) [[.me 39, .us 5 (strU l2)]] ∧
      AFnK Tryd.prog 14 [.bx 0 0, av (.string (d2 ++ ⟨#[32]⟩))] [[.me 39, .us 5 (strU l2)]] [0] (.tup [.one (vi (d2 ++ ⟨#[32]⟩).size), .one (.v .nilIface)]) [[.me 39, .us 5 (strU l3)]] ∧
      AFnK Tryd.prog 14 [.bx 0 0, av (.string (d3 ++ ⟨#[32]⟩))] [[.me 39, .us 5 (strU l3)]] [0] (.tup [.one (vi (d3 ++ ⟨#[32]⟩).size), .one (.v .nilIface)]) [[.me 39, .us 5 (strU l4)]] ∧
      AFnK Tryd.prog 14 [.bx 0 0, av (.string (d4 ++ ⟨#[32]⟩))] [[.me 39, .us 5 (strU l4)]] [0] (.tup [.one (vi (d4 ++ ⟨#[32]⟩).size), .one (.v .nilIface)]) [[.me 39, .us 5 (strU l5)]] ∧
      AFnK Tryd.prog 14 [.bx 0 0, av (.string (e.text))] [[.me 39, .us 5 (strU l5)]] [0] (.tup [.one (vi (e.text).size), .one (.v .nilIface)]) [[.me 39, .us 5 (strU (bodyT (b.take (i + 1))))]] := by
    intro i hlt
    have hob := body_lt h i
    obtain ⟨e, he⟩ : ∃ e, b[i]? = some e := ⟨_, List.getElem?_eq_getElem hlt⟩
    have hrow : (b.map Ent.enc)[i]? = some e.enc := by rw [List.getElem?_map, he]; rfl
    obtain ⟨p1, p2, p3, p4, p5⟩ := entOk_p (bat_get h he)
    have p0 := (keyOk_no32 p1).2
    have hT : bodyT (b.take i) ++ tb (e.key ++ ⟨#[32]⟩) ++ tb (bt (Lib.itoa e.seq) ++ ⟨#[32]⟩) ++ tb (bt (Lib.itoa e.kind) ++ ⟨#[32]⟩) ++ tb (bt (Lib.itoa e.n) ++ ⟨#[32]⟩) ++ tb (bt (Lib.itoa (e.text.size : Int)) ++ ⟨#[32]⟩) ++ tb e.text = bodyT (b.take (i + 1)) := by
      rw [body_step he]
      have e32 : (⟨#[32]⟩ : ByteArray) = bt [32] := rfl
      have ek : e.key = bt (tb e.key) := (bt_tb _).symm
      rw [e32, ek]
      simp only [bt_app, tb_bt]
      unfold entT
      simp
    rw [tb_len] at p0
    have z1 := itoaB (n := e.seq) (by omega) (by omega)
    have z2 := itoaB (n := e.kind) (by omega) (by omega)
    have z3 := itoaB (n := e.n) (by omega) (by omega)
    have z4 := itoaB (n := (e.text.size : Int)) (by omega) (by omega)
    have D1 := strconv_Itoa e.seq (by omega) (by omega)
    have D2 := strconv_Itoa e.kind (by omega) (by omega)
    have D3 := strconv_Itoa e.n (by omega) (by omega)
    have D4 := strconv_Itoa (e.text.size : Int) (by omega) (by omega)
    have t32 : ∀ x : ByteArray, (tb (x ++ ⟨#[32]⟩)).length = x.size + 1 := fun x => by rw [tb_len, ByteArray.size_append]; rfl
    have s32 : ∀ x : ByteArray, (x ++ ⟨#[32]⟩).size = x.size + 1 := fun x => by rw [ByteArray.size_append]; rfl
    have W5 := Builder_WriteString (bodyT (b.take i) ++ tb (e.key ++ ⟨#[32]⟩) ++ tb (bt (Lib.itoa e.seq) ++ ⟨#[32]⟩) ++ tb (bt (Lib.itoa e.kind) ++ ⟨#[32]⟩) ++ tb (bt (Lib.itoa e.n) ++ ⟨#[32]⟩) ++ tb (bt (Lib.itoa (e.text.size : Int)) ++ ⟨#[32]⟩)) e.text (by simp only [List.length_append, t32]; omega)
    rw [hT] at W5
    exact ⟨e, _, _, _, _, _, _, _, _, _, _, hrow, rfl, ⟨p0, z1, z2, z3, z4, p3⟩, D1, D2, D3, D4, Builder_WriteString _ _ (by simp only [s32]; omega), Builder_WriteString _ _ (by simp only [List.length_append, t32, s32]; omega), Builder_WriteString _ _ (by simp only [List.length_append, t32, s32]; omega), Builder_WriteString _ _ (by simp only [List.length_append, t32, s32]; omega), Builder_WriteString _ _ (by simp only [List.length_append, t32, s32]; omega), W5⟩
  have hlast : ∀ i : Nat, ¬ i < b.length → ∃ (l : Bs) (d : ByteArray), bodyT (b.take i) = l ∧ (l.length ≤ 1260 ∧ d.size ≤ 8 ∧ (bt l).size ≤ 1260) ∧ AFn Tryd.prog 15 [av (.int .i64 (l.length : Int))] [] (.one (vs d)) [] ∧ AFnK Tryd.prog 16 [.bx 0 0] [[.me 39, .us 5 (strU l)]] [0] (.one (vi l.length)) [[.me 39, .us 5 (strU l)]] ∧
      AFnK Tryd.prog 17 [.bx 0 0] [[.me 39, .us 5 (strU l)]] [0] (.one (vs (bt l))) [[.me 39, .sl (strU l)]] ∧ RV.one (vs (d ++ bt [32] ++ bt l ++ bt [10])) = RV.one (vs (bt (frameT b))) := by
    intro i hlt
    have hob := body_lt h i
    have hieq : b.take i = b := List.take_of_length_le (by omega)
    rw [hieq] at hob ⊢
    have z := itoaB (n := ((bodyT b).length : Int)) (by omega) (by omega)
    refine ⟨_, _, rfl, ⟨hob, z, by rw [bt_size]; exact hob⟩, strconv_Itoa _ (by omega) (by omega), Builder_Len _ (by omega), Builder_String _, ?_⟩
    have := frame_text h
    rw [bt_size] at this
    rw [this]
  refine AFn.introX (E := En 0 md0 (me := some 39)) (en_ok 0 md0 [] [] [] [] [] (some 39)) Tryd.func7 rfl rfl rfl fun _ _ => ?_
  refine ACall.mk _ _ hB ?_
  refine Split.mk fun t h1 => ?_
  cases t
  case false => cases h1
  let S : Nat → Bs → St := fun i l => ⟨none :: none :: none :: some (.bx 3 0) :: none :: none :: none :: none :: none :: none :: none :: some (.one (.c (.sl (b.map Ent.enc)))) :: some (av (.int .i64 (↑(b.map Ent.enc).length))) :: some (av (.int .i64 i)) :: List.replicate 37 none, absent :: absent :: absent :: ⟨0, 0, some [.me 39, .us 5 (strU l)]⟩ :: List.replicate 47 absent⟩
  refine ALoop.mk (fun m s => ∃ i : Nat, (i ≤ b.length ∧ m = b.length - i) ∧ s = S i (bodyT (b.take i)))
    ⟨_, _, Weak.nrm [false, false, false, true, false, false, false, false, false, false, false, true, true, true] [(3, 3)] rfl rfl rfl, 0, ⟨Nat.zero_le _, rfl⟩, rfl⟩ ?_
  rintro m s ⟨i, ⟨hi, rfl⟩, hst⟩
  by_cases hlt : i < b.length
  · refine Exists.elim (hround i hlt) fun e hx => ?_
    refine Exists.elim hx fun l0 hx => ?_
    refine Exists.elim hx fun l1 hx => ?_
    refine Exists.elim hx fun l2 hx => ?_
    refine Exists.elim hx fun l3 hx => ?_
    refine Exists.elim hx fun l4 hx => ?_
    refine Exists.elim hx fun l5 hx => ?_
    refine Exists.elim hx fun d1 hx => ?_
    refine Exists.elim hx fun d2 hx => ?_
    refine Exists.elim hx fun d3 hx => ?_
    refine Exists.elim hx fun d4 hx => ?_
    have hrow := hx.1
    have ho := hx.2.1
    have hz := hx.2.2.1
    have hD1 := hx.2.2.2.1
    have hD2 := hx.2.2.2.2.1
    have hD3 := hx.2.2.2.2.2.1
    have hD4 := hx.2.2.2.2.2.2.1
    have hW0 := hx.2.2.2.2.2.2.2.1
    have hW1 := hx.2.2.2.2.2.2.2.2.1
    have hW2 := hx.2.2.2.2.2.2.2.2.2.1
    have hW3 := hx.2.2.2.2.2.2.2.2.2.2.1
    have hW4 := hx.2.2.2.2.2.2.2.2.2.2.2.1
    have hW5 := hx.2.2.2.2.2.2.2.2.2.2.2.2
    clear hx
    rw [ho] at hst
    subst hst
    refine Split.mk fun t h1 => ?_
    cases t
    case false => (exfalso; rw [decide_eq_false_iff_not] at h1; omega)
    rw [decide_eq_true_iff] at h1
    refine Need.mk (by omega) ?_
    refine Row.mk _ hrow ?_
    refine Need.mk (strFits (by simp only [ByteArray.size_append, sz32, sz10]; omega)) ?_
    refine ACall.mk _ _ hW0 ?_
    let S2 : Nat → Bs → St := fun j l => ⟨none :: none :: none :: some (.bx 3 0) :: none :: some (.bx 5 0) :: none :: none :: none :: none :: none :: some (.one (.c (.sl (b.map Ent.enc)))) :: some (av (.int .i64 (↑(b.map Ent.enc).length))) :: some (av (.int .i64 i)) :: none :: none :: none :: none :: none :: none :: none :: none :: none :: none :: none :: none :: none :: none :: none :: none :: some (.one (.ref 30 0 (.cell 0))) :: some (av (.int .i64 4)) :: some (av (.int .i64 j)) :: List.replicate 18 none,
      absent :: absent :: absent :: ⟨0, 0, some [.me 39, .us 5 (strU l)]⟩ :: absent :: ⟨0, 0, some [vs e.key, vi e.seq, vi e.kind, vs e.text, vi e.n]⟩ :: absent :: absent :: absent :: absent :: absent :: absent :: absent :: absent :: absent :: absent :: absent :: absent :: absent :: absent :: absent :: absent :: absent :: absent :: absent :: absent :: absent :: absent :: absent :: absent :: ⟨0, 1, some [.us 3 [[vi e.seq], [vi e.kind], [vi e.n], [vi e.text.size]]]⟩ :: List.replicate 20 absent⟩
    refine ALoop.mk (fun m st => (m = 4 ∧ st = S2 0 l1) ∨ (m = 3 ∧ st = S2 1 l2) ∨ (m = 2 ∧ st = S2 2 l3) ∨ (m = 1 ∧ st = S2 3 l4) ∨ (m = 0 ∧ st = S2 4 l5))
      ⟨_, _, Weak.trans (Weak.nrm [false, false, false, true, false, true, false, false, false, false, false, true, true, true, false, false, false, false, false, false, false, false, false, false, false, false, false, false, false, false, true, true, true] [(3, 3), (5, 5), (30, 30)] rfl rfl rfl) Weak.one, .inl ⟨rfl, rfl⟩⟩ ?_
    rintro m st hcase
    clear hW0 hrow
    refine Or.elim hcase (fun hst => ?_) fun hcase => Or.elim hcase (fun hst => ?_) fun hcase => Or.elim hcase (fun hst => ?_) fun hcase => Or.elim hcase (fun hst => ?_) fun hst => ?_
    · have h5 := hst.2
      have h6 := hst.1
      clear hst hcase
      subst h6
      subst h5
      refine Split.mk fun t h1 => ?_
      cases t
      case false => cases h1
      refine Need.mk (by simp) ?_
      refine Row.mk _ rfl ?_
      refine ACall.mk _ _ hD1 ?_
      refine Need.mk (strFits (by simp only [ByteArray.size_append, sz32, sz10]; omega)) ?_
      refine ACall.mk _ _ hW1 ?_
      refine Num.mk _ (wrapS (by omega)) ?_
      exact ⟨_, _, by omega, Weak.nrm [false, false, false, true, false, true, false, false, false, false, false, true, true, true, false, false, false, false, false, false, false, false, false, false, false, false, false, false, false, false, true, true, true] [(3, 3), (5, 5), (30, 30)] rfl rfl rfl, .inr (.inl ⟨rfl, rfl⟩)⟩
    · have h5 := hst.2
      have h6 := hst.1
      clear hst hcase
      subst h6
      subst h5
      refine Split.mk fun t h1 => ?_
      cases t
      case false => cases h1
      refine Need.mk (by simp) ?_
      refine Row.mk _ rfl ?_
      refine ACall.mk _ _ hD2 ?_
      refine Need.mk (strFits (by simp only [ByteArray.size_append, sz32, sz10]; omega)) ?_
      refine ACall.mk _ _ hW2 ?_
      refine Num.mk _ (wrapS (by omega)) ?_
      exact ⟨_, _, by omega, Weak.nrm [false, false, false, true, false, true, false, false, false, false, false, true, true, true, false, false, false, false, false, false, false, false, false, false, false, false, false, false, false, false, true, true, true] [(3, 3), (5, 5), (30, 30)] rfl rfl rfl, .inr (.inr (.inl ⟨rfl, rfl⟩))⟩
    · have h5 := hst.2
      have h6 := hst.1
      clear hst hcase
      subst h6
      subst h5
      refine Split.mk fun t h1 => ?_
      cases t
      case false => cases h1
      refine Need.mk (by simp) ?_
      refine Row.mk _ rfl ?_
      refine ACall.mk _ _ hD3 ?_
      refine Need.mk (strFits (by simp only [ByteArray.size_append, sz32, sz10]; omega)) ?_
      refine ACall.mk _ _ hW3 ?_
      refine Num.mk _ (wrapS (by omega)) ?_
      exact ⟨_, _, by omega, Weak.nrm [false, false, false, true, false, true, false, false, false, false, false, true, true, true, false, false, false, false, false, false, false, false, false, false, false, false, false, false, false, false, true, true, true] [(3, 3), (5, 5), (30, 30)] rfl rfl rfl, .inr (.inr (.inr (.inl ⟨rfl, rfl⟩)))⟩
    · have h5 := hst.2
      have h6 := hst.1
      clear hst hcase
      subst h6
      subst h5
      refine Split.mk fun t h1 => ?_
      cases t
      case false => cases h1
      refine Need.mk (by simp) ?_
      refine Row.mk _ rfl ?_
      refine ACall.mk _ _ hD4 ?_
      refine Need.mk (strFits (by simp only [ByteArray.size_append, sz32, sz10]; omega)) ?_
      refine ACall.mk _ _ hW4 ?_
      refine Num.mk _ (wrapS (by omega)) ?_
      exact ⟨_, _, by omega, Weak.nrm [false, false, false, true, false, true, false, false, false, false, false, true, true, true, false, false, false, false, false, false, false, false, false, false, false, false, false, false, false, false, true, true, true] [(3, 3), (5, 5), (30, 30)] rfl rfl rfl, .inr (.inr (.inr (.inr ⟨rfl, rfl⟩)))⟩
    · have h5 := hst.2
      have h6 := hst.1
      clear hst hcase
      subst h6
      subst h5
      refine Split.mk fun t h1 => ?_
      cases t
      case true => cases h1
      refine ACall.mk _ _ hW5 ?_
      refine Num.mk _ (wrapS (by omega)) ?_
      exact ⟨_, _, by omega, Weak.nrm [false, false, false, true, false, false, false, false, false, false, false, true, true, true] [(3, 3)] rfl rfl rfl, i + 1, ⟨by omega, rfl⟩, rfl⟩
  · refine Exists.elim (hlast i hlt) fun l hx => ?_
    refine Exists.elim hx fun d hx => ?_
    have ho := hx.1
    have hz := hx.2.1
    have hD := hx.2.2.1
    have hN := hx.2.2.2.1
    have hS := hx.2.2.2.2.1
    have hres := hx.2.2.2.2.2
    clear hx
    rw [ho] at hst
    subst hst
    refine Split.mk fun t h1 => ?_
    cases t
    case true => (exfalso; rw [decide_eq_true_iff] at h1; omega)
    rw [decide_eq_false_iff_not] at h1
    refine ACall.mk _ _ hN ?_
    refine ACall.mk _ _ hD ?_
    refine Need.mk (strFits (by simp only [ByteArray.size_append, sz32, sz10]; omega)) ?_
    refine ACall.mk _ _ hS ?_
    refine Need.mk (strFits (by simp only [ByteArray.size_append, sz32, sz10]; omega)) ?_
    refine Need.mk (strFits (by simp only [ByteArray.size_append, sz32, sz10]; omega)) ?_
    exact Need.mk ⟨[], _, .same, hres, rfl⟩ trivial
theorem impl_FrameText (b : List Ent) (hb : OkE b) (hl : b.length ≤ 1048576) : AFn Tryd.prog 7 [.one (.c (.sl (b.map Ent.enc)))] [] (.one (vs (bt (frameT b)))) [] := by
  cases h : batOk b with
  | true => exact impl_FrameText1 b hb hl h
  | false => exact impl_FrameText0 b hb hl h
theorem laws_szEntry (e : Ent) (left : Nat) (he : e.Ok) (hl : left ≤ 1048576) : AFn Tryd.prog 9 [.agg (e.enc.map .c), av (.int .i64 left)] [] (.one (vi (cut e.size left))) [] := by
  refine AFn.introX (E := En 0 md0) (en_ok 0 md0) Tryd.func9 rfl rfl rfl fun _ _ => ?_
  obtain ⟨h1, h2⟩ := he
  have he : e.size = e.key.size + e.text.size := rfl
  unfold maxLen at h1 h2
  have fin : ∀ {z : Int}, z = cut e.size left → RV.one (vi z) = RV.one (vi (cut e.size left)) := fun h => by rw [h]
  refine Num.mk ((left : Int) - e.key.size) (by rw [IntKind.wrap_i64]; omega) ?_
  refine Split.mk fun t ht => ?_
  cases t
  · have h3 : e.key.size ≤ left := by simp at ht; omega
    refine Num.mk ((left : Int) - e.key.size - e.text.size) (by rw [IntKind.wrap_i64]; omega) ?_
    refine Split.mk fun t ht => ?_
    cases t
    · have h4 : e.size ≤ left := by simp at ht; omega
      exact Need.mk ⟨[], _, .same, fin (by rw [cut_pos h4]; omega), rfl⟩ trivial
    · have h4 : ¬ e.size ≤ left := by simp at ht; omega
      exact Need.mk ⟨[], _, .same, fin (by rw [cut_neg h4]), rfl⟩ trivial
  · have h4 : ¬ e.size ≤ left := by simp at ht; omega
    exact Need.mk ⟨[], _, .same, fin (by rw [cut_neg h4]), rfl⟩ trivial
theorem laws_szEntryS (xs : List Ent) (left : Nat) (he : OkE xs) (hl : left ≤ 1048576) : AFn Tryd.prog 4 [sl (xs.map Ent.enc), av (.int .i64 left)] [] (.one (vi (cut (sizeE xs) left))) [] := by
  refine AFn.introX (E := En 0 md0) (en_ok 0 md0) Tryd.func4 rfl rfl rfl fun hs _ => ?_
  have hn : (xs.map Ent.enc).length = xs.length := List.length_map ..
  have hx := Small.len (hs _ (List.mem_cons_self ..))
  rw [hn] at hx
  have hz : sizeE xs = xs.length + (xs.map Ent.size).sum := rfl
  have fin : ∀ {z : Int}, z = cut (sizeE xs) left → RV.one (vi z) = RV.one (vi (cut (sizeE xs) left)) := fun h => by rw [h]
  refine Num.mk ((left : Int) - xs.length) (by rw [hn, IntKind.wrap_i64]; omega) ?_
  refine Split.mk fun t ht => ?_
  cases t
  · have h3 : xs.length ≤ left := by simp at ht; omega
    refine ALoop.mk (fun m s => ∃ (i r : Nat), i ≤ xs.length ∧ m = xs.length - i ∧ xs.length + ((xs.take i).map Ent.size).sum + r = left ∧
        s = ⟨some (sl (xs.map Ent.enc)) :: some (av (.int .i64 r)) :: none :: none :: none :: some (av (.int .i64 i)) :: List.replicate 21 none, List.replicate 27 absent⟩)
      ⟨xs.length, _, Weak.nrm [true, true, false, false, false, true] [] rfl rfl rfl, 0, left - xs.length, Nat.zero_le _, rfl, by simp; omega, ?_⟩ ?_
    · rw [show ((left - xs.length : Nat) : Int) = (left : Int) - xs.length by omega]; rfl
    rintro m s ⟨i, r, hi, rfl, hr, rfl⟩
    refine Split.mk fun t ht => ?_
    rw [hn] at ht
    cases t
    · have hin : i = xs.length := by simp at ht; omega
      subst hin
      rw [List.take_length] at hr
      exact Need.mk ⟨[], _, .same, fin (by rw [cut_pos (by omega)]; omega), rfl⟩ trivial
    · have hia : i < xs.length := by simpa using ht
      have hsum := sum_take Ent.size xs hia
      have hle := sum_take_le Ent.size xs (i + 1)
      refine Need.mk (by omega) ?_
      refine Row.mk _ (map_get _ xs i hia) ?_
      refine ACall.mk _ _ (laws_szEntry xs[i] r (he _ (List.getElem_mem _)) (by omega)) ?_
      refine Split.mk fun t ht => ?_
      rw [cut_lt] at ht
      cases t
      · have h4 : xs[i].size ≤ r := by simpa using ht
        refine Num.mk _ (wrapS (by omega)) ?_
        refine ⟨xs.length - (i + 1), _, by omega, Weak.nrm [true, true, false, false, false, true] [] rfl rfl rfl, i + 1, r - xs[i].size, by omega, rfl, by omega, ?_⟩
        rw [← cut_pos h4]; rfl
      · have h4 : ¬ xs[i].size ≤ r := by simpa using ht
        exact Need.mk ⟨[], _, .same, fin (by rw [cut_neg (by omega)]), rfl⟩ trivial
  · have h4 : ¬ sizeE xs ≤ left := by simp at ht; omega
    exact Need.mk ⟨[], _, .same, fin (by rw [cut_neg h4]), rfl⟩ trivial
theorem laws_toEntry (e : Ent) : AFn Tryd.prog 12 [.agg (e.enc.map .c)] [] (.agg e.enc) [] := by
  refine AFn.introX (E := En 0 md0) (en_ok 0 md0) Tryd.func12 rfl rfl rfl fun _ _ => ?_
  exact Need.mk ⟨[], _, .same, rfl, rfl⟩ trivial
theorem laws_toEntryS (xs : List Ent) (hx : xs.length ≤ 1048576) : AFn Tryd.prog 6 [sl (xs.map Ent.enc)] [] (.one (.us 33 (xs.map Ent.enc))) [] := by
  refine AFn.introX (E := En 0 md0) (en_ok 0 md0) Tryd.func6 rfl rfl rfl fun _ _ => ?_
  have hn : (xs.map Ent.enc).length = xs.length := List.length_map ..
  refine Need.mk ⟨by omega, by omega, by simp only [hn]; omega, by omega⟩ ?_
  let S : List (List C) → Nat → St := fun rows i => ⟨some (sl (xs.map Ent.enc)) :: none :: none :: some (.one (.ref 3 0 (.cell 0))) :: some (av (.int .i64 i)) :: List.replicate 18 none, absent :: absent :: absent :: ⟨0, 1, some [.us 33 rows]⟩ :: List.replicate 19 absent⟩
  refine ALoop.mk (fun m s => ∃ i : Nat, i ≤ xs.length ∧ m = xs.length - i ∧ s = S ((xs.take i ++ List.replicate (xs.length - i) ent0).map Ent.enc) i)
    ⟨xs.length, _, Weak.nrm [true, false, false, true, true] [(7, 3)] rfl rfl rfl, 0, Nat.zero_le _, rfl, ?_⟩ ?_
  · refine Eq.trans (b := S (List.replicate (xs.map Ent.enc).length (Ent.enc ent0)) 0) rfl ?_
    rw [hn, List.take_zero, List.nil_append, List.map_replicate, Nat.sub_zero]
  rintro m s ⟨i, hi, rfl, rfl⟩
  refine Split.mk fun t ht => ?_
  rw [hn] at ht
  cases t
  · have hin : i = xs.length := by simp at ht; omega
    subst hin
    refine Need.mk ⟨[], _, .same, ?_, rfl⟩ trivial
    rw [List.take_length, Nat.sub_self, List.replicate_zero, List.append_nil]; rfl
  · have hia : i < xs.length := by simpa using ht
    refine Need.mk (by omega) ?_
    refine Row.mk _ (map_get _ xs i hia) ?_
    refine ACall.mk _ _ (laws_toEntry xs[i]) ?_
    refine Need.mk ⟨by omega, by rw [List.length_map, to_len _ _ hi]; omega⟩ ?_
    refine Row.mk _ (to_get _ xs ent0 hia) ?_
    refine Num.mk _ (wrapS (by omega)) ?_
    refine ⟨xs.length - (i + 1), _, by omega, Weak.nrm [true, false, false, true, true] [(3, 3)] rfl rfl rfl, i + 1, by omega, rfl, ?_⟩
    refine Eq.trans (b := S (((xs.take i ++ List.replicate (xs.length - i) ent0).map Ent.enc).set i (Ent.enc xs[i])) (i + 1)) rfl ?_
    rw [← List.map_set, to_step xs ent0 hia]
theorem laws_eqEntry (a b : Ent) : AFn Tryd.prog 18 [.agg (a.enc.map .c), .agg (b.enc.map .c)] [] (rb (decide (a = b))) [] := by
  refine AFn.introX (E := En 0 md0) (en_ok 0 md0) Tryd.func18 rfl rfl rfl fun _ _ => ?_
  have fin : ∀ {c : Bool}, c = decide (a = b) → rb c = rb (decide (a = b)) := fun h => by rw [h]
  refine Split.mk fun t ht => ?_
  rw [bytes_beq] at ht
  cases t
  · refine Split.mk fun t ht1 => ?_
    cases t
    · refine Split.mk fun t ht2 => ?_
      cases t
      · refine Split.mk fun t ht3 => ?_
        rw [bytes_beq] at ht3
        cases t
        · refine Split.mk fun t ht4 => ?_
          cases t
          · exact Need.mk ⟨[], _, .same, fin (by cases a; cases b; simp_all), rfl⟩ trivial
          · exact Need.mk ⟨[], _, .same, fin (by cases a; cases b; simp_all), rfl⟩ trivial
        · exact Need.mk ⟨[], _, .same, fin (by cases a; cases b; simp_all), rfl⟩ trivial
      · exact Need.mk ⟨[], _, .same, fin (by cases a; cases b; simp_all), rfl⟩ trivial
    · exact Need.mk ⟨[], _, .same, fin (by cases a; cases b; simp_all), rfl⟩ trivial
  · exact Need.mk ⟨[], _, .same, fin (by cases a; cases b; simp_all), rfl⟩ trivial
theorem laws_eqEntryS (a b : List Ent) : AFn Tryd.prog 8 [sl (a.map Ent.enc), sl (b.map Ent.enc)] [] (rb (decide (a = b))) [] := by
  refine AFn.introX (E := En 0 md0) (en_ok 0 md0) Tryd.func8 rfl rfl rfl fun hs _ => ?_
  have ha := Small.len (hs _ (List.mem_cons_self ..))
  rw [List.length_map] at ha
  have fin : ∀ {c : Bool}, c = decide (a = b) → rb c = rb (decide (a = b)) := fun h => by rw [h]
  refine Split.mk fun t ht => ?_
  cases t
  · have hl : a.length = b.length := Int.ofNat_inj.1 (by simpa using ht)
    refine ALoop.mk (fun n s => ∃ i : Nat, i ≤ a.length ∧ n = a.length - i ∧ a.take i = b.take i ∧
      s = ⟨some (sl (a.map Ent.enc)) :: some (sl (b.map Ent.enc)) :: none :: none :: some (av (.bool false)) :: some (av (.int .i64 i)) :: List.replicate 21 none, List.replicate 27 absent⟩)
      ⟨a.length, _, Weak.nrm [true, true, false, false, true, true] [] rfl rfl rfl, 0, Nat.zero_le _, rfl, rfl, rfl⟩ ?_
    rintro n s ⟨i, hi, rfl, hp, rfl⟩
    refine Split.mk fun t ht => ?_
    cases t
    · have hia : i = a.length := by simp at ht; omega
      refine Need.mk ⟨[], _, .same, fin ?_, rfl⟩ trivial
      subst hia
      rw [List.take_length, hl, List.take_length] at hp
      simp [hp]
    · have hia : i < a.length := by simpa using ht
      refine Need.mk (by omega) ?_
      refine Row.mk _ (map_get _ a i hia) ?_
      refine Need.mk (by omega) ?_
      refine Row.mk _ (map_get _ b i (by omega)) ?_
      refine ACall.mk _ _ (laws_eqEntry a[i] (b[i]'(by omega))) ?_
      refine Split.mk fun t ht2 => ?_
      cases t
      · refine Need.mk rfl ?_
        refine Need.mk ⟨[], _, .same, fin ?_, rfl⟩ trivial
        have : a[i] ≠ b[i]'(by omega) := by simpa using ht2
        refine (decide_eq_false fun e => this ?_).symm
        subst e; rfl
      · refine Need.mk rfl ?_
        refine Num.mk _ (wrapS (by omega)) ?_
        refine ⟨a.length - (i + 1), _, by omega, Weak.nrm [true, true, false, false, true, true] [] rfl rfl rfl, i + 1, by omega, rfl, ?_, rfl⟩
        have : a[i] = b[i]'(by omega) := by simpa using ht2
        rw [List.take_succ_eq_append_getElem hia, List.take_succ_eq_append_getElem (by omega), hp, this]
  · refine Need.mk ⟨[], _, .same, fin ?_, rfl⟩ trivial
    have : a.length ≠ b.length := by
      intro e; simp [e] at ht
    exact (decide_eq_false fun e => this (by rw [e])).symm
theorem laws_FnExactFrameText (b : List Ent) (hb : OkE b) : AFn Tryd.prog 3 [.one (.c (.sl (b.map Ent.enc)))] [] (rb true) [] := by
  by_cases h1 : sizeE b ≤ 1048576
  · have hl : b.length ≤ 1048576 := by unfold sizeE at h1; omega
    have hZ := laws_szEntryS b 1048576 hb (Nat.le_refl _)
    rw [cut_pos h1] at hZ
    have hS := spec_FrameText b hb hl
    have hI := impl_FrameText b hb hl
    have hT := laws_toEntryS b hl
    have hQ := laws_eqEntryS b b
    rw [decide_eq_true rfl] at hQ
    generalize bt (frameT b) = F at hS hI
    refine AFn.introX (E := En 0 md0) (en_ok 0 md0) Tryd.func3 rfl rfl rfl fun _ _ => ?_
    refine ACall.mk _ _ hZ ?_
    refine Split.mk fun t h1 => ?_
    cases t
    case true => cases h1
    refine ACall.mk _ _ hT ?_
    refine Fz.mk _ (frzE _) ?_
    refine ACall.mk _ _ hS ?_
    refine Need.mk (⟨ClL.mem (.v .nil), no_objs⟩) ?_
    refine ACall.mk _ _ hT ?_
    refine Fz.mk _ (frzE _) ?_
    refine ACall.mk _ _ hI ?_
    refine Need.mk (⟨ClL.mem (.v .nil), no_objs⟩) ?_
    refine Split.mk fun t h2 => ?_
    cases t
    case true => (exfalso; rw [Bool.not_eq_true', bytes_beq, decide_eq_false_iff_not] at h2; contradiction)
    rw [Bool.not_eq_false', bytes_beq, decide_eq_true_iff] at h2
    refine ACall.mk _ _ hT ?_
    refine Fz.mk _ (frzE _) ?_
    refine Fz.mk _ (frzE _) ?_
    refine ACall.mk _ _ hQ ?_
    refine Need.mk (⟨ClL.mem (.v .nil), no_objs⟩) ?_
    refine Split.mk fun t h3 => ?_
    cases t
    case false => cases h3
    exact Need.mk ⟨[], _, .same, rfl, rfl⟩ trivial
  · have hZ := laws_szEntryS b 1048576 hb (Nat.le_refl _)
    rw [cut_neg h1] at hZ
    refine AFn.introX (E := En 0 md0) (en_ok 0 md0) Tryd.func3 rfl rfl rfl fun _ _ => ?_
    refine ACall.mk _ _ hZ ?_
    refine Split.mk fun t h1 => ?_
    cases t
    case false => cases h1
    exact Need.mk ⟨[], _, .same, rfl, rfl⟩ trivial
theorem laws_FnExactFrameText_any (c0 : C) (h0 : Sh (.slice tyEnt) c0) : AFn Tryd.prog 3 [.one (.c c0)] [] (rb true) [] := by
  obtain ⟨xs, rfl, hx⟩ := dec_ents h0
  exact laws_FnExactFrameText xs fun e he => (hx e he).1
end Go.Proofs.YtfaofmjikhcihaaDoor
