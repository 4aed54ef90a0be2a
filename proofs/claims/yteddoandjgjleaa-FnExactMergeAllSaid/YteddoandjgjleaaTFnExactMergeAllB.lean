/-
  Contracts of functions, part 2.
-/
import Derived.Test.YteddoandjgjleaaTFnExactMergeAll
namespace Go.Proofs.Yteddoandjgjleaa
open Go Go.Proofs Ev
set_option maxRecDepth 100000
set_option maxHeartbeats 1000000
theorem spec_l3Sum (n : Int) : AFn Try.prog 141 [av (.int .i64 n)] [] (rb (sumOk n)) [] := by
  refine AFn.introX (E := En 0 md0) (en_ok 0 md0) Try.func141 rfl rfl rfl fun _ _ => ?_
  have fin : ∀ {c : Bool}, c = sumOk n → rb c = rb (sumOk n) := fun h => by rw [h]
  refine Split.mk fun t h1 => ?_
  cases t
  · exact Need.mk ⟨[], _, .same, fin (by simp at h1; simp [sumOk]; omega), rfl⟩ trivial
  · refine Split.mk fun t h2 => ?_
    cases t
    · exact Need.mk ⟨[], _, .same, fin (by simp at h1 h2; simp [sumOk]; omega), rfl⟩ trivial
    · exact Need.mk ⟨[], _, .same, fin (by simp at h1 h2; simp [sumOk]; omega), rfl⟩ trivial
theorem impl_EntryOk (e : Ent) (he : e.Ok) : AFn Try.prog 132 [.agg (e.enc.map .c)] [] (rb (entOk e)) [] := by
  refine AFn.introX (E := En 0 md0) (en_ok 0 md0) Try.func132 rfl rfl rfl fun _ _ => ?_
  have fin : ∀ {c : Bool}, c = entOk e → rb c = rb (entOk e) := fun h => by rw [h]
  refine ACall.mk _ _ (impl_KeyOk e.key he.1) ?_
  refine Split.mk fun t h_k => ?_
  cases t
  · have f_k : keyOk e.key = false := by exact h_k
    exact Need.mk ⟨[], _, .same, fin (by simp [entOk, f_k]), rfl⟩ trivial
  · refine Split.mk fun t h_s1 => ?_
    cases t
    · refine Split.mk fun t h_s2 => ?_
      cases t
      · refine Split.mk fun t h_tx => ?_
        cases t
        · refine Split.mk fun t h_n1 => ?_
          cases t
          · refine Split.mk fun t h_n2 => ?_
            cases t
            · refine Split.mk fun t h_c1 => ?_
              cases t
              · refine Split.mk fun t h_c2 => ?_
                cases t
                · refine Split.mk fun t h_c3 => ?_
                  cases t
                  · have f_k : keyOk e.key = true := by exact h_k
                    have f_s1 : decide (1 ≤ e.seq) = true := by simp at h_s1; simp; omega
                    have f_s2 : decide (e.seq ≤ 100000) = true := by simp at h_s2; simp; omega
                    have f_tx : decide (e.text.size ≤ 60) = true := by simp at h_tx; simp; omega
                    have f_c1 : decide (e.kind = 1) = false := by simp at h_c1; simp; omega
                    have f_c2 : decide (e.kind = 2) = false := by simp at h_c2; simp; omega
                    have f_c3 : decide (e.kind = 3) = false := by simp at h_c3; simp; omega
                    have f_su : sumOk e.n = true := by simp at h_n1 h_n2; simp [sumOk]; omega
                    exact Need.mk ⟨[], _, .same, fin (by simp [entOk, f_k, f_s1, f_s2, f_tx, f_c1, f_c2, f_c3, f_su]), rfl⟩ trivial
                  · refine Split.mk fun t h_t => ?_
                    rw [bytes_beq] at h_t
                    cases t
                    · have f_k : keyOk e.key = true := by exact h_k
                      have f_s1 : decide (1 ≤ e.seq) = true := by simp at h_s1; simp; omega
                      have f_s2 : decide (e.seq ≤ 100000) = true := by simp at h_s2; simp; omega
                      have f_tx : decide (e.text.size ≤ 60) = true := by simp at h_tx; simp; omega
                      have f_c1 : decide (e.kind = 1) = false := by simp at h_c1; simp; omega
                      have f_c2 : decide (e.kind = 2) = false := by simp at h_c2; simp; omega
                      have f_c3 : decide (e.kind = 3) = true := by simp at h_c3; simp; omega
                      have f_t : decide (e.text = ⟨#[]⟩) = false := by exact h_t
                      have f_su : sumOk e.n = true := by simp at h_n1 h_n2; simp [sumOk]; omega
                      exact Need.mk ⟨[], _, .same, fin (by simp [entOk, f_k, f_s1, f_s2, f_tx, f_c1, f_c2, f_c3, f_t, f_su]), rfl⟩ trivial
                    · have f_k : keyOk e.key = true := by exact h_k
                      have f_s1 : decide (1 ≤ e.seq) = true := by simp at h_s1; simp; omega
                      have f_s2 : decide (e.seq ≤ 100000) = true := by simp at h_s2; simp; omega
                      have f_tx : decide (e.text.size ≤ 60) = true := by simp at h_tx; simp; omega
                      have f_c1 : decide (e.kind = 1) = false := by simp at h_c1; simp; omega
                      have f_c2 : decide (e.kind = 2) = false := by simp at h_c2; simp; omega
                      have f_c3 : decide (e.kind = 3) = true := by simp at h_c3; simp; omega
                      have f_t : decide (e.text = ⟨#[]⟩) = true := by exact h_t
                      have f_su : sumOk e.n = true := by simp at h_n1 h_n2; simp [sumOk]; omega
                      exact Need.mk ⟨[], _, .same, fin (by simp [entOk, f_k, f_s1, f_s2, f_tx, f_c1, f_c2, f_c3, f_t, f_su]), rfl⟩ trivial
                · refine Split.mk fun t h_t => ?_
                  rw [bytes_beq] at h_t
                  cases t
                  · have f_k : keyOk e.key = true := by exact h_k
                    have f_s1 : decide (1 ≤ e.seq) = true := by simp at h_s1; simp; omega
                    have f_s2 : decide (e.seq ≤ 100000) = true := by simp at h_s2; simp; omega
                    have f_tx : decide (e.text.size ≤ 60) = true := by simp at h_tx; simp; omega
                    have f_c1 : decide (e.kind = 1) = false := by simp at h_c1; simp; omega
                    have f_c2 : decide (e.kind = 2) = true := by simp at h_c2; simp; omega
                    have f_t : decide (e.text = ⟨#[]⟩) = false := by exact h_t
                    have f_su : sumOk e.n = true := by simp at h_n1 h_n2; simp [sumOk]; omega
                    exact Need.mk ⟨[], _, .same, fin (by simp [entOk, f_k, f_s1, f_s2, f_tx, f_c1, f_c2, f_t, f_su]), rfl⟩ trivial
                  · refine Split.mk fun t h_z => ?_
                    cases t
                    · have f_k : keyOk e.key = true := by exact h_k
                      have f_s1 : decide (1 ≤ e.seq) = true := by simp at h_s1; simp; omega
                      have f_s2 : decide (e.seq ≤ 100000) = true := by simp at h_s2; simp; omega
                      have f_tx : decide (e.text.size ≤ 60) = true := by simp at h_tx; simp; omega
                      have f_c1 : decide (e.kind = 1) = false := by simp at h_c1; simp; omega
                      have f_c2 : decide (e.kind = 2) = true := by simp at h_c2; simp; omega
                      have f_t : decide (e.text = ⟨#[]⟩) = true := by exact h_t
                      have f_z : decide (e.n = 0) = false := by simp at h_z; simp; omega
                      have f_c3 : decide (e.kind = 3) = false := by simp at h_c2; simp; omega
                      have f_su : sumOk e.n = true := by simp at h_n1 h_n2; simp [sumOk]; omega
                      exact Need.mk ⟨[], _, .same, fin (by simp [entOk, f_k, f_s1, f_s2, f_tx, f_c1, f_c2, f_t, f_z, f_c3, f_su]), rfl⟩ trivial
                    · have f_k : keyOk e.key = true := by exact h_k
                      have f_s1 : decide (1 ≤ e.seq) = true := by simp at h_s1; simp; omega
                      have f_s2 : decide (e.seq ≤ 100000) = true := by simp at h_s2; simp; omega
                      have f_tx : decide (e.text.size ≤ 60) = true := by simp at h_tx; simp; omega
                      have f_c1 : decide (e.kind = 1) = false := by simp at h_c1; simp; omega
                      have f_c2 : decide (e.kind = 2) = true := by simp at h_c2; simp; omega
                      have f_t : decide (e.text = ⟨#[]⟩) = true := by exact h_t
                      have f_z : decide (e.n = 0) = true := by simp at h_z; simp; omega
                      have f_su : sumOk e.n = true := by simp at h_n1 h_n2; simp [sumOk]; omega
                      exact Need.mk ⟨[], _, .same, fin (by simp [entOk, f_k, f_s1, f_s2, f_tx, f_c1, f_c2, f_t, f_z, f_su]), rfl⟩ trivial
              · have f_k : keyOk e.key = true := by exact h_k
                have f_s1 : decide (1 ≤ e.seq) = true := by simp at h_s1; simp; omega
                have f_s2 : decide (e.seq ≤ 100000) = true := by simp at h_s2; simp; omega
                have f_tx : decide (e.text.size ≤ 60) = true := by simp at h_tx; simp; omega
                have f_c1 : decide (e.kind = 1) = true := by simp at h_c1; simp; omega
                have f_su : sumOk e.n = true := by simp at h_n1 h_n2; simp [sumOk]; omega
                exact Need.mk ⟨[], _, .same, fin (by simp [entOk, f_k, f_s1, f_s2, f_tx, f_c1, f_su]), rfl⟩ trivial
            · have f_k : keyOk e.key = true := by exact h_k
              have f_s1 : decide (1 ≤ e.seq) = true := by simp at h_s1; simp; omega
              have f_s2 : decide (e.seq ≤ 100000) = true := by simp at h_s2; simp; omega
              have f_tx : decide (e.text.size ≤ 60) = true := by simp at h_tx; simp; omega
              have f_su : sumOk e.n = false := by simp at h_n1 h_n2; simp [sumOk]; omega
              exact Need.mk ⟨[], _, .same, fin (by simp [entOk, f_k, f_s1, f_s2, f_tx, f_su]), rfl⟩ trivial
          · have f_k : keyOk e.key = true := by exact h_k
            have f_s1 : decide (1 ≤ e.seq) = true := by simp at h_s1; simp; omega
            have f_s2 : decide (e.seq ≤ 100000) = true := by simp at h_s2; simp; omega
            have f_tx : decide (e.text.size ≤ 60) = true := by simp at h_tx; simp; omega
            have f_su : sumOk e.n = false := by simp at h_n1; simp [sumOk]; omega
            exact Need.mk ⟨[], _, .same, fin (by simp [entOk, f_k, f_s1, f_s2, f_tx, f_su]), rfl⟩ trivial
        · have f_k : keyOk e.key = true := by exact h_k
          have f_s1 : decide (1 ≤ e.seq) = true := by simp at h_s1; simp; omega
          have f_s2 : decide (e.seq ≤ 100000) = true := by simp at h_s2; simp; omega
          have f_tx : decide (e.text.size ≤ 60) = false := by simp at h_tx; simp; omega
          exact Need.mk ⟨[], _, .same, fin (by simp [entOk, f_k, f_s1, f_s2, f_tx]), rfl⟩ trivial
      · have f_k : keyOk e.key = true := by exact h_k
        have f_s1 : decide (1 ≤ e.seq) = true := by simp at h_s1; simp; omega
        have f_s2 : decide (e.seq ≤ 100000) = false := by simp at h_s2; simp; omega
        exact Need.mk ⟨[], _, .same, fin (by simp [entOk, f_k, f_s1, f_s2]), rfl⟩ trivial
    · have f_k : keyOk e.key = true := by exact h_k
      have f_s1 : decide (1 ≤ e.seq) = false := by simp at h_s1; simp; omega
      exact Need.mk ⟨[], _, .same, fin (by simp [entOk, f_k, f_s1]), rfl⟩ trivial
theorem spec_EntryOk (e : Ent) (he : e.Ok) : AFn Try.prog 131 [.agg (e.enc.map .c)] [] (rb (entOk e)) [] := by
  refine AFn.introX (E := En 0 md0) (en_ok 0 md0) Try.func131 rfl rfl rfl fun _ _ => ?_
  have fin : ∀ {c : Bool}, c = entOk e → rb c = rb (entOk e) := fun h => by rw [h]
  refine ACall.mk _ _ (spec_KeyOk e.key he.1) ?_
  refine Split.mk fun t h_k => ?_
  cases t
  · have f_k : keyOk e.key = false := by exact h_k
    exact Need.mk ⟨[], _, .same, fin (by simp [entOk, f_k]), rfl⟩ trivial
  · refine Split.mk fun t h_s1 => ?_
    cases t
    · refine Split.mk fun t h_s2 => ?_
      cases t
      · refine ACall.mk _ _ (spec_l3Sum e.n) ?_
        refine Split.mk fun t h_su => ?_
        cases t
        · have f_k : keyOk e.key = true := by exact h_k
          have f_s1 : decide (1 ≤ e.seq) = true := by simp at h_s1; simp; omega
          have f_s2 : decide (e.seq ≤ 100000) = true := by simp at h_s2; simp; omega
          have f_su : sumOk e.n = false := by exact h_su
          exact Need.mk ⟨[], _, .same, fin (by simp [entOk, f_k, f_s1, f_s2, f_su]), rfl⟩ trivial
        · refine Split.mk fun t h_tx => ?_
          cases t
          · refine Split.mk fun t h_c1 => ?_
            cases t
            · refine Split.mk fun t h_c2 => ?_
              cases t
              · refine Split.mk fun t h_c3 => ?_
                cases t
                · have f_k : keyOk e.key = true := by exact h_k
                  have f_s1 : decide (1 ≤ e.seq) = true := by simp at h_s1; simp; omega
                  have f_s2 : decide (e.seq ≤ 100000) = true := by simp at h_s2; simp; omega
                  have f_su : sumOk e.n = true := by exact h_su
                  have f_tx : decide (e.text.size ≤ 60) = true := by simp at h_tx; simp; omega
                  have f_c1 : decide (e.kind = 1) = false := by simp at h_c1; simp; omega
                  have f_c2 : decide (e.kind = 2) = false := by simp at h_c2; simp; omega
                  have f_c3 : decide (e.kind = 3) = false := by simp at h_c3; simp; omega
                  exact Need.mk ⟨[], _, .same, fin (by simp [entOk, f_k, f_s1, f_s2, f_su, f_tx, f_c1, f_c2, f_c3]), rfl⟩ trivial
                · refine Split.mk fun t h_t => ?_
                  rw [bytes_beq] at h_t
                  cases t
                  · have f_k : keyOk e.key = true := by exact h_k
                    have f_s1 : decide (1 ≤ e.seq) = true := by simp at h_s1; simp; omega
                    have f_s2 : decide (e.seq ≤ 100000) = true := by simp at h_s2; simp; omega
                    have f_su : sumOk e.n = true := by exact h_su
                    have f_tx : decide (e.text.size ≤ 60) = true := by simp at h_tx; simp; omega
                    have f_c1 : decide (e.kind = 1) = false := by simp at h_c1; simp; omega
                    have f_c2 : decide (e.kind = 2) = false := by simp at h_c2; simp; omega
                    have f_c3 : decide (e.kind = 3) = true := by simp at h_c3; simp; omega
                    have f_t : decide (e.text = ⟨#[]⟩) = false := by exact h_t
                    exact Need.mk ⟨[], _, .same, fin (by simp [entOk, f_k, f_s1, f_s2, f_su, f_tx, f_c1, f_c2, f_c3, f_t]), rfl⟩ trivial
                  · have f_k : keyOk e.key = true := by exact h_k
                    have f_s1 : decide (1 ≤ e.seq) = true := by simp at h_s1; simp; omega
                    have f_s2 : decide (e.seq ≤ 100000) = true := by simp at h_s2; simp; omega
                    have f_su : sumOk e.n = true := by exact h_su
                    have f_tx : decide (e.text.size ≤ 60) = true := by simp at h_tx; simp; omega
                    have f_c1 : decide (e.kind = 1) = false := by simp at h_c1; simp; omega
                    have f_c2 : decide (e.kind = 2) = false := by simp at h_c2; simp; omega
                    have f_c3 : decide (e.kind = 3) = true := by simp at h_c3; simp; omega
                    have f_t : decide (e.text = ⟨#[]⟩) = true := by exact h_t
                    exact Need.mk ⟨[], _, .same, fin (by simp [entOk, f_k, f_s1, f_s2, f_su, f_tx, f_c1, f_c2, f_c3, f_t]), rfl⟩ trivial
              · refine Split.mk fun t h_t => ?_
                rw [bytes_beq] at h_t
                cases t
                · have f_k : keyOk e.key = true := by exact h_k
                  have f_s1 : decide (1 ≤ e.seq) = true := by simp at h_s1; simp; omega
                  have f_s2 : decide (e.seq ≤ 100000) = true := by simp at h_s2; simp; omega
                  have f_su : sumOk e.n = true := by exact h_su
                  have f_tx : decide (e.text.size ≤ 60) = true := by simp at h_tx; simp; omega
                  have f_c1 : decide (e.kind = 1) = false := by simp at h_c1; simp; omega
                  have f_c2 : decide (e.kind = 2) = true := by simp at h_c2; simp; omega
                  have f_t : decide (e.text = ⟨#[]⟩) = false := by exact h_t
                  exact Need.mk ⟨[], _, .same, fin (by simp [entOk, f_k, f_s1, f_s2, f_su, f_tx, f_c1, f_c2, f_t]), rfl⟩ trivial
                · refine Split.mk fun t h_z => ?_
                  cases t
                  · have f_k : keyOk e.key = true := by exact h_k
                    have f_s1 : decide (1 ≤ e.seq) = true := by simp at h_s1; simp; omega
                    have f_s2 : decide (e.seq ≤ 100000) = true := by simp at h_s2; simp; omega
                    have f_su : sumOk e.n = true := by exact h_su
                    have f_tx : decide (e.text.size ≤ 60) = true := by simp at h_tx; simp; omega
                    have f_c1 : decide (e.kind = 1) = false := by simp at h_c1; simp; omega
                    have f_c2 : decide (e.kind = 2) = true := by simp at h_c2; simp; omega
                    have f_t : decide (e.text = ⟨#[]⟩) = true := by exact h_t
                    have f_z : decide (e.n = 0) = false := by simp at h_z; simp; omega
                    have f_c3 : decide (e.kind = 3) = false := by simp at h_c2; simp; omega
                    exact Need.mk ⟨[], _, .same, fin (by simp [entOk, f_k, f_s1, f_s2, f_su, f_tx, f_c1, f_c2, f_t, f_z, f_c3]), rfl⟩ trivial
                  · have f_k : keyOk e.key = true := by exact h_k
                    have f_s1 : decide (1 ≤ e.seq) = true := by simp at h_s1; simp; omega
                    have f_s2 : decide (e.seq ≤ 100000) = true := by simp at h_s2; simp; omega
                    have f_su : sumOk e.n = true := by exact h_su
                    have f_tx : decide (e.text.size ≤ 60) = true := by simp at h_tx; simp; omega
                    have f_c1 : decide (e.kind = 1) = false := by simp at h_c1; simp; omega
                    have f_c2 : decide (e.kind = 2) = true := by simp at h_c2; simp; omega
                    have f_t : decide (e.text = ⟨#[]⟩) = true := by exact h_t
                    have f_z : decide (e.n = 0) = true := by simp at h_z; simp; omega
                    exact Need.mk ⟨[], _, .same, fin (by simp [entOk, f_k, f_s1, f_s2, f_su, f_tx, f_c1, f_c2, f_t, f_z]), rfl⟩ trivial
            · have f_k : keyOk e.key = true := by exact h_k
              have f_s1 : decide (1 ≤ e.seq) = true := by simp at h_s1; simp; omega
              have f_s2 : decide (e.seq ≤ 100000) = true := by simp at h_s2; simp; omega
              have f_su : sumOk e.n = true := by exact h_su
              have f_tx : decide (e.text.size ≤ 60) = true := by simp at h_tx; simp; omega
              have f_c1 : decide (e.kind = 1) = true := by simp at h_c1; simp; omega
              exact Need.mk ⟨[], _, .same, fin (by simp [entOk, f_k, f_s1, f_s2, f_su, f_tx, f_c1]), rfl⟩ trivial
          · have f_k : keyOk e.key = true := by exact h_k
            have f_s1 : decide (1 ≤ e.seq) = true := by simp at h_s1; simp; omega
            have f_s2 : decide (e.seq ≤ 100000) = true := by simp at h_s2; simp; omega
            have f_su : sumOk e.n = true := by exact h_su
            have f_tx : decide (e.text.size ≤ 60) = false := by simp at h_tx; simp; omega
            exact Need.mk ⟨[], _, .same, fin (by simp [entOk, f_k, f_s1, f_s2, f_su, f_tx]), rfl⟩ trivial
      · have f_k : keyOk e.key = true := by exact h_k
        have f_s1 : decide (1 ≤ e.seq) = true := by simp at h_s1; simp; omega
        have f_s2 : decide (e.seq ≤ 100000) = false := by simp at h_s2; simp; omega
        exact Need.mk ⟨[], _, .same, fin (by simp [entOk, f_k, f_s1, f_s2]), rfl⟩ trivial
    · have f_k : keyOk e.key = true := by exact h_k
      have f_s1 : decide (1 ≤ e.seq) = false := by simp at h_s1; simp; omega
      exact Need.mk ⟨[], _, .same, fin (by simp [entOk, f_k, f_s1]), rfl⟩ trivial
end Go.Proofs.Yteddoandjgjleaa

namespace Go.Proofs.Yteddoandjgjleaa
open Go Go.Proofs Ev
set_option maxRecDepth 100000
set_option maxHeartbeats 1000000
theorem impl_inOrder (xs : List Ent) (hx : OkE xs) (hxl : xs.length ≤ 1099511627776) : AFn Try.prog 102 [sl (xs.map Ent.enc)] [] (rb (ordOk xs)) [] := by
  refine AFn.introX (E := En 0 md0) (en_ok 0 md0) Try.func102 rfl rfl rfl fun _ _ => ?_
  have fin : ∀ {c : Bool}, c = ordOk xs → rb c = rb (ordOk xs) := fun h => by rw [h]
  refine ALoop.mk (fun m s => ∃ i : Nat, i ≤ xs.length ∧ m = xs.length - i ∧ (∀ (j : Nat) (h : j < xs.length), j < i → entOk xs[j] = true ∧ (∀ k (hk : k + 1 = j), eLess (xs[k]'(by omega)) xs[j] = true)) ∧
      s = ⟨some (sl (xs.map Ent.enc)) :: none :: some (av (.bool false)) :: none :: none :: some (sl (xs.map Ent.enc)) :: some (av (.int .i64 xs.length)) :: some (av (.int .i64 i)) :: List.replicate 22 none, List.replicate 30 absent⟩)
    ⟨xs.length, _, Weak.nrm [true, false, true, false, false, true, true, true] [] rfl rfl rfl, 0, Nat.zero_le _, rfl, by intro j h hj; omega, by rw [show ((xs.length : Nat) : Int) = ((xs.map Ent.enc).length : Nat) by rw [List.length_map]]; rfl⟩ ?_
  rintro m s ⟨i, hi, rfl, hall, rfl⟩
  refine Split.mk fun t ht => ?_
  cases t
  · have hin : i = xs.length := by simp at ht; omega
    subst hin
    exact Need.mk ⟨[], _, .same, fin ((ordOk_iff xs).2 fun j h => hall j h h).symm, rfl⟩ trivial
  have hia : i < xs.length := by simpa using ht
  refine Need.mk (by omega) ?_
  refine Row.mk _ (map_get _ xs i hia) ?_
  refine ACall.mk _ _ (impl_EntryOk xs[i] (hx _ (List.getElem_mem _))) ?_
  refine Split.mk fun t h1 => ?_
  cases t
  · refine Need.mk rfl ?_
    exact Need.mk ⟨[], _, .same, fin (ordOk_bad hia (.inl h1)).symm, rfl⟩ trivial
  refine Split.mk fun t h2 => ?_
  cases t
  · have h0 : i = 0 := by simp at h2; omega
    refine Need.mk rfl ?_
    refine Num.mk _ (wrapS (by omega)) ?_
    refine ⟨xs.length - (i + 1), _, by omega, Weak.nrm [true, false, true, false, false, true, true, true] [] rfl rfl rfl, i + 1, by omega, rfl, fun j h hj => ?_, rfl⟩
    have : j = i := by omega
    subst this
    exact ⟨h1, fun k hk => by omega⟩
  · have h0 : 0 < i := by simp at h2; omega
    refine Num.mk ((i - 1 : Nat) : Int) (wrapI' (by omega) (by omega)) ?_
    refine Need.mk (by omega) ?_
    refine Row.mk _ (map_get _ xs (i - 1) (by omega)) ?_
    refine ACall.mk _ _ (impl_EntryLess (xs[i - 1]'(by omega)) xs[i]) ?_
    refine Split.mk fun t h3 => ?_
    cases t
    · refine Need.mk rfl ?_
      exact Need.mk ⟨[], _, .same, fin (ordOk_bad hia (.inr ⟨i - 1, by omega, h3⟩)).symm, rfl⟩ trivial
    · refine Need.mk rfl ?_
      refine Num.mk _ (wrapS (by omega)) ?_
      refine ⟨xs.length - (i + 1), _, by omega, Weak.nrm [true, false, true, false, false, true, true, true] [] rfl rfl rfl, i + 1, by omega, rfl, fun j h hj => ?_, rfl⟩
      by_cases hji : j = i
      · subst hji
        refine ⟨h1, fun k hk => ?_⟩
        have : k = j - 1 := by omega
        subst this
        exact h3
      · exact hall j h (by omega)
theorem spec_l4Right (xs : List Ent) (hx : OkE xs) (hxl : xs.length ≤ 1099511627776) : AFn Try.prog 99 [sl (xs.map Ent.enc)] [] (rb (ordOk xs)) [] := by
  refine AFn.introX (E := En 0 md0) (en_ok 0 md0) Try.func99 rfl rfl rfl fun _ _ => ?_
  have fin : ∀ {c : Bool}, c = ordOk xs → rb c = rb (ordOk xs) := fun h => by rw [h]
  have hn : (xs.map Ent.enc).length = xs.length := List.length_map ..
  refine ALoop.mk (fun m s => ∃ i : Nat, i ≤ xs.length ∧ m = xs.length - i ∧ (∀ (j : Nat) (h : j < xs.length), j < i → entOk xs[j] = true ∧ (∀ k (hk : k + 1 = j), eLess (xs[k]'(by omega)) xs[j] = true)) ∧
      s = ⟨some (sl (xs.map Ent.enc)) :: none :: some (av (.bool false)) :: some (av (.int .i64 i)) :: List.replicate 29 none, List.replicate 33 absent⟩)
    ⟨xs.length, _, Weak.nrm [true, false, true, true] [] rfl rfl rfl, 0, Nat.zero_le _, rfl, by intro j h hj; omega, rfl⟩ ?_
  rintro m s ⟨i, hi, rfl, hall, rfl⟩
  refine Split.mk fun t ht => ?_
  rw [hn] at ht
  cases t
  · have hin : i = xs.length := by simp at ht; omega
    subst hin
    exact Need.mk ⟨[], _, .same, fin ((ordOk_iff xs).2 fun j h => hall j h h).symm, rfl⟩ trivial
  have hia : i < xs.length := by simpa using ht
  refine Need.mk (by omega) ?_
  refine Row.mk _ (map_get _ xs i hia) ?_
  refine ACall.mk _ _ (spec_EntryOk xs[i] (hx _ (List.getElem_mem _))) ?_
  refine Split.mk fun t h1 => ?_
  cases t
  · refine Need.mk rfl ?_
    exact Need.mk ⟨[], _, .same, fin (ordOk_bad hia (.inl h1)).symm, rfl⟩ trivial
  refine Split.mk fun t h2 => ?_
  cases t
  · have h0 : i = 0 := by simp at h2; omega
    refine Need.mk rfl ?_
    refine Num.mk _ (wrapS (by omega)) ?_
    refine ⟨xs.length - (i + 1), _, by omega, Weak.nrm [true, false, true, true] [] rfl rfl rfl, i + 1, by omega, rfl, fun j h hj => ?_, rfl⟩
    have : j = i := by omega
    subst this
    exact ⟨h1, fun k hk => by omega⟩
  · have h0 : 0 < i := by simp at h2; omega
    refine Num.mk ((i - 1 : Nat) : Int) (wrapI' (by omega) (by omega)) ?_
    refine Need.mk (by omega) ?_
    refine Row.mk _ (map_get _ xs (i - 1) (by omega)) ?_
    refine Need.mk (by omega) ?_
    refine Row.mk _ (map_get _ xs i hia) ?_
    refine ACall.mk _ _ (spec_EntryLess (xs[i - 1]'(by omega)) xs[i]) ?_
    refine Split.mk fun t h3 => ?_
    cases t
    · refine Need.mk rfl ?_
      exact Need.mk ⟨[], _, .same, fin (ordOk_bad hia (.inr ⟨i - 1, by omega, h3⟩)).symm, rfl⟩ trivial
    · refine Need.mk rfl ?_
      refine Num.mk _ (wrapS (by omega)) ?_
      refine ⟨xs.length - (i + 1), _, by omega, Weak.nrm [true, false, true, true] [] rfl rfl rfl, i + 1, by omega, rfl, fun j h hj => ?_, rfl⟩
      by_cases hji : j = i
      · subst hji
        refine ⟨h1, fun k hk => ?_⟩
        have : k = j - 1 := by omega
        subst this
        exact h3
      · exact hall j h (by omega)
end Go.Proofs.Yteddoandjgjleaa

namespace Go.Proofs.Yteddoandjgjleaa
open Go Go.Proofs Ev
set_option maxRecDepth 100000
theorem slices_swapRange (f : FuncId) (x p m q y : List Ent) (h : p.length = q.length) (hx : x.length + p.length + m.length + q.length + y.length ≤ 1099511627776) :
    AFn Try.prog 144 [.one (.ref 0 0 (.cell 0)), av (.int .i64 x.length), av (.int .i64 ((x.length + p.length + m.length : Nat) : Int)), av (.int .i64 p.length), av (.func (.func f) #[] #[])] [[.us 82 ((x ++ p ++ m ++ q ++ y).map Ent.enc)]] (.tup []) [[.us 82 ((x ++ q ++ m ++ p ++ y).map Ent.enc)]] := by
  refine AFn.introX (E := En 1 md0) (en_ok 1 _) Try.func144 rfl rfl rfl fun _ hs => ?_
  let S : List (List C) → Nat → St := fun rows i => ⟨some (.one (.ref 0 0 (.cell 0))) :: some (av (.int .i64 x.length)) :: some (av (.int .i64 ((x.length + p.length + m.length : Nat) : Int))) :: some (av (.int .i64 p.length)) :: none :: none :: none :: none :: none :: none :: some (av (.int .i64 i)) :: List.replicate 27 none, ⟨0, 1, some [.us 82 rows]⟩ :: List.replicate 38 absent⟩
  refine ALoop.mk (fun n s => ∃ i : Nat, i ≤ p.length ∧ n = p.length - i ∧ s = S ((swZ x p m q y i).map Ent.enc) i)
    ⟨p.length, _, Weak.nrm [true, true, true, true, false, false, false, false, false, false, true] [(0, 0)] rfl rfl rfl, 0, Nat.zero_le _, rfl, ?_⟩ ?_
  · rw [swZ_zero]; rfl
  rintro n s ⟨i, hi, rfl, hs⟩
  by_cases hia : i = p.length
  · subst hia
    rw [swZ_end x p m q y h] at hs
    subst hs
    refine Split.mk fun t ht => ?_
    cases t
    · exact Need.mk ⟨[], _, .same, rfl, rfl⟩ trivial
    · simp at ht
  · have hil : i < p.length := by omega
    have g1 : ((swZ x p m q y i).map Ent.enc)[x.length + i]? = some p[i].enc := by rw [List.getElem?_map, swZ_get1 h hil]; rfl
    have g2 : ((swZ x p m q y i).map Ent.enc)[x.length + p.length + m.length + i]? = some (q[i]'(by omega)).enc := by rw [List.getElem?_map, swZ_get2 h hil]; rfl
    have g3 : (((swZ x p m q y i).map Ent.enc).set (x.length + i) (q[i]'(by omega)).enc)[x.length + p.length + m.length + i]? = some (q[i]'(by omega)).enc := by rw [← List.map_set, List.getElem?_map, swZ_get3 h hil]; rfl
    have e2 : (((swZ x p m q y i).map Ent.enc).set (x.length + i) (q[i]'(by omega)).enc).set (x.length + p.length + m.length + i) p[i].enc = (swZ x p m q y (i + 1)).map Ent.enc := by rw [← List.map_set, ← List.map_set, swZ_set2 h hil]
    have hlen : ((swZ x p m q y i).map Ent.enc).length = x.length + p.length + m.length + q.length + y.length := by rw [List.length_map, swZ_len _ _ _ _ _ _ h]
    have hlen2 : (((swZ x p m q y i).map Ent.enc).set (x.length + i) (q[i]'(by omega)).enc).length = x.length + p.length + m.length + q.length + y.length := by rw [List.length_set, hlen]
    have n1 : IntKind.i64.wrap ((x.length : Int) + (i : Int)) = ((x.length + i : Nat) : Int) := by rw [IntKind.wrap_i64]; omega
    have n2 : IntKind.i64.wrap (((x.length + p.length + m.length : Nat) : Int) + (i : Int)) = ((x.length + p.length + m.length + i : Nat) : Int) := by rw [IntKind.wrap_i64]; omega
    subst hs
    refine Split.mk fun t ht => ?_
    cases t
    · simp at ht; omega
    refine Num.mk _ n1 ?_
    refine Num.mk _ n2 ?_
    refine Num.mk _ n2 ?_
    refine Need.mk ⟨by omega, by rw [hlen]; omega⟩ ?_
    refine Row.mk _ g2 ?_
    refine Num.mk _ n1 ?_
    refine Need.mk ⟨by omega, by rw [hlen]; omega⟩ ?_
    refine Row.mk _ g1 ?_
    refine Need.mk ⟨by omega, by rw [hlen]; omega⟩ ?_
    refine Row.mk _ g1 ?_
    refine Need.mk ⟨by omega, show ((x.length + p.length + m.length + i : Nat) : Int) < (((((swZ x p m q y i).map Ent.enc).set (x.length + i) (q[i]'(by omega)).enc).length : Nat) : Int) from by rw [hlen2]; omega⟩ ?_
    refine Row.mk _ g3 ?_
    refine Need.mk rfl ?_
    refine Num.mk _ (wrapS (by omega)) ?_
    refine ⟨p.length - (i + 1), _, by omega, Weak.nrm [true, true, true, true, false, false, false, false, false, false, true] [(0, 0)] rfl rfl rfl, i + 1, by omega, rfl, ?_⟩
    refine Eq.trans (b := S ((((swZ x p m q y i).map Ent.enc).set (x.length + i) (q[i]'(by omega)).enc).set (x.length + p.length + m.length + i) p[i].enc) (i + 1)) rfl ?_
    rw [e2]
theorem slices_swapRange' (f : FuncId) (x p m q y : List Ent) (l r : List Ent) (a b n : Nat) (hl : l = x ++ p ++ m ++ q ++ y) (hr : r = x ++ q ++ m ++ p ++ y) (ha : a = x.length) (hb : b = x.length + p.length + m.length) (hn : n = p.length) (h : p.length = q.length) (hx : l.length ≤ 1099511627776) :
    AFn Try.prog 144 [.one (.ref 0 0 (.cell 0)), av (.int .i64 a), av (.int .i64 b), av (.int .i64 n), av (.func (.func f) #[] #[])] [[.us 82 (l.map Ent.enc)]] (.tup []) [[.us 82 (r.map Ent.enc)]] := by
  subst hl hr ha hb hn
  exact slices_swapRange f x p m q y h (by simpa [Nat.add_assoc] using hx)
end Go.Proofs.Yteddoandjgjleaa

namespace Go.Proofs.Yteddoandjgjleaa
open Go Go.Proofs Ev
set_option maxRecDepth 100000
theorem slices_rotate (f : FuncId) (x u v y l r : List Ent) (a m b : Nat) (hl : l = x ++ u ++ v ++ y) (hr : r = x ++ v ++ u ++ y) (ha : a = x.length) (hm : m = x.length + u.length) (hb : b = x.length + u.length + v.length) (hu : 0 < u.length) (hv : 0 < v.length) (hx : l.length ≤ 1099511627776) :
    AFn Try.prog 143 [.one (.ref 0 0 (.cell 0)), av (.int .i64 a), av (.int .i64 m), av (.int .i64 b), av (.func (.func f) #[] #[])] [[.us 82 (l.map Ent.enc)]] (.tup []) [[.us 82 (r.map Ent.enc)]] := by
  have hll : l.length = x.length + u.length + v.length + y.length := by rw [hl]; simp; omega
  refine AFn.introX (E := En 1 (md1 [144])) (en_ok 1 _) Try.func143 rfl rfl rfl fun _ hs => ?_
  let S : List Ent → Nat → Nat → St := fun ys i j => ⟨some (.one (.ref 0 0 (.cell 0))) :: some (av (.int .i64 a)) :: some (av (.int .i64 m)) :: some (av (.int .i64 b)) :: some (av (.func (.func f) #[] #[])) :: none :: none :: none :: none :: none :: some (av (.int .i64 i)) :: some (av (.int .i64 j)) :: List.replicate 46 none, ⟨0, 1, some [.us 82 (ys.map Ent.enc)]⟩ :: List.replicate 58 absent⟩
  refine Num.mk (u.length : Int) (by rw [IntKind.wrap_i64]; omega) ?_
  refine Num.mk (v.length : Int) (by rw [IntKind.wrap_i64]; omega) ?_
  refine ALoop.mk (fun n s => ∃ (x' u' v' y' : List Ent) (i j : Nat), n = i + j ∧ i = u'.length ∧ j = v'.length ∧ 0 < i ∧ 0 < j ∧ x'.length + i = m ∧ x'.length + i + j + y'.length = l.length ∧ x' ++ v' ++ u' ++ y' = r ∧ s = S (x' ++ u' ++ v' ++ y') i j)
    ⟨u.length + v.length, _, Weak.nrm [true, true, true, true, true, false, false, false, false, false, true, true] [(0, 0)] rfl rfl rfl, x, u, v, y, u.length, v.length, rfl, rfl, rfl, hu, hv, by omega, by omega, hr.symm, by rw [← hl]; rfl⟩ ?_
  rintro n s ⟨x', u', v', y', i, j, rfl, hi, hj, hi0, hj0, hmm, htot, htar, hs⟩
  have hlen' : (x' ++ u' ++ v' ++ y').length ≤ 1099511627776 := by simp; omega
  by_cases hij : i = j
  · have hcall := slices_swapRange' f x' u' [] v' y' (x' ++ u' ++ v' ++ y') r (m - i) m i (by simp) (by rw [← htar]; simp) (by omega) (by simp; omega) hi (by omega) hlen'
    subst hs
    refine Split.mk fun t ht => ?_
    cases t
    · refine Num.mk ((m - i : Nat) : Int) (by rw [IntKind.wrap_i64]; omega) ?_
      refine ACall.mk _ _ hcall ?_
      exact Need.mk ⟨[], _, .same, rfl, rfl⟩ trivial
    · simp at ht; omega
  · by_cases hgt : j < i
    · have e1 : u' = u'.take j ++ u'.drop j := (List.take_append_drop j u').symm
      have l1 : (u'.take j).length = j := by rw [List.length_take]; omega
      have l2 : (u'.drop j).length = i - j := by rw [List.length_drop]; omega
      have hcall := slices_swapRange' f x' (u'.take j) (u'.drop j) v' y' (x' ++ u' ++ v' ++ y') (x' ++ v' ++ u'.drop j ++ u'.take j ++ y') (m - i) m j (by rw [List.append_assoc x' (u'.take j), List.take_append_drop]) rfl (by omega) (by omega) l1.symm (by omega) hlen'
      have htar2 : x' ++ v' ++ u'.take j ++ u'.drop j ++ y' = r := by rw [List.append_assoc (x' ++ v') (u'.take j), List.take_append_drop, htar]
      subst hs
      refine Split.mk fun t ht => ?_
      cases t
      · simp at ht; omega
      refine Split.mk fun t ht2 => ?_
      cases t
      · simp at ht2; omega
      refine Num.mk ((m - i : Nat) : Int) (by rw [IntKind.wrap_i64]; omega) ?_
      refine ACall.mk _ _ hcall ?_
      refine Num.mk ((i - j : Nat) : Int) (by rw [IntKind.wrap_i64]; omega) ?_
      exact ⟨i - j + j, _, by omega, Weak.nrm [true, true, true, true, true, false, false, false, false, false, true, true] [(0, 0)] rfl rfl rfl, x' ++ v', u'.drop j, u'.take j, y', i - j, j, rfl, l2.symm, l1.symm, by omega, by omega, by simp; omega, by simp; omega, htar2, rfl⟩
    · have l1 : (v'.take (j - i)).length = j - i := by rw [List.length_take]; omega
      have l2 : (v'.drop (j - i)).length = i := by rw [List.length_drop]; omega
      have hcall := slices_swapRange' f x' u' (v'.take (j - i)) (v'.drop (j - i)) y' (x' ++ u' ++ v' ++ y') (x' ++ v'.drop (j - i) ++ v'.take (j - i) ++ (u' ++ y')) (m - i) (m + j - i) i (by rw [List.append_assoc (x' ++ u') (v'.take (j - i)), List.take_append_drop]) (by simp) (by omega) (by omega) hi (by omega) hlen'
      have htar2 : x' ++ v'.take (j - i) ++ v'.drop (j - i) ++ (u' ++ y') = r := by rw [List.append_assoc x' (v'.take (j - i)), List.take_append_drop, ← List.append_assoc, htar]
      subst hs
      refine Split.mk fun t ht => ?_
      cases t
      · simp at ht; omega
      refine Split.mk fun t ht2 => ?_
      cases t
      · refine Num.mk ((m - i : Nat) : Int) (by rw [IntKind.wrap_i64]; omega) ?_
        refine Num.mk ((m + j : Nat) : Int) (by rw [IntKind.wrap_i64]; omega) ?_
        refine Num.mk ((m + j - i : Nat) : Int) (by rw [IntKind.wrap_i64]; omega) ?_
        refine ACall.mk _ _ hcall ?_
        refine Num.mk ((j - i : Nat) : Int) (by rw [IntKind.wrap_i64]; omega) ?_
        exact ⟨i + (j - i), _, by omega, Weak.nrm [true, true, true, true, true, false, false, false, false, false, true, true] [(0, 0)] rfl rfl rfl, x', v'.drop (j - i), v'.take (j - i), u' ++ y', i, j - i, rfl, l2.symm, l1.symm, by omega, by omega, by omega, by simp; omega, htar2, rfl⟩
      · simp at ht2; omega
end Go.Proofs.Yteddoandjgjleaa

namespace Go.Proofs.Yteddoandjgjleaa
open Go Go.Proofs Ev
set_option maxRecDepth 100000
def SymM (f : FuncId) (lt : Ent → Ent → Bool) (n : Nat) : Prop := ∀ (x c d y l r : List Ent) (a m b : Nat), l = x ++ c ++ d ++ y → r = x ++ mrg lt c d ++ y → a = x.length → m = x.length + c.length → b = x.length + c.length + d.length → 0 < c.length → 0 < d.length → Srt lt c → Srt lt d → c.length + d.length ≤ n → l.length ≤ 1099511627776 →
    AFn Try.prog 137 [.one (.ref 0 0 (.cell 0)), av (.int .i64 a), av (.int .i64 m), av (.int .i64 b), av (.func (.func f) #[] #[])] [[.us 82 (l.map Ent.enc)]] (.tup []) [[.us 82 (r.map Ent.enc)]]
set_option maxHeartbeats 4000000
theorem symMerge_left (f : FuncId) (lt : Ent → Ent → Bool) (hw : Wk lt) (hf : CmpOk f lt) (x c d y l r : List Ent) (a m b : Nat) (hl : l = x ++ c ++ d ++ y) (hr : r = x ++ mrg lt c d ++ y) (ha : a = x.length) (hm : m = x.length + c.length) (hb : b = x.length + c.length + d.length) (hc : c.length = 1) (hd : 0 < d.length) (sd : Srt lt d) (hx : l.length ≤ 1099511627776) :
    AFn Try.prog 137 [.one (.ref 0 0 (.cell 0)), av (.int .i64 a), av (.int .i64 m), av (.int .i64 b), av (.func (.func f) #[] #[])] [[.us 82 (l.map Ent.enc)]] (.tup []) [[.us 82 (r.map Ent.enc)]] := by
  obtain ⟨ord, hord, hfn⟩ := hf
  have hll : l.length = x.length + c.length + d.length + y.length := by rw [hl]; simp; omega
  refine AFn.introX (E := En 1 (md1 [137, 143])) (en_ok 1 _) Try.func137 rfl rfl rfl fun _ hs => ?_
  have hlm : (l.map Ent.enc).length = l.length := List.length_map ..
  have gd : ∀ k (hk : k < d.length), (l.map Ent.enc)[m + k]? = some d[k].enc := fun k hk => by rw [List.getElem?_map, hl, get_r (i := k) (by omega) hk]; rfl
  have gc : ∀ k (hk : k < c.length), (l.map Ent.enc)[a + k]? = some c[k].enc := fun k hk => by rw [List.getElem?_map, hl, get_l (i := k) (by omega) hk]; rfl
  refine Num.mk ((c.length : Nat) : Int) (wrapI' (by omega) (by omega)) ?_
  refine Split.mk fun t ht => ?_
  cases t
  · simp at ht; omega
  have he : ∃ e, c = [e] := by
    match c, hc with
    | [e], _ => exact ⟨e, rfl⟩
  obtain ⟨e, he⟩ := he
  subst he
  have ge : (l.map Ent.enc)[a]? = some e.enc := gc 0 (by simp)
  let S : Nat → Nat → St := fun i j => ⟨some (.one (.ref 0 0 (.cell 0))) :: some (av (.int .i64 a)) :: some (av (.int .i64 m)) :: some (av (.int .i64 b)) :: some (av (.func (.func f) #[] #[])) :: none :: none :: none :: none :: none :: some (av (.int .i64 i)) :: some (av (.int .i64 j)) :: List.replicate 208 none, ⟨0, 1, some [.us 82 (l.map Ent.enc)]⟩ :: List.replicate 220 absent⟩
  refine ALoop.mk (fun n s => ∃ p q : Nat, p ≤ q ∧ q ≤ d.length ∧ n = q - p ∧ (∀ k (hk : k < d.length), k < p → lt d[k] e = true) ∧ (∀ k (hk : k < d.length), q ≤ k → lt d[k] e = false) ∧ s = S (m + p) (m + q))
    ⟨d.length, _, Weak.nrm [true, true, true, true, true, false, false, false, false, false, true, true] [(0, 0)] rfl rfl rfl, 0, d.length, Nat.zero_le _, Nat.le_refl _, rfl, by intro k hk h; omega, by intro k hk h; omega, by rw [show m + d.length = b by omega]; rfl⟩ ?_
  rintro n s ⟨p, q, hpq, hq, rfl, h1, h2, hs⟩
  by_cases hlt : p < q
  · have hk : (p + q) / 2 < d.length := by omega
    by_cases hcmp : lt (d[(p + q) / 2]) e = true
    · have h1' : ∀ k (hk : k < d.length), k < (p + q) / 2 + 1 → lt d[k] e = true := fun k hk' hle => by
        cases hx' : lt d[k] e with
        | true => rfl
        | false => have := hw.nt _ _ _ (srt_get hw sd (i := k) (j := (p + q) / 2) (by omega) hk) hx'; rw [hcmp] at this; cases this
      subst hs
      refine Split.mk fun t ht => ?_
      cases t
      · simp at ht; omega
      refine Num.mk ((m + p + (m + q) : Nat) : Int) (wrapI' (by omega) (by omega)) ?_
      refine Num.mk _ (wrapU (by omega)) ?_
      refine Need.mk (by decide) ?_
      refine Num.mk _ (half (by omega)) ?_
      have hh : (m + p + (m + q)) / 2 = m + (p + q) / 2 := by omega
      refine Need.mk ⟨by omega, by rw [hlm]; omega⟩ ?_
      refine Row.mk _ (by show (l.map Ent.enc)[(m + p + (m + q)) / 2]? = _; rw [hh]; exact gd _ hk) ?_
      refine Need.mk ⟨by omega, by rw [hlm]; omega⟩ ?_
      refine Row.mk _ ge ?_
      refine ACall.mk _ _ (hfn _ e) ?_
      refine Split.mk fun t ht3 => ?_
      rw [hord, hcmp] at ht3
      subst ht3
      refine Need.mk rfl ?_
      refine Num.mk _ (wrapS (by omega)) ?_
      refine ⟨q - ((p + q) / 2 + 1), _, by omega, Weak.nrm [true, true, true, true, true, false, false, false, false, false, true, true] [(0, 0)] rfl rfl rfl, (p + q) / 2 + 1, q, by omega, hq, rfl, h1', h2, ?_⟩
      rw [show m + ((p + q) / 2 + 1) = (m + p + (m + q)) / 2 + 1 by omega]; rfl
    · have hcmp : lt (d[(p + q) / 2]) e = false := by simpa using hcmp
      have h2' : ∀ k (hk : k < d.length), (p + q) / 2 ≤ k → lt d[k] e = false := fun k hk' hle => hw.nt _ _ _ (srt_get hw sd (i := (p + q) / 2) (j := k) hle hk') hcmp
      subst hs
      refine Split.mk fun t ht => ?_
      cases t
      · simp at ht; omega
      refine Num.mk ((m + p + (m + q) : Nat) : Int) (wrapI' (by omega) (by omega)) ?_
      refine Num.mk _ (wrapU (by omega)) ?_
      refine Need.mk (by decide) ?_
      refine Num.mk _ (half (by omega)) ?_
      have hh : (m + p + (m + q)) / 2 = m + (p + q) / 2 := by omega
      refine Need.mk ⟨by omega, by rw [hlm]; omega⟩ ?_
      refine Row.mk _ (by show (l.map Ent.enc)[(m + p + (m + q)) / 2]? = _; rw [hh]; exact gd _ hk) ?_
      refine Need.mk ⟨by omega, by rw [hlm]; omega⟩ ?_
      refine Row.mk _ ge ?_
      refine ACall.mk _ _ (hfn _ e) ?_
      refine Split.mk fun t ht3 => ?_
      rw [hord, hcmp] at ht3
      subst ht3
      refine Need.mk rfl ?_
      refine ⟨(p + q) / 2 - p, _, by omega, Weak.nrm [true, true, true, true, true, false, false, false, false, false, true, true] [(0, 0)] rfl rfl rfl, p, (p + q) / 2, by omega, by omega, rfl, h1, h2', ?_⟩
      rw [← hh]; rfl
  · have hpq : q = p := by omega
    subst hpq
    have hfin : r = x ++ d.take q ++ e :: (d.drop q ++ y) := by rw [hr, mrg_one_l h1 h2]; simp
    have h0 : l = x ++ d.take 0 ++ e :: (d.drop 0 ++ y) := by rw [hl]; simp
    subst hs
    refine Split.mk fun t ht => ?_
    cases t
    · let S2 : List Ent → Nat → Nat → St := fun ys p k => ⟨some (.one (.ref 0 0 (.cell 0))) :: some (av (.int .i64 a)) :: some (av (.int .i64 m)) :: some (av (.int .i64 b)) :: some (av (.func (.func f) #[] #[])) :: none :: none :: none :: none :: none :: some (av (.int .i64 ((m + p : Nat) : Int))) :: none :: none :: some (av (.int .i64 k)) :: List.replicate 206 none, ⟨0, 1, some [.us 82 (ys.map Ent.enc)]⟩ :: List.replicate 220 absent⟩
      refine ALoop.mk (fun n s => ∃ t : Nat, t ≤ q ∧ n = q - t ∧ s = S2 (x ++ d.take t ++ e :: (d.drop t ++ y)) q (a + t))
        ⟨q, _, Weak.nrm [true, true, true, true, true, false, false, false, false, false, true, false, false, true] [(0, 0)] rfl rfl rfl, 0, Nat.zero_le _, rfl, by rw [← h0]; rfl⟩ ?_
      rintro n s ⟨t, ht, rfl, hs⟩
      by_cases htq : t = q
      · subst htq
        rw [← hfin] at hs
        subst hs
        refine Num.mk ((a + t : Nat) : Int) (wrapI' (by simp at hm; omega) (by omega)) ?_
        refine Split.mk fun t ht => ?_
        cases t
        · exact Need.mk ⟨[], _, .same, rfl, rfl⟩ trivial
        · simp at ht
      · have htd : t < d.length := by omega
        have hys : x ++ d.take t ++ e :: (d.drop t ++ y) = x ++ d.take t ++ e :: d[t] :: (d.drop (t + 1) ++ y) := by rw [List.drop_eq_getElem_cons htd]; rfl
        have hys2 : x ++ d.take t ++ d[t] :: e :: (d.drop (t + 1) ++ y) = x ++ d.take (t + 1) ++ e :: (d.drop (t + 1) ++ y) := by rw [List.take_succ_eq_append_getElem htd]; simp only [List.append_assoc, List.cons_append, List.nil_append]
        have hadj := adj Ent.enc (x ++ d.take t) (d.drop (t + 1) ++ y) e d[t] (k := a + t) (by simp; omega)
        obtain ⟨g0, g1, g2, g3, _, _⟩ := hadj
        have hln : ((x ++ d.take t ++ e :: d[t] :: (d.drop (t + 1) ++ y)).map Ent.enc).length = l.length := by rw [List.length_map, ← hys]; simp at hll ⊢; omega
        have hln2 : (((x ++ d.take t ++ e :: d[t] :: (d.drop (t + 1) ++ y)).map Ent.enc).set (a + t) d[t].enc).length = l.length := by rw [List.length_set, hln]
        have hm1 : m = a + 1 := by simp at hm; omega
        rw [hys] at hs
        have hex : ∃ ys, x ++ d.take t ++ e :: d[t] :: (d.drop (t + 1) ++ y) = ys := ⟨_, rfl⟩
        obtain ⟨ys, hyy⟩ := hex
        rw [hyy] at hs g0 g1 g2 g3 hln hln2
        rw [hys2] at g3
        subst hs
        refine Num.mk ((a + q : Nat) : Int) (wrapI' (by omega) (by omega)) ?_
        refine Split.mk fun t' ht' => ?_
        cases t'
        · simp at ht'; omega
        refine Num.mk ((a + t + 1 : Nat) : Int) (wrapI' (by omega) (by omega)) ?_
        refine Num.mk ((a + t + 1 : Nat) : Int) (wrapI' (by omega) (by omega)) ?_
        refine Need.mk ⟨by omega, by rw [hln]; omega⟩ ?_
        refine Row.mk _ g1 ?_
        refine Need.mk ⟨by omega, by rw [hln]; omega⟩ ?_
        refine Row.mk _ g0 ?_
        refine Need.mk ⟨by omega, by rw [hln]; omega⟩ ?_
        refine Row.mk _ g0 ?_
        refine Need.mk ⟨by omega, show ((a + t + 1 : Nat) : Int) < ((((ys.map Ent.enc).set (a + t) d[t].enc).length : Nat) : Int) from by rw [hln2]; omega⟩ ?_
        refine Row.mk _ g2 ?_
        refine Need.mk rfl ?_
        refine Num.mk ((a + t + 1 : Nat) : Int) (wrapI' (by omega) (by omega)) ?_
        refine ⟨q - (t + 1), _, by omega, Weak.nrm [true, true, true, true, true, false, false, false, false, false, true, false, false, true] [(0, 0)] rfl rfl rfl, t + 1, by omega, rfl, ?_⟩
        refine Eq.trans (b := ⟨some (.one (.ref 0 0 (.cell 0))) :: some (av (.int .i64 a)) :: some (av (.int .i64 m)) :: some (av (.int .i64 b)) :: some (av (.func (.func f) #[] #[])) :: none :: none :: none :: none :: none :: some (av (.int .i64 ((m + q : Nat) : Int))) :: none :: none :: some (av (.int .i64 ((a + t + 1 : Nat) : Int))) :: List.replicate 206 none, ⟨0, 1, some [.us 82 (((ys.map Ent.enc).set (a + t) d[t].enc).set (a + t + 1) e.enc)]⟩ :: List.replicate 220 absent⟩) rfl ?_
        rw [g3]; rfl
    · simp at ht
end Go.Proofs.Yteddoandjgjleaa

namespace Go.Proofs.Yteddoandjgjleaa
open Go Go.Proofs Ev
set_option maxRecDepth 100000
set_option maxHeartbeats 4000000
theorem symMerge_right (f : FuncId) (lt : Ent → Ent → Bool) (hw : Wk lt) (hf : CmpOk f lt) (x c d y l r : List Ent) (a m b : Nat) (hl : l = x ++ c ++ d ++ y) (hr : r = x ++ mrg lt c d ++ y) (ha : a = x.length) (hm : m = x.length + c.length) (hb : b = x.length + c.length + d.length) (hc : 1 < c.length) (hd : d.length = 1) (sc : Srt lt c) (hx : l.length ≤ 1099511627776) :
    AFn Try.prog 137 [.one (.ref 0 0 (.cell 0)), av (.int .i64 a), av (.int .i64 m), av (.int .i64 b), av (.func (.func f) #[] #[])] [[.us 82 (l.map Ent.enc)]] (.tup []) [[.us 82 (r.map Ent.enc)]] := by
  obtain ⟨ord, hord, hfn⟩ := hf
  have hll : l.length = x.length + c.length + d.length + y.length := by rw [hl]; simp; omega
  refine AFn.introX (E := En 1 (md1 [137, 143])) (en_ok 1 _) Try.func137 rfl rfl rfl fun _ hs => ?_
  have hlm : (l.map Ent.enc).length = l.length := List.length_map ..
  have gd : ∀ k (hk : k < d.length), (l.map Ent.enc)[m + k]? = some d[k].enc := fun k hk => by rw [List.getElem?_map, hl, get_r (i := k) (by omega) hk]; rfl
  have gc : ∀ k (hk : k < c.length), (l.map Ent.enc)[a + k]? = some c[k].enc := fun k hk => by rw [List.getElem?_map, hl, get_l (i := k) (by omega) hk]; rfl
  refine Num.mk ((c.length : Nat) : Int) (wrapI' (by omega) (by omega)) ?_
  refine Split.mk fun t ht => ?_
  cases t
  case true => simp at ht; omega
  refine Num.mk ((d.length : Nat) : Int) (wrapI' (by omega) (by omega)) ?_
  refine Split.mk fun t ht => ?_
  cases t
  · simp at ht; omega
  have he : ∃ e, d = [e] := by
    match d, hd with
    | [e], _ => exact ⟨e, rfl⟩
  obtain ⟨e, he⟩ := he
  subst he
  have ge : (l.map Ent.enc)[m]? = some e.enc := gd 0 (by simp)
  let S : Nat → Nat → St := fun i j => ⟨some (.one (.ref 0 0 (.cell 0))) :: some (av (.int .i64 a)) :: some (av (.int .i64 m)) :: some (av (.int .i64 b)) :: some (av (.func (.func f) #[] #[])) :: none :: none :: none :: none :: none :: none :: none :: none :: none :: some (av (.int .i64 i)) :: some (av (.int .i64 j)) :: List.replicate 204 none, ⟨0, 1, some [.us 82 (l.map Ent.enc)]⟩ :: List.replicate 220 absent⟩
  refine ALoop.mk (fun n s => ∃ p q : Nat, p ≤ q ∧ q ≤ c.length ∧ n = q - p ∧ (∀ k (hk : k < c.length), k < p → lt e c[k] = false) ∧ (∀ k (hk : k < c.length), q ≤ k → lt e c[k] = true) ∧ s = S (a + p) (a + q))
    ⟨c.length, _, Weak.nrm [true, true, true, true, true, false, false, false, false, false, false, false, false, false, true, true] [(0, 0)] rfl rfl rfl, 0, c.length, Nat.zero_le _, Nat.le_refl _, rfl, by intro k hk h; omega, by intro k hk h; omega, by rw [show a + c.length = m by omega]; rfl⟩ ?_
  rintro n s ⟨p, q, hpq, hq, rfl, h1, h2, hs⟩
  by_cases hlt : p < q
  · have hk : (p + q) / 2 < c.length := by omega
    by_cases hcmp : lt e (c[(p + q) / 2]) = false
    · have h1' : ∀ k (hk : k < c.length), k < (p + q) / 2 + 1 → lt e c[k] = false := fun k hk' hle => hw.nt _ _ _ hcmp (srt_get hw sc (i := k) (j := (p + q) / 2) (by omega) hk)
      subst hs
      refine Split.mk fun t ht => ?_
      cases t
      · simp at ht; omega
      refine Num.mk ((a + p + (a + q) : Nat) : Int) (wrapI' (by omega) (by omega)) ?_
      refine Num.mk _ (wrapU (by omega)) ?_
      refine Need.mk (by decide) ?_
      refine Num.mk _ (half (by omega)) ?_
      have hh : (a + p + (a + q)) / 2 = a + (p + q) / 2 := by omega
      refine Need.mk ⟨by omega, by rw [hlm]; omega⟩ ?_
      refine Row.mk _ ge ?_
      refine Need.mk ⟨by omega, by rw [hlm]; omega⟩ ?_
      refine Row.mk _ (by show (l.map Ent.enc)[(a + p + (a + q)) / 2]? = _; rw [hh]; exact gc _ hk) ?_
      refine ACall.mk _ _ (hfn e _) ?_
      refine Split.mk fun t ht3 => ?_
      rw [hord, hcmp] at ht3
      subst ht3
      refine Need.mk rfl ?_
      refine Num.mk _ (wrapS (by omega)) ?_
      refine ⟨q - ((p + q) / 2 + 1), _, by omega, Weak.nrm [true, true, true, true, true, false, false, false, false, false, false, false, false, false, true, true] [(0, 0)] rfl rfl rfl, (p + q) / 2 + 1, q, by omega, hq, rfl, h1', h2, ?_⟩
      rw [show a + ((p + q) / 2 + 1) = (a + p + (a + q)) / 2 + 1 by omega]; rfl
    · have hcmp : lt e (c[(p + q) / 2]) = true := by simpa using hcmp
      have h2' : ∀ k (hk : k < c.length), (p + q) / 2 ≤ k → lt e c[k] = true := fun k hk' hle => by
        cases hx' : lt e c[k] with
        | true => rfl
        | false => have := hw.nt _ _ _ hx' (srt_get hw sc (i := (p + q) / 2) (j := k) hle hk'); rw [hcmp] at this; cases this
      subst hs
      refine Split.mk fun t ht => ?_
      cases t
      · simp at ht; omega
      refine Num.mk ((a + p + (a + q) : Nat) : Int) (wrapI' (by omega) (by omega)) ?_
      refine Num.mk _ (wrapU (by omega)) ?_
      refine Need.mk (by decide) ?_
      refine Num.mk _ (half (by omega)) ?_
      have hh : (a + p + (a + q)) / 2 = a + (p + q) / 2 := by omega
      refine Need.mk ⟨by omega, by rw [hlm]; omega⟩ ?_
      refine Row.mk _ ge ?_
      refine Need.mk ⟨by omega, by rw [hlm]; omega⟩ ?_
      refine Row.mk _ (by show (l.map Ent.enc)[(a + p + (a + q)) / 2]? = _; rw [hh]; exact gc _ hk) ?_
      refine ACall.mk _ _ (hfn e _) ?_
      refine Split.mk fun t ht3 => ?_
      rw [hord, hcmp] at ht3
      subst ht3
      refine Need.mk rfl ?_
      refine ⟨(p + q) / 2 - p, _, by omega, Weak.nrm [true, true, true, true, true, false, false, false, false, false, false, false, false, false, true, true] [(0, 0)] rfl rfl rfl, p, (p + q) / 2, by omega, by omega, rfl, h1, h2', ?_⟩
      rw [← hh]; rfl
  · have hpq : q = p := by omega
    subst hpq
    have hfin : r = x ++ c.take q ++ e :: (c.drop q ++ y) := by rw [hr, mrg_one_r h1 h2]; simp
    have h0 : l = x ++ c.take c.length ++ e :: (c.drop c.length ++ y) := by rw [hl]; simp
    subst hs
    refine Split.mk fun t ht => ?_
    cases t
    · let S2 : List Ent → Nat → Nat → St := fun ys p k => ⟨some (.one (.ref 0 0 (.cell 0))) :: some (av (.int .i64 a)) :: some (av (.int .i64 m)) :: some (av (.int .i64 b)) :: some (av (.func (.func f) #[] #[])) :: none :: none :: none :: none :: none :: none :: none :: none :: none :: some (av (.int .i64 ((a + p : Nat) : Int))) :: none :: none :: some (av (.int .i64 k)) :: List.replicate 202 none, ⟨0, 1, some [.us 82 (ys.map Ent.enc)]⟩ :: List.replicate 220 absent⟩
      refine ALoop.mk (fun n s => ∃ t : Nat, q ≤ t ∧ t ≤ c.length ∧ n = t - q ∧ s = S2 (x ++ c.take t ++ e :: (c.drop t ++ y)) q (a + t))
        ⟨c.length - q, _, Weak.nrm [true, true, true, true, true, false, false, false, false, false, false, false, false, false, true, false, false, true] [(0, 0)] rfl rfl rfl, c.length, hq, Nat.le_refl _, rfl, by rw [← h0, show a + c.length = m by omega]; rfl⟩ ?_
      rintro n s ⟨t, htq0, ht, rfl, hs⟩
      by_cases htq : t = q
      · subst htq
        rw [← hfin] at hs
        subst hs
        refine Split.mk fun t ht => ?_
        cases t
        · exact Need.mk ⟨[], _, .same, rfl, rfl⟩ trivial
        · simp at ht
      · have hexu : ∃ u, t = u + 1 := ⟨t - 1, by omega⟩
        obtain ⟨u, hu⟩ := hexu
        subst hu
        have htd : u < c.length := by omega
        have hys : x ++ c.take (u + 1) ++ e :: (c.drop (u + 1) ++ y) = x ++ c.take u ++ c[u] :: e :: (c.drop (u + 1) ++ y) := by rw [List.take_succ_eq_append_getElem htd]; simp only [List.append_assoc, List.cons_append, List.nil_append]
        have hys2 : x ++ c.take u ++ e :: c[u] :: (c.drop (u + 1) ++ y) = x ++ c.take u ++ e :: (c.drop u ++ y) := by rw [List.drop_eq_getElem_cons htd]; rfl
        have hadj := adj Ent.enc (x ++ c.take u) (c.drop (u + 1) ++ y) c[u] e (k := a + u) (by simp; omega)
        obtain ⟨g0, g1, _, _, g2, g3⟩ := hadj
        have hln : ((x ++ c.take u ++ c[u] :: e :: (c.drop (u + 1) ++ y)).map Ent.enc).length = l.length := by rw [List.length_map, ← hys]; simp at hll ⊢; omega
        have hln2 : (((x ++ c.take u ++ c[u] :: e :: (c.drop (u + 1) ++ y)).map Ent.enc).set (a + u + 1) c[u].enc).length = l.length := by rw [List.length_set, hln]
        rw [hys] at hs
        have hex : ∃ ys, x ++ c.take u ++ c[u] :: e :: (c.drop (u + 1) ++ y) = ys := ⟨_, rfl⟩
        obtain ⟨ys, hyy⟩ := hex
        rw [hyy] at hs g0 g1 g2 g3 hln hln2
        rw [hys2] at g3
        subst hs
        refine Split.mk fun t' ht' => ?_
        cases t'
        · simp at ht'; omega
        have hnum : IntKind.i64.wrap (((a + (u + 1) : Nat) : Int) - 1) = ((a + u : Nat) : Int) := wrapI' (by omega) (by omega)
        refine Num.mk _ hnum ?_
        refine Num.mk _ hnum ?_
        refine Need.mk ⟨by omega, by rw [hln]; omega⟩ ?_
        refine Row.mk _ g0 ?_
        refine Need.mk ⟨by omega, by rw [hln]; omega⟩ ?_
        refine Row.mk _ g1 ?_
        refine Need.mk ⟨by omega, by rw [hln]; omega⟩ ?_
        refine Row.mk _ g1 ?_
        refine Need.mk ⟨by omega, show ((a + u : Nat) : Int) < ((((ys.map Ent.enc).set (a + u + 1) c[u].enc).length : Nat) : Int) from by rw [hln2]; omega⟩ ?_
        refine Row.mk _ g2 ?_
        refine Need.mk rfl ?_
        refine Num.mk _ hnum ?_
        refine ⟨u - q, _, by omega, Weak.nrm [true, true, true, true, true, false, false, false, false, false, false, false, false, false, true, false, false, true] [(0, 0)] rfl rfl rfl, u, by omega, by omega, rfl, ?_⟩
        refine Eq.trans (b := ⟨some (.one (.ref 0 0 (.cell 0))) :: some (av (.int .i64 a)) :: some (av (.int .i64 m)) :: some (av (.int .i64 b)) :: some (av (.func (.func f) #[] #[])) :: none :: none :: none :: none :: none :: none :: none :: none :: none :: some (av (.int .i64 ((a + q : Nat) : Int))) :: none :: none :: some (av (.int .i64 ((a + u : Nat) : Int))) :: List.replicate 202 none, ⟨0, 1, some [.us 82 (((ys.map Ent.enc).set (a + u + 1) c[u].enc).set (a + u) e.enc)]⟩ :: List.replicate 220 absent⟩) rfl ?_
        rw [g3]
    · simp at ht
end Go.Proofs.Yteddoandjgjleaa

namespace Go.Proofs.Yteddoandjgjleaa
open Go Go.Proofs Ev
set_option maxRecDepth 100000
set_option maxHeartbeats 8000000
theorem symMerge_hi (f : FuncId) (lt : Ent → Ent → Bool) (hw : Wk lt) (hf : CmpOk f lt) (n : Nat) (ih : ∀ k, k < n → SymM f lt k) (x c d y l r : List Ent) (a m b mid : Nat) (hl : l = x ++ c ++ d ++ y) (hr : r = x ++ mrg lt c d ++ y) (ha : a = x.length) (hm : m = x.length + c.length) (hb : b = x.length + c.length + d.length) (hc : 1 < c.length) (hd : 1 < d.length) (sc : Srt lt c) (sd : Srt lt d) (hcd : c.length + d.length ≤ n) (hx : l.length ≤ 1099511627776) (hmid : (a + b) / 2 = mid) (hwh : mid < m) :
    AFn Try.prog 137 [.one (.ref 0 0 (.cell 0)), av (.int .i64 a), av (.int .i64 m), av (.int .i64 b), av (.func (.func f) #[] #[])] [[.us 82 (l.map Ent.enc)]] (.tup []) [[.us 82 (r.map Ent.enc)]] := by
  obtain ⟨ord, hord, hfn⟩ := hf
  have hll : l.length = x.length + c.length + d.length + y.length := by rw [hl]; simp; omega
  refine AFn.introX (E := En 1 (md1 [137, 143])) (en_ok 1 _) Try.func137 rfl rfl rfl fun _ hs => ?_
  have hlm : (l.map Ent.enc).length = l.length := List.length_map ..
  have gd : ∀ k (hk : k < d.length), (l.map Ent.enc)[m + k]? = some d[k].enc := fun k hk => by rw [List.getElem?_map, hl, get_r (i := k) (by omega) hk]; rfl
  have gc : ∀ k (hk : k < c.length), (l.map Ent.enc)[a + k]? = some c[k].enc := fun k hk => by rw [List.getElem?_map, hl, get_l (i := k) (by omega) hk]; rfl
  refine Num.mk ((c.length : Nat) : Int) (wrapI' (by omega) (by omega)) ?_
  refine Split.mk fun t ht => ?_
  cases t
  case true => simp at ht; omega
  refine Num.mk ((d.length : Nat) : Int) (wrapI' (by omega) (by omega)) ?_
  refine Split.mk fun t ht => ?_
  cases t
  case true => simp at ht; omega
  refine Num.mk ((a + b : Nat) : Int) (wrapI' (by omega) (by omega)) ?_
  refine Num.mk _ (wrapU (by omega)) ?_
  refine Need.mk (by decide) ?_
  refine Num.mk ((mid : Nat) : Int) (by rw [← hmid]; exact half (by omega)) ?_
  refine Num.mk ((mid + m : Nat) : Int) (wrapI' (by omega) (by omega)) ?_
  refine Split.mk fun t ht => ?_
  cases t
  · first | (simp at ht; done) | (simp at ht; omega) | omega
  refine Num.mk ((mid + m - b : Nat) : Int) (wrapI' (by omega) (by omega)) ?_
  refine Num.mk ((mid + m - 1 : Nat) : Int) (wrapI' (by omega) (by omega)) ?_
  let S : Nat → Nat → St := fun s t => ⟨some (.one (.ref 0 0 (.cell 0))) :: some (av (.int .i64 a)) :: some (av (.int .i64 m)) :: some (av (.int .i64 b)) :: some (av (.func (.func f) #[] #[])) :: none :: none :: none :: none :: none :: none :: none :: none :: none :: none :: none :: none :: none :: some (av (.int .i64 mid)) :: some (av (.int .i64 ((mid + m : Nat) : Int))) :: some (av (.int .i64 s)) :: some (av (.int .i64 t)) :: some (av (.int .i64 ((mid + m - 1 : Nat) : Int))) :: List.replicate 197 none, ⟨0, 1, some [.us 82 (l.map Ent.enc)]⟩ :: List.replicate 220 absent⟩
  refine ALoop.mk (fun n s' => ∃ s t : Nat, mid + m - b ≤ s ∧ s ≤ t ∧ t ≤ mid ∧ n = t - s ∧ (∀ k, mid + m - b ≤ k → k < s → ∀ (i j : Nat) (hi : i < d.length) (hj : j < c.length), i + k + 1 = mid → j + a = k → lt d[i] c[j] = false) ∧ (∀ k, t ≤ k → k < mid → ∀ (i j : Nat) (hi : i < d.length) (hj : j < c.length), i + k + 1 = mid → j + a = k → lt d[i] c[j] = true) ∧ s' = S s t)
    ⟨mid - (mid + m - b), _, Weak.nrm [true, true, true, true, true, false, false, false, false, false, false, false, false, false, false, false, false, false, true, true, true, true, true] [(0, 0)] rfl rfl rfl, mid + m - b, mid, Nat.le_refl _, by omega, Nat.le_refl _, rfl, by intro k hk1 hk2; omega, by intro k hk1 hk2; omega, rfl⟩ ?_
  rintro n' s' ⟨s, t, hs0, hst, htr, rfl, h1, h2, hs⟩
  by_cases hlt : s < t
  · have hk : (s + t) / 2 < mid := by omega
    have hk0 : s ≤ (s + t) / 2 := by omega
    have hi0 : mid - (s + t) / 2 - 1 < d.length := by omega
    have hj0 : (s + t) / 2 - a < c.length := by omega
    have hp : IntKind.i64.wrap (((mid + m - 1 : Nat) : Int) - (((s + t) / 2 : Nat) : Int)) = ((m + (mid - (s + t) / 2 - 1) : Nat) : Int) := wrapI' (by omega) (by omega)
    have gcc : (l.map Ent.enc)[(s + t) / 2]? = some c[(s + t) / 2 - a].enc := by
      have := gc ((s + t) / 2 - a) hj0
      rwa [show a + ((s + t) / 2 - a) = (s + t) / 2 by omega] at this
    by_cases hcmp : lt d[mid - (s + t) / 2 - 1] c[(s + t) / 2 - a] = false
    · have h1' : ∀ k, mid + m - b ≤ k → k < (s + t) / 2 + 1 → ∀ (i j : Nat) (hi : i < d.length) (hj : j < c.length), i + k + 1 = mid → j + a = k → lt d[i] c[j] = false := fun k hk1 hk2 i j hi hj e1 e2 => find_lo hw sc sd hi hj0 (by omega) (by omega) hcmp
      subst hs
      refine Split.mk fun t ht => ?_
      cases t
      · first | (simp at ht; done) | (simp at ht; omega) | omega
      refine Num.mk ((s + t : Nat) : Int) (wrapI' (by omega) (by omega)) ?_
      refine Num.mk _ (wrapU (by omega)) ?_
      refine Need.mk (by decide) ?_
      refine Num.mk _ (half (by omega)) ?_
      refine Num.mk _ hp ?_
      refine Need.mk ⟨by omega, by rw [hlm]; omega⟩ ?_
      refine Row.mk _ (gd _ hi0) ?_
      refine Need.mk ⟨by omega, by rw [hlm]; omega⟩ ?_
      refine Row.mk _ gcc ?_
      refine ACall.mk _ _ (hfn _ _) ?_
      refine Split.mk fun t3 ht3 => ?_
      rw [hord, hcmp] at ht3
      subst ht3
      refine Need.mk rfl ?_
      refine Num.mk _ (wrapS (by omega)) ?_
      exact ⟨t - ((s + t) / 2 + 1), _, by omega, Weak.nrm [true, true, true, true, true, false, false, false, false, false, false, false, false, false, false, false, false, false, true, true, true, true, true] [(0, 0)] rfl rfl rfl, (s + t) / 2 + 1, t, by omega, by omega, htr, rfl, h1', h2, rfl⟩
    · have hcmp : lt d[mid - (s + t) / 2 - 1] c[(s + t) / 2 - a] = true := by simpa using hcmp
      have h2' : ∀ k, (s + t) / 2 ≤ k → k < mid → ∀ (i j : Nat) (hi : i < d.length) (hj : j < c.length), i + k + 1 = mid → j + a = k → lt d[i] c[j] = true := fun k hk1 hk2 i j hi hj e1 e2 => find_hi hw sc sd hi0 hj (by omega) (by omega) hcmp
      subst hs
      refine Split.mk fun t ht => ?_
      cases t
      · first | (simp at ht; done) | (simp at ht; omega) | omega
      refine Num.mk ((s + t : Nat) : Int) (wrapI' (by omega) (by omega)) ?_
      refine Num.mk _ (wrapU (by omega)) ?_
      refine Need.mk (by decide) ?_
      refine Num.mk _ (half (by omega)) ?_
      refine Num.mk _ hp ?_
      refine Need.mk ⟨by omega, by rw [hlm]; omega⟩ ?_
      refine Row.mk _ (gd _ hi0) ?_
      refine Need.mk ⟨by omega, by rw [hlm]; omega⟩ ?_
      refine Row.mk _ gcc ?_
      refine ACall.mk _ _ (hfn _ _) ?_
      refine Split.mk fun t3 ht3 => ?_
      rw [hord, hcmp] at ht3
      subst ht3
      refine Need.mk rfl ?_
      exact ⟨(s + t) / 2 - s, _, by omega, Weak.nrm [true, true, true, true, true, false, false, false, false, false, false, false, false, false, false, false, false, false, true, true, true, true, true] [(0, 0)] rfl rfl rfl, s, (s + t) / 2, hs0, by omega, by omega, rfl, h1, h2', rfl⟩
  · have hst2 : t = s := by omega
    subst hst2
    have hmrg := mrg_find hw sc sd (s := t - a) (t := mid - t) (by omega) (by omega) (fun e1 e2 => h2 t (Nat.le_refl _) (by omega) _ _ _ _ (by omega) (by omega)) (fun e1 e2 => h1 (t - 1) (by omega) (by omega) _ _ _ _ (by omega) (by omega))
    have hend : IntKind.i64.wrap (((mid + m : Nat) : Int) - ((t : Nat) : Int)) = ((mid + m - t : Nat) : Int) := wrapI' (by omega) (by omega)
    by_cases hA : m ≤ t
    · have hsm : t = m := by omega
      have eA : c.drop (t - a) = [] := List.drop_eq_nil_of_le (by omega)
      have eA1 : c.take (t - a) = c := List.take_of_length_le (by omega)
      rw [eA, eA1, mrg_nil] at hmrg
      by_cases hB : t < mid
      · have e0 : l = x ++ c ++ d.take (mid - t) ++ (d.drop (mid - t) ++ y) := by
          rw [hl]
          conv => lhs; rw [← List.take_append_drop (mid - t) d]
          simp only [List.append_assoc]
        have H := ih (mid - a) (by omega) x c (d.take (mid - t)) (d.drop (mid - t) ++ y) l r a t mid e0 (by rw [hr, hmrg]; simp only [List.append_assoc]) ha (by omega) (by rw [List.length_take]; omega) (by omega) (by rw [List.length_take]; omega) sc (srt_take sd _) (by rw [List.length_take]; omega) hx
        subst hs
        refine Split.mk fun t ht => ?_
        cases t
        case true => first | (simp at ht; done) | (simp at ht; omega) | omega
        refine Num.mk _ hend ?_
        refine Split.mk fun t ht => ?_
        cases t
        case true => first | (simp at ht; done) | (simp at ht; omega) | omega
        refine Split.mk fun t ht => ?_
        cases t
        · first | (simp at ht; done) | (simp at ht; omega) | omega
        refine Split.mk fun t ht => ?_
        cases t
        · first | (simp at ht; done) | (simp at ht; omega) | omega
        refine ACall.mk _ _ H ?_
        refine Split.mk fun t ht => ?_
        cases t
        case true => first | (simp at ht; done) | (simp at ht; omega) | omega
        exact Need.mk ⟨[], _, .same, rfl, rfl⟩ trivial
      · have eB : d.take (mid - t) = [] := by rw [show mid - t = 0 by omega]; rfl
        have eB1 : d.drop (mid - t) = d := by rw [show mid - t = 0 by omega]; rfl
        rw [eB, eB1, mrg_nil_r] at hmrg
        have hrl : l = r := by rw [hl, hr, hmrg]; simp only [List.append_assoc]
        subst hs
        refine Split.mk fun t ht => ?_
        cases t
        case true => first | (simp at ht; done) | (simp at ht; omega) | omega
        refine Num.mk _ hend ?_
        refine Split.mk fun t ht => ?_
        cases t
        case true => first | (simp at ht; done) | (simp at ht; omega) | omega
        refine Split.mk fun t ht => ?_
        cases t
        · first | (simp at ht; done) | (simp at ht; omega) | omega
        refine Split.mk fun t ht => ?_
        cases t
        case true => first | (simp at ht; done) | (simp at ht; omega) | omega
        refine Split.mk fun t ht => ?_
        cases t
        case true => first | (simp at ht; done) | (simp at ht; omega) | omega
        exact Need.mk ⟨[], _, .same, rfl, by rw [← hrl]; rfl⟩ trivial
    · by_cases hB : mid ≤ t
      · have hsm : t = mid := by omega
        have eB : d.take (mid - t) = [] := by rw [show mid - t = 0 by omega]; rfl
        have eB1 : d.drop (mid - t) = d := by rw [show mid - t = 0 by omega]; rfl
        rw [eB, eB1, mrg_nil_r] at hmrg
        have H := ih (b - mid) (by omega) (x ++ c.take (t - a)) (c.drop (t - a)) d y l r mid (mid + m - t) b (by rw [hl, List.append_assoc x (c.take (t - a)), List.take_append_drop]) (by rw [hr, hmrg]; simp only [List.append_assoc]) (by rw [List.length_append, List.length_take]; omega) (by rw [List.length_append, List.length_take, List.length_drop]; omega) (by rw [List.length_append, List.length_take, List.length_drop]; omega) (by rw [List.length_drop]; omega) (by omega) (srt_drop sc _) sd (by rw [List.length_drop]; omega) hx
        subst hs
        refine Split.mk fun t ht => ?_
        cases t
        case true => first | (simp at ht; done) | (simp at ht; omega) | omega
        refine Num.mk _ hend ?_
        refine Split.mk fun t ht => ?_
        cases t
        · first | (simp at ht; done) | (simp at ht; omega) | omega
        refine Split.mk fun t ht => ?_
        cases t
        case true => first | (simp at ht; done) | (simp at ht; omega) | omega
        refine Split.mk fun t ht => ?_
        cases t
        · first | (simp at ht; done) | (simp at ht; omega) | omega
        refine Split.mk fun t ht => ?_
        cases t
        case true => first | (simp at ht; done) | (simp at ht; omega) | omega
        refine Split.mk fun t ht => ?_
        cases t
        · first | (simp at ht; done) | (simp at ht; omega) | omega
        refine Split.mk fun t ht => ?_
        cases t
        · first | (simp at ht; done) | (simp at ht; omega) | omega
        refine ACall.mk _ _ H ?_
        exact Need.mk ⟨[], _, .same, rfl, rfl⟩ trivial
      · have e1 : l = x ++ c.take (t - a) ++ c.drop (t - a) ++ d.take (mid - t) ++ (d.drop (mid - t) ++ y) := by
          rw [hl]
          conv => lhs; rw [← List.take_append_drop (t - a) c, ← List.take_append_drop (mid - t) d]
          simp only [List.append_assoc]
        have H1 := slices_rotate f (x ++ c.take (t - a)) (c.drop (t - a)) (d.take (mid - t)) (d.drop (mid - t) ++ y) l (x ++ c.take (t - a) ++ d.take (mid - t) ++ c.drop (t - a) ++ (d.drop (mid - t) ++ y)  ) t m (mid + m - t) e1 rfl (by rw [List.length_append, List.length_take]; omega) (by rw [List.length_append, List.length_take, List.length_drop]; omega) (by rw [List.length_append, List.length_take, List.length_drop, List.length_take]; omega) (by rw [List.length_drop]; omega) (by rw [List.length_take]; omega) hx
        have hlen1 : (x ++ c.take (t - a) ++ d.take (mid - t) ++ c.drop (t - a) ++ (d.drop (mid - t) ++ y)).length ≤ 1099511627776 := by
          simp only [List.length_append, List.length_take, List.length_drop]; omega
        by_cases hC : a < t
        · have H2 := ih (mid - a) (by omega) x (c.take (t - a)) (d.take (mid - t)) (c.drop (t - a) ++ (d.drop (mid - t) ++ y)) (x ++ c.take (t - a) ++ d.take (mid - t) ++ c.drop (t - a) ++ (d.drop (mid - t) ++ y)) (x ++ mrg lt (c.take (t - a)) (d.take (mid - t)) ++ (c.drop (t - a) ++ (d.drop (mid - t) ++ y))) a t mid (by simp only [List.append_assoc]) rfl ha (by rw [List.length_take]; omega) (by rw [List.length_take, List.length_take]; omega) (by rw [List.length_take]; omega) (by rw [List.length_take]; omega) (srt_take sc _) (srt_take sd _) (by rw [List.length_take, List.length_take]; omega) hlen1
          have hlen2 : (x ++ mrg lt (c.take (t - a)) (d.take (mid - t)) ++ (c.drop (t - a) ++ (d.drop (mid - t) ++ y))).length ≤ 1099511627776 := by
            simp only [List.length_append, List.length_take, List.length_drop, mrg_len]; omega
          by_cases hD : mid + m - t < b
          · have H3 := ih (b - mid) (by omega) (x ++ mrg lt (c.take (t - a)) (d.take (mid - t))) (c.drop (t - a)) (d.drop (mid - t)) y (x ++ mrg lt (c.take (t - a)) (d.take (mid - t)) ++ (c.drop (t - a) ++ (d.drop (mid - t) ++ y))) r mid (mid + m - t) b (by simp only [List.append_assoc]) (by rw [hr, hmrg]; simp only [List.append_assoc]) (by simp only [List.length_append, mrg_len, List.length_take]; omega) (by simp only [List.length_append, mrg_len, List.length_take, List.length_drop]; omega) (by simp only [List.length_append, mrg_len, List.length_take, List.length_drop]; omega) (by rw [List.length_drop]; omega) (by rw [List.length_drop]; omega) (srt_drop sc _) (srt_drop sd _) (by rw [List.length_drop, List.length_drop]; omega) hlen2
            subst hs
            refine Split.mk fun t ht => ?_
            cases t
            case true => first | (simp at ht; done) | (simp at ht; omega) | omega
            refine Num.mk _ hend ?_
            refine Split.mk fun t ht => ?_
            cases t
            · first | (simp at ht; done) | (simp at ht; omega) | omega
            refine Split.mk fun t ht => ?_
            cases t
            · first | (simp at ht; done) | (simp at ht; omega) | omega
            refine ACall.mk _ _ H1 ?_
            refine Split.mk fun t ht => ?_
            cases t
            · first | (simp at ht; done) | (simp at ht; omega) | omega
            refine Split.mk fun t ht => ?_
            cases t
            · first | (simp at ht; done) | (simp at ht; omega) | omega
            refine ACall.mk _ _ H2 ?_
            refine Split.mk fun t ht => ?_
            cases t
            · first | (simp at ht; done) | (simp at ht; omega) | omega
            refine Split.mk fun t ht => ?_
            cases t
            · first | (simp at ht; done) | (simp at ht; omega) | omega
            refine ACall.mk _ _ H3 ?_
            exact Need.mk ⟨[], _, .same, rfl, rfl⟩ trivial
          · have eD : d.drop (mid - t) = [] := List.drop_eq_nil_of_le (by omega)
            have hfin : x ++ mrg lt (c.take (t - a)) (d.take (mid - t)) ++ (c.drop (t - a) ++ (d.drop (mid - t) ++ y)) = r := by rw [hr, hmrg, eD, mrg_nil_r]; simp only [List.append_assoc, List.nil_append]
            rw [hfin] at H2
            subst hs
            refine Split.mk fun t ht => ?_
            cases t
            case true => first | (simp at ht; done) | (simp at ht; omega) | omega
            refine Num.mk _ hend ?_
            refine Split.mk fun t ht => ?_
            cases t
            · first | (simp at ht; done) | (simp at ht; omega) | omega
            refine Split.mk fun t ht => ?_
            cases t
            · first | (simp at ht; done) | (simp at ht; omega) | omega
            refine ACall.mk _ _ H1 ?_
            refine Split.mk fun t ht => ?_
            cases t
            · first | (simp at ht; done) | (simp at ht; omega) | omega
            refine Split.mk fun t ht => ?_
            cases t
            · first | (simp at ht; done) | (simp at ht; omega) | omega
            refine ACall.mk _ _ H2 ?_
            refine Split.mk fun t ht => ?_
            cases t
            · first | (simp at ht; done) | (simp at ht; omega) | omega
            refine Split.mk fun t ht => ?_
            cases t
            case true => first | (simp at ht; done) | (simp at ht; omega) | omega
            exact Need.mk ⟨[], _, .same, rfl, rfl⟩ trivial
        · have eC : c.take (t - a) = [] := by rw [show t - a = 0 by omega]; rfl
          have eC1 : c.drop (t - a) = c := by rw [show t - a = 0 by omega]; rfl
          rw [eC, eC1] at hmrg H1 hlen1
          rw [mrg_nil] at hmrg
          by_cases hD : mid + m - t < b
          · have H3 := ih (b - mid) (by omega) (x ++ d.take (mid - t)) c (d.drop (mid - t)) y (x ++ [] ++ d.take (mid - t) ++ c ++ (d.drop (mid - t) ++ y)) r mid (mid + m - t) b (by simp only [List.append_assoc, List.nil_append]) (by rw [hr, hmrg]; simp only [List.append_assoc]) (by simp only [List.length_append, List.length_take]; omega) (by simp only [List.length_append, List.length_take]; omega) (by simp only [List.length_append, List.length_take, List.length_drop]; omega) (by omega) (by rw [List.length_drop]; omega) sc (srt_drop sd _) (by rw [List.length_drop]; omega) hlen1
            subst hs
            refine Split.mk fun t ht => ?_
            cases t
            case true => first | (simp at ht; done) | (simp at ht; omega) | omega
            refine Num.mk _ hend ?_
            refine Split.mk fun t ht => ?_
            cases t
            · first | (simp at ht; done) | (simp at ht; omega) | omega
            refine Split.mk fun t ht => ?_
            cases t
            · first | (simp at ht; done) | (simp at ht; omega) | omega
            refine ACall.mk _ _ H1 ?_
            refine Split.mk fun t ht => ?_
            cases t
            case true => first | (simp at ht; done) | (simp at ht; omega) | omega
            refine Split.mk fun t ht => ?_
            cases t
            · first | (simp at ht; done) | (simp at ht; omega) | omega
            refine Split.mk fun t ht => ?_
            cases t
            · first | (simp at ht; done) | (simp at ht; omega) | omega
            refine ACall.mk _ _ H3 ?_
            exact Need.mk ⟨[], _, .same, rfl, rfl⟩ trivial
          · have eD : d.drop (mid - t) = [] := List.drop_eq_nil_of_le (by omega)
            have hfin : x ++ [] ++ d.take (mid - t) ++ c ++ (d.drop (mid - t) ++ y) = r := by rw [hr, hmrg, eD, mrg_nil_r]; simp only [List.append_assoc, List.nil_append]
            rw [hfin] at H1
            subst hs
            refine Split.mk fun t ht => ?_
            cases t
            case true => first | (simp at ht; done) | (simp at ht; omega) | omega
            refine Num.mk _ hend ?_
            refine Split.mk fun t ht => ?_
            cases t
            · first | (simp at ht; done) | (simp at ht; omega) | omega
            refine Split.mk fun t ht => ?_
            cases t
            · first | (simp at ht; done) | (simp at ht; omega) | omega
            refine ACall.mk _ _ H1 ?_
            refine Split.mk fun t ht => ?_
            cases t
            case true => first | (simp at ht; done) | (simp at ht; omega) | omega
            refine Split.mk fun t ht => ?_
            cases t
            · first | (simp at ht; done) | (simp at ht; omega) | omega
            refine Split.mk fun t ht => ?_
            cases t
            case true => first | (simp at ht; done) | (simp at ht; omega) | omega
            exact Need.mk ⟨[], _, .same, rfl, rfl⟩ trivial
end Go.Proofs.Yteddoandjgjleaa

namespace Go.Proofs.Yteddoandjgjleaa
open Go Go.Proofs Ev
set_option maxRecDepth 100000
set_option maxHeartbeats 8000000
theorem symMerge_lo (f : FuncId) (lt : Ent → Ent → Bool) (hw : Wk lt) (hf : CmpOk f lt) (n : Nat) (ih : ∀ k, k < n → SymM f lt k) (x c d y l r : List Ent) (a m b mid : Nat) (hl : l = x ++ c ++ d ++ y) (hr : r = x ++ mrg lt c d ++ y) (ha : a = x.length) (hm : m = x.length + c.length) (hb : b = x.length + c.length + d.length) (hc : 1 < c.length) (hd : 1 < d.length) (sc : Srt lt c) (sd : Srt lt d) (hcd : c.length + d.length ≤ n) (hx : l.length ≤ 1099511627776) (hmid : (a + b) / 2 = mid) (hwh : m ≤ mid) :
    AFn Try.prog 137 [.one (.ref 0 0 (.cell 0)), av (.int .i64 a), av (.int .i64 m), av (.int .i64 b), av (.func (.func f) #[] #[])] [[.us 82 (l.map Ent.enc)]] (.tup []) [[.us 82 (r.map Ent.enc)]] := by
  obtain ⟨ord, hord, hfn⟩ := hf
  have hll : l.length = x.length + c.length + d.length + y.length := by rw [hl]; simp; omega
  refine AFn.introX (E := En 1 (md1 [137, 143])) (en_ok 1 _) Try.func137 rfl rfl rfl fun _ hs => ?_
  have hlm : (l.map Ent.enc).length = l.length := List.length_map ..
  have gd : ∀ k (hk : k < d.length), (l.map Ent.enc)[m + k]? = some d[k].enc := fun k hk => by rw [List.getElem?_map, hl, get_r (i := k) (by omega) hk]; rfl
  have gc : ∀ k (hk : k < c.length), (l.map Ent.enc)[a + k]? = some c[k].enc := fun k hk => by rw [List.getElem?_map, hl, get_l (i := k) (by omega) hk]; rfl
  refine Num.mk ((c.length : Nat) : Int) (wrapI' (by omega) (by omega)) ?_
  refine Split.mk fun t ht => ?_
  cases t
  case true => simp at ht; omega
  refine Num.mk ((d.length : Nat) : Int) (wrapI' (by omega) (by omega)) ?_
  refine Split.mk fun t ht => ?_
  cases t
  case true => simp at ht; omega
  refine Num.mk ((a + b : Nat) : Int) (wrapI' (by omega) (by omega)) ?_
  refine Num.mk _ (wrapU (by omega)) ?_
  refine Need.mk (by decide) ?_
  refine Num.mk ((mid : Nat) : Int) (by rw [← hmid]; exact half (by omega)) ?_
  refine Num.mk ((mid + m : Nat) : Int) (wrapI' (by omega) (by omega)) ?_
  refine Split.mk fun t ht => ?_
  cases t
  case true => first | (simp at ht; done) | (simp at ht; omega) | omega
  refine Num.mk ((mid + m - 1 : Nat) : Int) (wrapI' (by omega) (by omega)) ?_
  let S : Nat → Nat → St := fun s t => ⟨some (.one (.ref 0 0 (.cell 0))) :: some (av (.int .i64 a)) :: some (av (.int .i64 m)) :: some (av (.int .i64 b)) :: some (av (.func (.func f) #[] #[])) :: none :: none :: none :: none :: none :: none :: none :: none :: none :: none :: none :: none :: none :: some (av (.int .i64 mid)) :: some (av (.int .i64 ((mid + m : Nat) : Int))) :: some (av (.int .i64 s)) :: some (av (.int .i64 t)) :: some (av (.int .i64 ((mid + m - 1 : Nat) : Int))) :: List.replicate 197 none, ⟨0, 1, some [.us 82 (l.map Ent.enc)]⟩ :: List.replicate 220 absent⟩
  refine ALoop.mk (fun n s' => ∃ s t : Nat, a ≤ s ∧ s ≤ t ∧ t ≤ m ∧ n = t - s ∧ (∀ k, a ≤ k → k < s → ∀ (i j : Nat) (hi : i < d.length) (hj : j < c.length), i + k + 1 = mid → j + a = k → lt d[i] c[j] = false) ∧ (∀ k, t ≤ k → k < m → ∀ (i j : Nat) (hi : i < d.length) (hj : j < c.length), i + k + 1 = mid → j + a = k → lt d[i] c[j] = true) ∧ s' = S s t)
    ⟨m - (a), _, Weak.nrm [true, true, true, true, true, false, false, false, false, false, false, false, false, false, false, false, false, false, true, true, true, true, true] [(0, 0)] rfl rfl rfl, a, m, Nat.le_refl _, by omega, Nat.le_refl _, rfl, by intro k hk1 hk2; omega, by intro k hk1 hk2; omega, rfl⟩ ?_
  rintro n' s' ⟨s, t, hs0, hst, htr, rfl, h1, h2, hs⟩
  by_cases hlt : s < t
  · have hk : (s + t) / 2 < m := by omega
    have hk0 : s ≤ (s + t) / 2 := by omega
    have hi0 : mid - (s + t) / 2 - 1 < d.length := by omega
    have hj0 : (s + t) / 2 - a < c.length := by omega
    have hp : IntKind.i64.wrap (((mid + m - 1 : Nat) : Int) - (((s + t) / 2 : Nat) : Int)) = ((m + (mid - (s + t) / 2 - 1) : Nat) : Int) := wrapI' (by omega) (by omega)
    have gcc : (l.map Ent.enc)[(s + t) / 2]? = some c[(s + t) / 2 - a].enc := by
      have := gc ((s + t) / 2 - a) hj0
      rwa [show a + ((s + t) / 2 - a) = (s + t) / 2 by omega] at this
    by_cases hcmp : lt d[mid - (s + t) / 2 - 1] c[(s + t) / 2 - a] = false
    · have h1' : ∀ k, a ≤ k → k < (s + t) / 2 + 1 → ∀ (i j : Nat) (hi : i < d.length) (hj : j < c.length), i + k + 1 = mid → j + a = k → lt d[i] c[j] = false := fun k hk1 hk2 i j hi hj e1 e2 => find_lo hw sc sd hi hj0 (by omega) (by omega) hcmp
      subst hs
      refine Split.mk fun t ht => ?_
      cases t
      · first | (simp at ht; done) | (simp at ht; omega) | omega
      refine Num.mk ((s + t : Nat) : Int) (wrapI' (by omega) (by omega)) ?_
      refine Num.mk _ (wrapU (by omega)) ?_
      refine Need.mk (by decide) ?_
      refine Num.mk _ (half (by omega)) ?_
      refine Num.mk _ hp ?_
      refine Need.mk ⟨by omega, by rw [hlm]; omega⟩ ?_
      refine Row.mk _ (gd _ hi0) ?_
      refine Need.mk ⟨by omega, by rw [hlm]; omega⟩ ?_
      refine Row.mk _ gcc ?_
      refine ACall.mk _ _ (hfn _ _) ?_
      refine Split.mk fun t3 ht3 => ?_
      rw [hord, hcmp] at ht3
      subst ht3
      refine Need.mk rfl ?_
      refine Num.mk _ (wrapS (by omega)) ?_
      exact ⟨t - ((s + t) / 2 + 1), _, by omega, Weak.nrm [true, true, true, true, true, false, false, false, false, false, false, false, false, false, false, false, false, false, true, true, true, true, true] [(0, 0)] rfl rfl rfl, (s + t) / 2 + 1, t, by omega, by omega, htr, rfl, h1', h2, rfl⟩
    · have hcmp : lt d[mid - (s + t) / 2 - 1] c[(s + t) / 2 - a] = true := by simpa using hcmp
      have h2' : ∀ k, (s + t) / 2 ≤ k → k < m → ∀ (i j : Nat) (hi : i < d.length) (hj : j < c.length), i + k + 1 = mid → j + a = k → lt d[i] c[j] = true := fun k hk1 hk2 i j hi hj e1 e2 => find_hi hw sc sd hi0 hj (by omega) (by omega) hcmp
      subst hs
      refine Split.mk fun t ht => ?_
      cases t
      · first | (simp at ht; done) | (simp at ht; omega) | omega
      refine Num.mk ((s + t : Nat) : Int) (wrapI' (by omega) (by omega)) ?_
      refine Num.mk _ (wrapU (by omega)) ?_
      refine Need.mk (by decide) ?_
      refine Num.mk _ (half (by omega)) ?_
      refine Num.mk _ hp ?_
      refine Need.mk ⟨by omega, by rw [hlm]; omega⟩ ?_
      refine Row.mk _ (gd _ hi0) ?_
      refine Need.mk ⟨by omega, by rw [hlm]; omega⟩ ?_
      refine Row.mk _ gcc ?_
      refine ACall.mk _ _ (hfn _ _) ?_
      refine Split.mk fun t3 ht3 => ?_
      rw [hord, hcmp] at ht3
      subst ht3
      refine Need.mk rfl ?_
      exact ⟨(s + t) / 2 - s, _, by omega, Weak.nrm [true, true, true, true, true, false, false, false, false, false, false, false, false, false, false, false, false, false, true, true, true, true, true] [(0, 0)] rfl rfl rfl, s, (s + t) / 2, hs0, by omega, by omega, rfl, h1, h2', rfl⟩
  · have hst2 : t = s := by omega
    subst hst2
    have hmrg := mrg_find hw sc sd (s := t - a) (t := mid - t) (by omega) (by omega) (fun e1 e2 => h2 t (Nat.le_refl _) (by omega) _ _ _ _ (by omega) (by omega)) (fun e1 e2 => h1 (t - 1) (by omega) (by omega) _ _ _ _ (by omega) (by omega))
    have hend : IntKind.i64.wrap (((mid + m : Nat) : Int) - ((t : Nat) : Int)) = ((mid + m - t : Nat) : Int) := wrapI' (by omega) (by omega)
    by_cases hA : m ≤ t
    · have hsm : t = m := by omega
      have eA : c.drop (t - a) = [] := List.drop_eq_nil_of_le (by omega)
      have eA1 : c.take (t - a) = c := List.take_of_length_le (by omega)
      rw [eA, eA1, mrg_nil] at hmrg
      by_cases hB : t < mid
      · have e0 : l = x ++ c ++ d.take (mid - t) ++ (d.drop (mid - t) ++ y) := by
          rw [hl]
          conv => lhs; rw [← List.take_append_drop (mid - t) d]
          simp only [List.append_assoc]
        have H := ih (mid - a) (by omega) x c (d.take (mid - t)) (d.drop (mid - t) ++ y) l r a t mid e0 (by rw [hr, hmrg]; simp only [List.append_assoc]) ha (by omega) (by rw [List.length_take]; omega) (by omega) (by rw [List.length_take]; omega) sc (srt_take sd _) (by rw [List.length_take]; omega) hx
        subst hs
        refine Split.mk fun t ht => ?_
        cases t
        case true => first | (simp at ht; done) | (simp at ht; omega) | omega
        refine Num.mk _ hend ?_
        refine Split.mk fun t ht => ?_
        cases t
        case true => first | (simp at ht; done) | (simp at ht; omega) | omega
        refine Split.mk fun t ht => ?_
        cases t
        · first | (simp at ht; done) | (simp at ht; omega) | omega
        refine Split.mk fun t ht => ?_
        cases t
        · first | (simp at ht; done) | (simp at ht; omega) | omega
        refine ACall.mk _ _ H ?_
        refine Split.mk fun t ht => ?_
        cases t
        case true => first | (simp at ht; done) | (simp at ht; omega) | omega
        exact Need.mk ⟨[], _, .same, rfl, rfl⟩ trivial
      · have eB : d.take (mid - t) = [] := by rw [show mid - t = 0 by omega]; rfl
        have eB1 : d.drop (mid - t) = d := by rw [show mid - t = 0 by omega]; rfl
        rw [eB, eB1, mrg_nil_r] at hmrg
        have hrl : l = r := by rw [hl, hr, hmrg]; simp only [List.append_assoc]
        subst hs
        refine Split.mk fun t ht => ?_
        cases t
        case true => first | (simp at ht; done) | (simp at ht; omega) | omega
        refine Num.mk _ hend ?_
        refine Split.mk fun t ht => ?_
        cases t
        case true => first | (simp at ht; done) | (simp at ht; omega) | omega
        refine Split.mk fun t ht => ?_
        cases t
        · first | (simp at ht; done) | (simp at ht; omega) | omega
        refine Split.mk fun t ht => ?_
        cases t
        case true => first | (simp at ht; done) | (simp at ht; omega) | omega
        refine Split.mk fun t ht => ?_
        cases t
        case true => first | (simp at ht; done) | (simp at ht; omega) | omega
        exact Need.mk ⟨[], _, .same, rfl, by rw [← hrl]; rfl⟩ trivial
    · by_cases hB : mid ≤ t
      · have hsm : t = mid := by omega
        have eB : d.take (mid - t) = [] := by rw [show mid - t = 0 by omega]; rfl
        have eB1 : d.drop (mid - t) = d := by rw [show mid - t = 0 by omega]; rfl
        rw [eB, eB1, mrg_nil_r] at hmrg
        have H := ih (b - mid) (by omega) (x ++ c.take (t - a)) (c.drop (t - a)) d y l r mid (mid + m - t) b (by rw [hl, List.append_assoc x (c.take (t - a)), List.take_append_drop]) (by rw [hr, hmrg]; simp only [List.append_assoc]) (by rw [List.length_append, List.length_take]; omega) (by rw [List.length_append, List.length_take, List.length_drop]; omega) (by rw [List.length_append, List.length_take, List.length_drop]; omega) (by rw [List.length_drop]; omega) (by omega) (srt_drop sc _) sd (by rw [List.length_drop]; omega) hx
        subst hs
        refine Split.mk fun t ht => ?_
        cases t
        case true => first | (simp at ht; done) | (simp at ht; omega) | omega
        refine Num.mk _ hend ?_
        refine Split.mk fun t ht => ?_
        cases t
        · first | (simp at ht; done) | (simp at ht; omega) | omega
        refine Split.mk fun t ht => ?_
        cases t
        case true => first | (simp at ht; done) | (simp at ht; omega) | omega
        refine Split.mk fun t ht => ?_
        cases t
        · first | (simp at ht; done) | (simp at ht; omega) | omega
        refine Split.mk fun t ht => ?_
        cases t
        case true => first | (simp at ht; done) | (simp at ht; omega) | omega
        refine Split.mk fun t ht => ?_
        cases t
        · first | (simp at ht; done) | (simp at ht; omega) | omega
        refine Split.mk fun t ht => ?_
        cases t
        · first | (simp at ht; done) | (simp at ht; omega) | omega
        refine ACall.mk _ _ H ?_
        exact Need.mk ⟨[], _, .same, rfl, rfl⟩ trivial
      · have e1 : l = x ++ c.take (t - a) ++ c.drop (t - a) ++ d.take (mid - t) ++ (d.drop (mid - t) ++ y) := by
          rw [hl]
          conv => lhs; rw [← List.take_append_drop (t - a) c, ← List.take_append_drop (mid - t) d]
          simp only [List.append_assoc]
        have H1 := slices_rotate f (x ++ c.take (t - a)) (c.drop (t - a)) (d.take (mid - t)) (d.drop (mid - t) ++ y) l (x ++ c.take (t - a) ++ d.take (mid - t) ++ c.drop (t - a) ++ (d.drop (mid - t) ++ y)  ) t m (mid + m - t) e1 rfl (by rw [List.length_append, List.length_take]; omega) (by rw [List.length_append, List.length_take, List.length_drop]; omega) (by rw [List.length_append, List.length_take, List.length_drop, List.length_take]; omega) (by rw [List.length_drop]; omega) (by rw [List.length_take]; omega) hx
        have hlen1 : (x ++ c.take (t - a) ++ d.take (mid - t) ++ c.drop (t - a) ++ (d.drop (mid - t) ++ y)).length ≤ 1099511627776 := by
          simp only [List.length_append, List.length_take, List.length_drop]; omega
        by_cases hC : a < t
        · have H2 := ih (mid - a) (by omega) x (c.take (t - a)) (d.take (mid - t)) (c.drop (t - a) ++ (d.drop (mid - t) ++ y)) (x ++ c.take (t - a) ++ d.take (mid - t) ++ c.drop (t - a) ++ (d.drop (mid - t) ++ y)) (x ++ mrg lt (c.take (t - a)) (d.take (mid - t)) ++ (c.drop (t - a) ++ (d.drop (mid - t) ++ y))) a t mid (by simp only [List.append_assoc]) rfl ha (by rw [List.length_take]; omega) (by rw [List.length_take, List.length_take]; omega) (by rw [List.length_take]; omega) (by rw [List.length_take]; omega) (srt_take sc _) (srt_take sd _) (by rw [List.length_take, List.length_take]; omega) hlen1
          have hlen2 : (x ++ mrg lt (c.take (t - a)) (d.take (mid - t)) ++ (c.drop (t - a) ++ (d.drop (mid - t) ++ y))).length ≤ 1099511627776 := by
            simp only [List.length_append, List.length_take, List.length_drop, mrg_len]; omega
          by_cases hD : mid + m - t < b
          · have H3 := ih (b - mid) (by omega) (x ++ mrg lt (c.take (t - a)) (d.take (mid - t))) (c.drop (t - a)) (d.drop (mid - t)) y (x ++ mrg lt (c.take (t - a)) (d.take (mid - t)) ++ (c.drop (t - a) ++ (d.drop (mid - t) ++ y))) r mid (mid + m - t) b (by simp only [List.append_assoc]) (by rw [hr, hmrg]; simp only [List.append_assoc]) (by simp only [List.length_append, mrg_len, List.length_take]; omega) (by simp only [List.length_append, mrg_len, List.length_take, List.length_drop]; omega) (by simp only [List.length_append, mrg_len, List.length_take, List.length_drop]; omega) (by rw [List.length_drop]; omega) (by rw [List.length_drop]; omega) (srt_drop sc _) (srt_drop sd _) (by rw [List.length_drop, List.length_drop]; omega) hlen2
            subst hs
            refine Split.mk fun t ht => ?_
            cases t
            case true => first | (simp at ht; done) | (simp at ht; omega) | omega
            refine Num.mk _ hend ?_
            refine Split.mk fun t ht => ?_
            cases t
            · first | (simp at ht; done) | (simp at ht; omega) | omega
            refine Split.mk fun t ht => ?_
            cases t
            · first | (simp at ht; done) | (simp at ht; omega) | omega
            refine ACall.mk _ _ H1 ?_
            refine Split.mk fun t ht => ?_
            cases t
            · first | (simp at ht; done) | (simp at ht; omega) | omega
            refine Split.mk fun t ht => ?_
            cases t
            · first | (simp at ht; done) | (simp at ht; omega) | omega
            refine ACall.mk _ _ H2 ?_
            refine Split.mk fun t ht => ?_
            cases t
            · first | (simp at ht; done) | (simp at ht; omega) | omega
            refine Split.mk fun t ht => ?_
            cases t
            · first | (simp at ht; done) | (simp at ht; omega) | omega
            refine ACall.mk _ _ H3 ?_
            exact Need.mk ⟨[], _, .same, rfl, rfl⟩ trivial
          · have eD : d.drop (mid - t) = [] := List.drop_eq_nil_of_le (by omega)
            have hfin : x ++ mrg lt (c.take (t - a)) (d.take (mid - t)) ++ (c.drop (t - a) ++ (d.drop (mid - t) ++ y)) = r := by rw [hr, hmrg, eD, mrg_nil_r]; simp only [List.append_assoc, List.nil_append]
            rw [hfin] at H2
            subst hs
            refine Split.mk fun t ht => ?_
            cases t
            case true => first | (simp at ht; done) | (simp at ht; omega) | omega
            refine Num.mk _ hend ?_
            refine Split.mk fun t ht => ?_
            cases t
            · first | (simp at ht; done) | (simp at ht; omega) | omega
            refine Split.mk fun t ht => ?_
            cases t
            · first | (simp at ht; done) | (simp at ht; omega) | omega
            refine ACall.mk _ _ H1 ?_
            refine Split.mk fun t ht => ?_
            cases t
            · first | (simp at ht; done) | (simp at ht; omega) | omega
            refine Split.mk fun t ht => ?_
            cases t
            · first | (simp at ht; done) | (simp at ht; omega) | omega
            refine ACall.mk _ _ H2 ?_
            refine Split.mk fun t ht => ?_
            cases t
            · first | (simp at ht; done) | (simp at ht; omega) | omega
            refine Split.mk fun t ht => ?_
            cases t
            case true => first | (simp at ht; done) | (simp at ht; omega) | omega
            exact Need.mk ⟨[], _, .same, rfl, rfl⟩ trivial
        · have eC : c.take (t - a) = [] := by rw [show t - a = 0 by omega]; rfl
          have eC1 : c.drop (t - a) = c := by rw [show t - a = 0 by omega]; rfl
          rw [eC, eC1] at hmrg H1 hlen1
          rw [mrg_nil] at hmrg
          by_cases hD : mid + m - t < b
          · have H3 := ih (b - mid) (by omega) (x ++ d.take (mid - t)) c (d.drop (mid - t)) y (x ++ [] ++ d.take (mid - t) ++ c ++ (d.drop (mid - t) ++ y)) r mid (mid + m - t) b (by simp only [List.append_assoc, List.nil_append]) (by rw [hr, hmrg]; simp only [List.append_assoc]) (by simp only [List.length_append, List.length_take]; omega) (by simp only [List.length_append, List.length_take]; omega) (by simp only [List.length_append, List.length_take, List.length_drop]; omega) (by omega) (by rw [List.length_drop]; omega) sc (srt_drop sd _) (by rw [List.length_drop]; omega) hlen1
            subst hs
            refine Split.mk fun t ht => ?_
            cases t
            case true => first | (simp at ht; done) | (simp at ht; omega) | omega
            refine Num.mk _ hend ?_
            refine Split.mk fun t ht => ?_
            cases t
            · first | (simp at ht; done) | (simp at ht; omega) | omega
            refine Split.mk fun t ht => ?_
            cases t
            · first | (simp at ht; done) | (simp at ht; omega) | omega
            refine ACall.mk _ _ H1 ?_
            refine Split.mk fun t ht => ?_
            cases t
            case true => first | (simp at ht; done) | (simp at ht; omega) | omega
            refine Split.mk fun t ht => ?_
            cases t
            · first | (simp at ht; done) | (simp at ht; omega) | omega
            refine Split.mk fun t ht => ?_
            cases t
            · first | (simp at ht; done) | (simp at ht; omega) | omega
            refine ACall.mk _ _ H3 ?_
            exact Need.mk ⟨[], _, .same, rfl, rfl⟩ trivial
          · have eD : d.drop (mid - t) = [] := List.drop_eq_nil_of_le (by omega)
            have hfin : x ++ [] ++ d.take (mid - t) ++ c ++ (d.drop (mid - t) ++ y) = r := by rw [hr, hmrg, eD, mrg_nil_r]; simp only [List.append_assoc, List.nil_append]
            rw [hfin] at H1
            subst hs
            refine Split.mk fun t ht => ?_
            cases t
            case true => first | (simp at ht; done) | (simp at ht; omega) | omega
            refine Num.mk _ hend ?_
            refine Split.mk fun t ht => ?_
            cases t
            · first | (simp at ht; done) | (simp at ht; omega) | omega
            refine Split.mk fun t ht => ?_
            cases t
            · first | (simp at ht; done) | (simp at ht; omega) | omega
            refine ACall.mk _ _ H1 ?_
            refine Split.mk fun t ht => ?_
            cases t
            case true => first | (simp at ht; done) | (simp at ht; omega) | omega
            refine Split.mk fun t ht => ?_
            cases t
            · first | (simp at ht; done) | (simp at ht; omega) | omega
            refine Split.mk fun t ht => ?_
            cases t
            case true => first | (simp at ht; done) | (simp at ht; omega) | omega
            exact Need.mk ⟨[], _, .same, rfl, rfl⟩ trivial
end Go.Proofs.Yteddoandjgjleaa

namespace Go.Proofs.Yteddoandjgjleaa
open Go Go.Proofs Ev
set_option maxRecDepth 100000
theorem slices_symMerge (f : FuncId) (lt : Ent → Ent → Bool) (hw : Wk lt) (hf : CmpOk f lt) : ∀ n, SymM f lt n := by
  intro n
  induction n using Nat.strongRecOn with
  | _ n ih =>
    intro x c d y l r a m b hl hr ha hm hb hc hd sc sd hcd hx
    by_cases h1 : c.length = 1
    · exact symMerge_left f lt hw hf x c d y l r a m b hl hr ha hm hb h1 hd sd hx
    · by_cases h2 : d.length = 1
      · exact symMerge_right f lt hw hf x c d y l r a m b hl hr ha hm hb (by omega) h2 sc hx
      · by_cases h3 : (a + b) / 2 < m
        · exact symMerge_hi f lt hw hf n ih x c d y l r a m b _ hl hr ha hm hb (by omega) (by omega) sc sd hcd hx rfl h3
        · exact symMerge_lo f lt hw hf n ih x c d y l r a m b _ hl hr ha hm hb (by omega) (by omega) sc sd hcd hx rfl (by omega)
end Go.Proofs.Yteddoandjgjleaa

namespace Go.Proofs.Yteddoandjgjleaa
open Go Go.Proofs Ev
set_option maxRecDepth 100000
theorem ins_call (f : FuncId) (lt : Ent → Ent → Bool) (hf : CmpOk f lt) (l r : List Ent) (a b : Nat) (hr : r = sortRange lt l a b) (hab : a ≤ b) (hb : b ≤ l.length) (hx : l.length ≤ 1099511627776) :
    AFn Try.prog 136 [.one (.ref 0 0 (.cell 0)), av (.int .i64 a), av (.int .i64 b), av (.func (.func f) #[] #[])] [[.us 82 (l.map Ent.enc)]] (.tup []) [[.us 82 (r.map Ent.enc)]] := by
  subst hr; exact slices_insertionSort f lt hf l a b hab hb hx
set_option maxHeartbeats 2000000
theorem slices_stable (f : FuncId) (lt : Ent → Ent → Bool) (hw : Wk lt) (hf : CmpOk f lt) (xs : List Ent) (n : Nat) (hn : n = xs.length) (hx : xs.length ≤ 1099511627776) :
    AFn Try.prog 125 [.one (.ref 0 0 (.cell 0)), av (.int .i64 n), av (.func (.func f) #[] #[])] [[.us 82 (xs.map Ent.enc)]] (.tup []) [[.us 82 ((isort lt xs).map Ent.enc)]] := by
  refine AFn.introX (E := En 1 (md1 [137, 136])) (en_ok 1 _) Try.func125 rfl rfl rfl fun _ hs => ?_
  let S : List Ent → Nat → Option AV → Option AV → St := fun ys w a b => ⟨some (.one (.ref 0 0 (.cell 0))) :: some (av (.int .i64 n)) :: some (av (.func (.func f) #[] #[])) :: none :: none :: none :: some (av (.int .i64 w)) :: a :: b :: List.replicate 54 none, ⟨0, 1, some [.us 82 (ys.map Ent.enc)]⟩ :: List.replicate 63 absent⟩
  refine ALoop.mk (fun k s => ∃ j : Nat, 20 * j ≤ n ∧ k = n - 20 * j ∧ s = S (sb lt 20 j xs ++ xs.drop (20 * j)) 20 (some (av (.int .i64 ((20 * j : Nat) : Int)))) (some (av (.int .i64 ((20 * j + 20 : Nat) : Int)))))
    ⟨n, _, Weak.nrm [true, true, true, false, false, false, true, true, true] [(0, 0)] rfl rfl rfl, 0, Nat.zero_le _, rfl, rfl⟩ ?_
  rintro k s ⟨j, hj, rfl, hs⟩
  have hsl : (sb lt 20 j xs).length = 20 * j := sb_len lt 20 j xs (by omega)
  have hyl : (sb lt 20 j xs ++ xs.drop (20 * j)).length = xs.length := by rw [List.length_append, hsl, List.length_drop]; omega
  by_cases hb : 20 * j + 20 ≤ n
  · have H := ins_call f lt hf (sb lt 20 j xs ++ xs.drop (20 * j)) (sb lt 20 (j + 1) xs ++ xs.drop (20 * (j + 1))) (20 * j) (20 * j + 20) (by rw [sortRange_app lt hsl.symm (by omega), sb_snoc, List.drop_drop, show 20 * j + 20 - 20 * j = 20 by omega, show 20 * j + 20 = 20 * (j + 1) by omega]) (by omega) (by rw [hyl]; omega) (by rw [hyl]; exact hx)
    subst hs
    refine Split.mk fun t ht => ?_
    cases t
    · simp at ht; omega
    refine ACall.mk _ _ H ?_
    refine Num.mk ((20 * j + 20 + 20 : Nat) : Int) (wrapI' (by omega) (by omega)) ?_
    exact ⟨n - 20 * (j + 1), _, by omega, Weak.nrm [true, true, true, false, false, false, true, true, true] [(0, 0)] rfl rfl rfl, j + 1, by omega, rfl, rfl⟩
  · have H := ins_call f lt hf (sb lt 20 j xs ++ xs.drop (20 * j)) (tl lt 20 xs) (20 * j) n (by
      have e1 : (xs.drop (20 * j)).take (n - 20 * j) = xs.drop (20 * j) := List.take_of_length_le (by rw [List.length_drop]; omega)
      have e2 : (xs.drop (20 * j)).drop (n - 20 * j) = [] := List.drop_eq_nil_of_le (by rw [List.length_drop]; omega)
      rw [sortRange_app lt hsl.symm (by omega), e1, e2, List.append_nil, ← sb_tl lt (w := 20) (by omega) j xs, tl_short lt (w := 20) (by omega) (by rw [List.length_drop]; omega)]) (by omega) (by rw [hyl]; omega) (by rw [hyl]; exact hx)
    subst hs
    refine Split.mk fun t ht => ?_
    cases t
    case true => simp at ht; omega
    refine ACall.mk _ _ H ?_
    refine ALoop.mk (fun k s => ∃ w : Nat, 20 ≤ w ∧ (w < 2 * n ∨ w = 20) ∧ k = n - w ∧ s = S (tl lt w xs) w none none)
      ⟨n - 20, _, Weak.nrm [true, true, true, false, false, false, true] [(0, 0)] rfl rfl rfl, 20, Nat.le_refl _, .inr rfl, rfl, rfl⟩ ?_
    rintro k s ⟨w, hw20, hw2, rfl, hs⟩
    by_cases hwn : n ≤ w
    · rw [tl_short lt (by omega) (by omega)] at hs
      subst hs
      refine Split.mk fun t ht => ?_
      cases t
      · exact Need.mk ⟨[], _, .same, rfl, rfl⟩ trivial
      · simp at ht; omega
    · subst hs
      refine Split.mk fun t ht => ?_
      cases t
      · simp at ht; omega
      refine Num.mk ((2 * w : Nat) : Int) (wrapI' (by omega) (by omega)) ?_
      refine ALoop.mk (fun k s => ∃ j p : Nat, p = 2 * w * j ∧ p ≤ n ∧ k = n - p ∧ s = S (sb lt (2 * w) j xs ++ tl lt w (xs.drop (p))) w (some (av (.int .i64 ((p : Nat) : Int)))) (some (av (.int .i64 ((p + 2 * w : Nat) : Int)))))
        ⟨n, _, Weak.nrm [true, true, true, false, false, false, true, true, true] [(0, 0)] rfl rfl rfl, 0, 0, rfl, Nat.zero_le _, rfl, by rw [Nat.zero_add]; rfl⟩ ?_
      rintro k s ⟨j, p, hp, hj, rfl, hs⟩
      have hsl : (sb lt (2 * w) j xs).length = p := hp ▸ sb_len lt (2 * w) j xs (by rw [← hp]; omega)
      have htl : (tl lt w (xs.drop (p))).length = xs.length - p := by rw [tl_len lt (by omega) _ _ (Nat.le_refl _), List.length_drop]
      have hyl : (sb lt (2 * w) j xs ++ tl lt w (xs.drop (p))).length = xs.length := by rw [List.length_append, hsl, htl]; omega
      have hmul : p + 2 * w = 2 * w * (j + 1) := by rw [hp]; exact (Nat.mul_succ _ _).symm
      have c1 := tl_cons lt (w := w) (by omega) (xs.drop (p))
      by_cases hb : p + 2 * w ≤ n
      · have c2 := tl_cons lt (w := w) (by omega) ((xs.drop (p)).drop w)
        have hlen1 : ((xs.drop (p)).take w).length = w := by rw [List.length_take, List.length_drop]; omega
        have hlen2 : (((xs.drop (p)).drop w).take w).length = w := by rw [List.length_take, List.length_drop, List.length_drop]; omega
        have htk : (xs.drop (p)).take (2 * w) = (xs.drop (p)).take w ++ ((xs.drop (p)).drop w).take w := by rw [← List.take_add, show w + w = 2 * w by omega]
        have e3 : ((xs.drop (p)).drop w).drop w = xs.drop (p + 2 * w) := by rw [List.drop_drop, List.drop_drop]; congr 1; omega
        have H := slices_symMerge f lt hw hf (2 * w) (sb lt (2 * w) j xs) (isort lt ((xs.drop (p)).take w)) (isort lt (((xs.drop (p)).drop w).take w)) (tl lt w (((xs.drop (p)).drop w).drop w)) (sb lt (2 * w) j xs ++ tl lt w (xs.drop (p))) (sb lt (2 * w) (j + 1) xs ++ tl lt w (xs.drop (p + 2 * w))) (p) (p + w) (p + 2 * w)
          (by rw [c1, c2]; simp only [List.append_assoc]) (by rw [sb_snoc, ← hp, htk, isort_app hw, e3]) hsl.symm (by rw [isort_len]; omega) (by rw [isort_len, isort_len]; omega) (by rw [isort_len]; omega) (by rw [isort_len]; omega) (srt_isort hw _) (srt_isort hw _) (by rw [isort_len, isort_len]; omega) (by rw [hyl]; exact hx)
        subst hs
        refine Split.mk fun t ht => ?_
        cases t
        · simp at ht; omega
        refine Num.mk ((p + w : Nat) : Int) (wrapI' (by omega) (by omega)) ?_
        refine ACall.mk _ _ H ?_
        refine Num.mk ((2 * w : Nat) : Int) (wrapI' (by omega) (by omega)) ?_
        refine Num.mk ((p + 2 * w + 2 * w : Nat) : Int) (wrapI' (by omega) (by omega)) ?_
        refine ⟨n - (p + 2 * w), _, by omega, Weak.nrm [true, true, true, false, false, false, true, true, true] [(0, 0)] rfl rfl rfl, j + 1, p + 2 * w, hmul, by omega, rfl, rfl⟩
      · have fin : sb lt (2 * w) j xs ++ tl lt (2 * w) (xs.drop (p)) = tl lt (2 * w) xs := hp ▸ sb_tl lt (by omega) j xs
        rw [tl_short lt (w := 2 * w) (by omega) (by rw [List.length_drop]; omega)] at fin
        by_cases hm : p + w < n
        · have c2 := tl_short lt (w := w) (by omega) (l := (xs.drop (p)).drop w) (by rw [List.length_drop, List.length_drop]; omega)
          have hlen1 : ((xs.drop (p)).take w).length = w := by rw [List.length_take, List.length_drop]; omega
          have hlen2 : ((xs.drop (p)).drop w).length = n - (p + w) := by rw [List.length_drop, List.length_drop]; omega
          have H := slices_symMerge f lt hw hf (2 * w) (sb lt (2 * w) j xs) (isort lt ((xs.drop (p)).take w)) (isort lt ((xs.drop (p)).drop w)) [] (sb lt (2 * w) j xs ++ tl lt w (xs.drop (p))) (tl lt (2 * w) xs) (p) (p + w) n
            (by rw [c1, c2]; simp only [List.append_assoc, List.append_nil]) (by rw [← isort_app hw, List.take_append_drop, List.append_nil, fin]) hsl.symm (by rw [isort_len]; omega) (by rw [isort_len, isort_len]; omega) (by rw [isort_len]; omega) (by rw [isort_len]; omega) (srt_isort hw _) (srt_isort hw _) (by rw [isort_len, isort_len]; omega) (by rw [hyl]; exact hx)
          subst hs
          refine Split.mk fun t ht => ?_
          cases t
          case true => simp at ht; omega
          refine Num.mk ((p + w : Nat) : Int) (wrapI' (by omega) (by omega)) ?_
          refine Split.mk fun t ht => ?_
          cases t
          · simp at ht; omega
          refine ACall.mk _ _ H ?_
          refine Num.mk ((2 * w : Nat) : Int) (wrapI' (by omega) (by omega)) ?_
          exact ⟨n - 2 * w, _, by omega, Weak.nrm [true, true, true, false, false, false, true] [(0, 0)] rfl rfl rfl, 2 * w, by omega, .inl (by omega), rfl, rfl⟩
        · rw [tl_short lt (w := w) (by omega) (by rw [List.length_drop]; omega), fin] at hs
          subst hs
          refine Split.mk fun t ht => ?_
          cases t
          case true => simp at ht; omega
          refine Num.mk ((p + w : Nat) : Int) (wrapI' (by omega) (by omega)) ?_
          refine Split.mk fun t ht => ?_
          cases t
          case true => simp at ht; omega
          refine Num.mk ((2 * w : Nat) : Int) (wrapI' (by omega) (by omega)) ?_
          exact ⟨n - 2 * w, _, by omega, Weak.nrm [true, true, true, false, false, false, true] [(0, 0)] rfl rfl rfl, 2 * w, by omega, .inl (by omega), rfl, rfl⟩
theorem slices_SortStable (f : FuncId) (lt : Ent → Ent → Bool) (hw : Wk lt) (hf : CmpOk f lt) (xs : List Ent) (hx : xs.length ≤ 1099511627776) :
    AFn Try.prog 90 [.one (.ref 0 0 (.cell 0)), av (.func (.func f) #[] #[])] [[.us 82 (xs.map Ent.enc)]] (.tup []) [[.us 82 ((isort lt xs).map Ent.enc)]] := by
  refine AFn.introX (E := En 1 (md1 [125])) (en_ok 1 _) Try.func90 rfl rfl rfl fun _ hs => ?_
  refine ACall.mk _ _ (slices_stable f lt hw hf xs (xs.map Ent.enc).length (List.length_map ..) hx) ?_
  exact Need.mk ⟨[], _, .same, rfl, rfl⟩ trivial
end Go.Proofs.Yteddoandjgjleaa
