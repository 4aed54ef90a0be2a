/-
  Contracts of functions, part 3.
-/
import Derived.Test.YtlmdheeammfihaaTFnRunFindB
namespace Go.Proofs.Ytlmdheeammfihaa
open Go Go.Proofs Ev
set_option maxRecDepth 100000
set_option maxHeartbeats 4000000
def drawM : List Int := [1, -1, 65536]
def aEnt : Ent := ⟨⟨#[97]⟩, 1, 1, ⟨#[]⟩, 2⟩
theorem l4_Draw1 (bs : List Nat) (p q0 : Nat) (G : List Ent) (hb : OkB bs) (hp : p ≤ 980000) (hq0 : q0 ≤ p + 100) (hG0 : 0 < G.length) (hGn : G.length ≤ 12) (hG : ∀ e ∈ G, DE e)
    (hE : AFnK Try.prog 79 [.bx 0 0, av (.int .i64 (12 : Nat))] [rd bs p] [0] (.one (.us 32 (G.map Ent.enc))) [rd bs q0]) :
    ∃ (r : Rn) (q : Nat), AFnK Try.prog 53 [.bx 0 0] [rd bs p] [0] (.agg (encO r)) [rd bs q] ∧ q ≤ p + 200 ∧ r.ents.length ≤ 20 ∧ (∀ e ∈ r.ents, DE e) ∧ I64 r.mask := by
  have hGl : (G.map Ent.enc).length = G.length := List.length_map ..
  have hmk := rmask_lt G
  have hR := spec_l4RunO G (fun e he => (hG e he).ok) (by omega)
  have hk : pickV bs q0 G.length < G.length := pickV_lt hG0
  have hP := l9_pick bs q0 G.length hb (by omega) (by omega)
  have hP2 := l9_pick bs (q0 + 1) 50 hb (by omega) (by omega)
  have hex : ∃ k, pickV bs q0 G.length = k := ⟨_, rfl⟩
  obtain ⟨k, hkk⟩ := hex
  rw [hkk] at hP hk
  rw [← hGl] at hP
  have hkn : (0 : Int) ≤ (k : Int) ∧ (k : Int) < ((G.map Ent.enc).length : Nat) := by rw [hGl]; omega
  have hex : ∃ c, pickV bs (q0 + 1) 50 = c := ⟨_, rfl⟩
  obtain ⟨c, hcc⟩ := hex
  rw [hcc] at hP2
  by_cases h0 : c = 0
  · subst h0
    have hO := l9_num bs (q0 + 2) drawM hb (by omega) (by decide) (by decide)
    have hm : drawM.getD (pickV bs (q0 + 2) drawM.length) 0 ∈ drawM := getD_mem (pickV_lt (by decide))
    have hex : ∃ s, drawM.getD (pickV bs (q0 + 2) drawM.length) 0 = s := ⟨_, rfl⟩
    obtain ⟨s, hs⟩ := hex
    rw [hs] at hO hm
    have hs2 : -1 ≤ s ∧ s ≤ 65536 := by
      simp only [drawM, List.mem_cons, List.not_mem_nil, or_false] at hm
      omega
    refine ⟨⟨G, (rmask G : Nat) + s⟩, q0 + 3, ?_, by omega, by show G.length ≤ 20; omega, hG, ⟨by show _ ≤ (rmask G : Int) + s; omega, by show (rmask G : Int) + s ≤ _; omega⟩⟩
    refine AFnK.introX (E := En 1 (mdv [116] [80]) (vw := [3])) (en_ok 1 _ _ _ _) Try.func53 rfl rfl rfl fun _ _ => ?_
    refine ACall.mk _ _ hE ?_
    refine Split.mk fun t ht => ?_
    cases t
    case true => rw [beq_iff_eq] at ht; omega
    refine Need.mk ⟨rfl, rfl⟩ ?_
    refine ACall.mk _ _ hR ?_
    refine ACall.mk _ _ hP ?_
    refine ACall.mk _ _ hP2 ?_
    refine Split.mk fun t ht => ?_
    cases t
    · cases ht
    refine Fz.mk _ (frzI drawM) ?_
    refine ACall.mk _ _ hO ?_
    refine Num.mk ((rmask G : Nat) + s) (wrapI (by omega) (by omega)) ?_
    refine Need.mk rfl ?_
    exact Need.mk ⟨[], _, .same, rfl, rfl⟩ trivial
  by_cases h1 : c = 1
  · subst h1
    obtain ⟨e1, q1, hB1, g1, d1⟩ := l3_Bent bs (q0 + 2) G[k] hb (by omega) (hG _ (List.getElem_mem hk))
    obtain ⟨e2, q2, hB2, g2, d2⟩ := l3_Bent bs q1 e1 hb (by omega) d1
    obtain ⟨e3, q3, hB3, g3, d3⟩ := l3_Bent bs q2 e2 hb (by omega) d2
    refine ⟨⟨G.set k e3, (rmask G : Nat)⟩, q3, ?_, by omega, by show (G.set k e3).length ≤ 20; rw [List.length_set]; omega, fun e he => ?_, ⟨by show _ ≤ (rmask G : Int); omega, by show (rmask G : Int) ≤ _; omega⟩⟩
    case refine_2 =>
      rcases List.mem_or_eq_of_mem_set he with h | h
      · exact hG e h
      · subst h; exact d3
    refine AFnK.introX (E := En 1 (mdv [116] [80]) (vw := [3])) (en_ok 1 _ _ _ _) Try.func53 rfl rfl rfl fun _ _ => ?_
    refine ACall.mk _ _ hE ?_
    refine Split.mk fun t ht => ?_
    cases t
    case true => rw [beq_iff_eq] at ht; omega
    refine Need.mk ⟨rfl, rfl⟩ ?_
    refine ACall.mk _ _ hR ?_
    refine ACall.mk _ _ hP ?_
    refine ACall.mk _ _ hP2 ?_
    refine Split.mk fun t ht => ?_
    cases t
    case true => cases ht
    refine Split.mk fun t ht => ?_
    cases t
    · cases ht
    refine Need.mk hkn ?_
    refine Row.mk _ (map_get _ G k hk) ?_
    refine ACall.mk _ _ hB1 ?_
    refine ACall.mk _ _ hB2 ?_
    refine ACall.mk _ _ hB3 ?_
    refine Need.mk hkn ?_
    refine Row.mk _ (map_get _ G k hk) ?_
    refine Need.mk rfl ?_
    refine Need.mk ⟨[], _, .same, ?_, rfl⟩ trivial
    exact congrArg (fun R => RV.agg [.us 32 R, vi (rmask G : Nat)]) (List.map_set ..).symm
  by_cases h2 : c = 2
  · subst h2
    refine ⟨⟨G ++ [G[k]], (rmask G : Nat)⟩, q0 + 2, ?_, by omega, by show (G ++ [G[k]]).length ≤ 20; rw [List.length_append]; simp <;> omega, fun e he => ?_, ⟨by show _ ≤ (rmask G : Int); omega, by show (rmask G : Int) ≤ _; omega⟩⟩
    case refine_2 =>
      rcases List.mem_append.1 he with h | h
      · exact hG e h
      · rw [List.mem_singleton.1 h]; exact hG _ (List.getElem_mem hk)
    refine AFnK.introX (E := En 1 (mdv [116] [80]) (vw := [3])) (en_ok 1 _ _ _ _) Try.func53 rfl rfl rfl fun _ _ => ?_
    refine ACall.mk _ _ hE ?_
    refine Split.mk fun t ht => ?_
    cases t
    case true => rw [beq_iff_eq] at ht; omega
    refine Need.mk ⟨rfl, rfl⟩ ?_
    refine ACall.mk _ _ hR ?_
    refine ACall.mk _ _ hP ?_
    refine ACall.mk _ _ hP2 ?_
    refine Split.mk fun t ht => ?_
    cases t
    case true => cases ht
    refine Split.mk fun t ht => ?_
    cases t
    case true => cases ht
    refine Split.mk fun t ht => ?_
    cases t
    · cases ht
    refine Need.mk hkn ?_
    refine Row.mk _ (map_get _ G k hk) ?_
    refine Need.mk (sizeOk _ _ G [G[k]] rfl rfl (by simp <;> omega)) ?_
    refine Need.mk rfl ?_
    refine Need.mk ⟨[], _, .same, ?_, rfl⟩ trivial
    refine congrArg (fun R => RV.agg [.us 32 R, vi (rmask G : Nat)]) (?_ : G.map Ent.enc ++ [G[k].enc] = _)
    rw [List.map_append]; rfl
  by_cases h3 : c = 3
  · subst h3
    refine ⟨⟨[], (rmask G : Nat)⟩, q0 + 2, ?_, by omega, by exact Nat.zero_le _, fun e he => (nomatch he), ⟨by show _ ≤ (rmask G : Int); omega, by show (rmask G : Int) ≤ _; omega⟩⟩
    refine AFnK.introX (E := En 1 (mdv [116] [80]) (vw := [3])) (en_ok 1 _ _ _ _) Try.func53 rfl rfl rfl fun _ _ => ?_
    refine ACall.mk _ _ hE ?_
    refine Split.mk fun t ht => ?_
    cases t
    case true => rw [beq_iff_eq] at ht; omega
    refine Need.mk ⟨rfl, rfl⟩ ?_
    refine ACall.mk _ _ hR ?_
    refine ACall.mk _ _ hP ?_
    refine ACall.mk _ _ hP2 ?_
    refine Split.mk fun t ht => ?_
    cases t
    case true => cases ht
    refine Split.mk fun t ht => ?_
    cases t
    case true => cases ht
    refine Split.mk fun t ht => ?_
    cases t
    case true => cases ht
    refine Split.mk fun t ht => ?_
    cases t
    · cases ht
    exact Need.mk ⟨[], _, .same, rfl, rfl⟩ trivial
  by_cases h4 : c = 4
  · subst h4
    refine ⟨⟨G, 65535⟩, q0 + 2, ?_, by omega, by show G.length ≤ 20; omega, hG, by show I64 65535; exact ⟨by decide, by decide⟩⟩
    refine AFnK.introX (E := En 1 (mdv [116] [80]) (vw := [3])) (en_ok 1 _ _ _ _) Try.func53 rfl rfl rfl fun _ _ => ?_
    refine ACall.mk _ _ hE ?_
    refine Split.mk fun t ht => ?_
    cases t
    case true => rw [beq_iff_eq] at ht; omega
    refine Need.mk ⟨rfl, rfl⟩ ?_
    refine ACall.mk _ _ hR ?_
    refine ACall.mk _ _ hP ?_
    refine ACall.mk _ _ hP2 ?_
    refine Split.mk fun t ht => ?_
    cases t
    case true => cases ht
    refine Split.mk fun t ht => ?_
    cases t
    case true => cases ht
    refine Split.mk fun t ht => ?_
    cases t
    case true => cases ht
    refine Split.mk fun t ht => ?_
    cases t
    case true => cases ht
    refine Split.mk fun t ht => ?_
    cases t
    · cases ht
    exact Need.mk ⟨[], _, .same, rfl, rfl⟩ trivial
  · skip
    refine ⟨⟨G, (rmask G : Nat)⟩, q0 + 2, ?_, by omega, by show G.length ≤ 20; omega, hG, ⟨by show _ ≤ (rmask G : Int); omega, by show (rmask G : Int) ≤ _; omega⟩⟩
    refine AFnK.introX (E := En 1 (mdv [116] [80]) (vw := [3])) (en_ok 1 _ _ _ _) Try.func53 rfl rfl rfl fun _ _ => ?_
    refine ACall.mk _ _ hE ?_
    refine Split.mk fun t ht => ?_
    cases t
    case true => rw [beq_iff_eq] at ht; omega
    refine Need.mk ⟨rfl, rfl⟩ ?_
    refine ACall.mk _ _ hR ?_
    refine ACall.mk _ _ hP ?_
    refine ACall.mk _ _ hP2 ?_
    refine Split.mk fun t ht => ?_
    cases t
    case true => rw [beq_iff_eq] at ht; omega
    refine Split.mk fun t ht => ?_
    cases t
    case true => rw [beq_iff_eq] at ht; omega
    refine Split.mk fun t ht => ?_
    cases t
    case true => rw [beq_iff_eq] at ht; omega
    refine Split.mk fun t ht => ?_
    cases t
    case true => rw [beq_iff_eq] at ht; omega
    refine Split.mk fun t ht => ?_
    cases t
    case true => rw [beq_iff_eq] at ht; omega
    exact Need.mk ⟨[], _, .same, rfl, rfl⟩ trivial
theorem l4_Draw0 (bs : List Nat) (p q0 : Nat) (hb : OkB bs) (hp : p ≤ 980000) (hq0 : q0 ≤ p + 100)
    (hE : AFnK Try.prog 79 [.bx 0 0, av (.int .i64 (12 : Nat))] [rd bs p] [0] (.one (.us 32 (([] : List Ent).map Ent.enc))) [rd bs q0]) :
    ∃ (r : Rn) (q : Nat), AFnK Try.prog 53 [.bx 0 0] [rd bs p] [0] (.agg (encO r)) [rd bs q] ∧ q ≤ p + 200 ∧ r.ents.length ≤ 20 ∧ (∀ e ∈ r.ents, DE e) ∧ I64 r.mask := by
  have hex : ∃ G : List Ent, G = [aEnt] := ⟨_, rfl⟩
  obtain ⟨G, hGe⟩ := hex
  have hG0 : 0 < G.length := by rw [hGe]; decide
  have hGn : G.length ≤ 12 := by rw [hGe]; decide
  have hG : ∀ e ∈ G, DE e := fun e he => by
    rw [hGe] at he; rw [List.mem_singleton.1 he]
    exact ⟨by decide, by decide, ⟨by decide, by decide⟩, ⟨by decide, by decide⟩, ⟨by decide, by decide⟩, by decide⟩
  have hGl : (G.map Ent.enc).length = G.length := List.length_map ..
  have hmk := rmask_lt G
  have hR := spec_l4RunO G (fun e he => (hG e he).ok) (by omega)
  have hk : pickV bs q0 G.length < G.length := pickV_lt hG0
  have hP := l9_pick bs q0 G.length hb (by omega) (by omega)
  have hP2 := l9_pick bs (q0 + 1) 50 hb (by omega) (by omega)
  have hex : ∃ k, pickV bs q0 G.length = k := ⟨_, rfl⟩
  obtain ⟨k, hkk⟩ := hex
  rw [hkk] at hP hk
  rw [← hGl] at hP
  have hkn : (0 : Int) ≤ (k : Int) ∧ (k : Int) < ((G.map Ent.enc).length : Nat) := by rw [hGl]; omega
  have hex : ∃ c, pickV bs (q0 + 1) 50 = c := ⟨_, rfl⟩
  obtain ⟨c, hcc⟩ := hex
  rw [hcc] at hP2
  subst hGe
  by_cases h0 : c = 0
  · subst h0
    have hO := l9_num bs (q0 + 2) drawM hb (by omega) (by decide) (by decide)
    have hm : drawM.getD (pickV bs (q0 + 2) drawM.length) 0 ∈ drawM := getD_mem (pickV_lt (by decide))
    have hex : ∃ s, drawM.getD (pickV bs (q0 + 2) drawM.length) 0 = s := ⟨_, rfl⟩
    obtain ⟨s, hs⟩ := hex
    rw [hs] at hO hm
    have hs2 : -1 ≤ s ∧ s ≤ 65536 := by
      simp only [drawM, List.mem_cons, List.not_mem_nil, or_false] at hm
      omega
    refine ⟨⟨[aEnt], (rmask [aEnt] : Nat) + s⟩, q0 + 3, ?_, by omega, by show [aEnt].length ≤ 20; omega, hG, ⟨by show _ ≤ (rmask [aEnt] : Int) + s; omega, by show (rmask [aEnt] : Int) + s ≤ _; omega⟩⟩
    refine AFnK.introX (E := En 1 (mdv [116] [80]) (vw := [3])) (en_ok 1 _ _ _ _) Try.func53 rfl rfl rfl fun _ _ => ?_
    refine ACall.mk _ _ hE ?_
    refine Split.mk fun t ht => ?_
    cases t
    · cases ht
    refine Need.mk ⟨rfl, rfl⟩ ?_
    refine ACall.mk _ _ hR ?_
    refine ACall.mk _ _ hP ?_
    refine ACall.mk _ _ hP2 ?_
    refine Split.mk fun t ht => ?_
    cases t
    · cases ht
    refine Fz.mk _ (frzI drawM) ?_
    refine ACall.mk _ _ hO ?_
    refine Num.mk ((rmask [aEnt] : Nat) + s) (wrapI (by omega) (by omega)) ?_
    refine Need.mk rfl ?_
    exact Need.mk ⟨[], _, .same, rfl, rfl⟩ trivial
  by_cases h1 : c = 1
  · subst h1
    obtain ⟨e1, q1, hB1, g1, d1⟩ := l3_Bent bs (q0 + 2) [aEnt][k] hb (by omega) (hG _ (List.getElem_mem hk))
    obtain ⟨e2, q2, hB2, g2, d2⟩ := l3_Bent bs q1 e1 hb (by omega) d1
    obtain ⟨e3, q3, hB3, g3, d3⟩ := l3_Bent bs q2 e2 hb (by omega) d2
    refine ⟨⟨[aEnt].set k e3, (rmask [aEnt] : Nat)⟩, q3, ?_, by omega, by show ([aEnt].set k e3).length ≤ 20; rw [List.length_set]; omega, fun e he => ?_, ⟨by show _ ≤ (rmask [aEnt] : Int); omega, by show (rmask [aEnt] : Int) ≤ _; omega⟩⟩
    case refine_2 =>
      rcases List.mem_or_eq_of_mem_set he with h | h
      · exact hG e h
      · subst h; exact d3
    refine AFnK.introX (E := En 1 (mdv [116] [80]) (vw := [3])) (en_ok 1 _ _ _ _) Try.func53 rfl rfl rfl fun _ _ => ?_
    refine ACall.mk _ _ hE ?_
    refine Split.mk fun t ht => ?_
    cases t
    · cases ht
    refine Need.mk ⟨rfl, rfl⟩ ?_
    refine ACall.mk _ _ hR ?_
    refine ACall.mk _ _ hP ?_
    refine ACall.mk _ _ hP2 ?_
    refine Split.mk fun t ht => ?_
    cases t
    case true => cases ht
    refine Split.mk fun t ht => ?_
    cases t
    · cases ht
    refine Need.mk hkn ?_
    refine Row.mk _ (map_get _ [aEnt] k hk) ?_
    refine ACall.mk _ _ hB1 ?_
    refine ACall.mk _ _ hB2 ?_
    refine ACall.mk _ _ hB3 ?_
    refine Need.mk hkn ?_
    refine Row.mk _ (map_get _ [aEnt] k hk) ?_
    refine Need.mk rfl ?_
    refine Need.mk ⟨[], _, .same, ?_, rfl⟩ trivial
    exact congrArg (fun R => RV.agg [.us 32 R, vi (rmask [aEnt] : Nat)]) (List.map_set ..).symm
  by_cases h2 : c = 2
  · subst h2
    refine ⟨⟨[aEnt] ++ [[aEnt][k]], (rmask [aEnt] : Nat)⟩, q0 + 2, ?_, by omega, by show ([aEnt] ++ [[aEnt][k]]).length ≤ 20; rw [List.length_append]; simp <;> omega, fun e he => ?_, ⟨by show _ ≤ (rmask [aEnt] : Int); omega, by show (rmask [aEnt] : Int) ≤ _; omega⟩⟩
    case refine_2 =>
      rcases List.mem_append.1 he with h | h
      · exact hG e h
      · rw [List.mem_singleton.1 h]; exact hG _ (List.getElem_mem hk)
    refine AFnK.introX (E := En 1 (mdv [116] [80]) (vw := [3])) (en_ok 1 _ _ _ _) Try.func53 rfl rfl rfl fun _ _ => ?_
    refine ACall.mk _ _ hE ?_
    refine Split.mk fun t ht => ?_
    cases t
    · cases ht
    refine Need.mk ⟨rfl, rfl⟩ ?_
    refine ACall.mk _ _ hR ?_
    refine ACall.mk _ _ hP ?_
    refine ACall.mk _ _ hP2 ?_
    refine Split.mk fun t ht => ?_
    cases t
    case true => cases ht
    refine Split.mk fun t ht => ?_
    cases t
    case true => cases ht
    refine Split.mk fun t ht => ?_
    cases t
    · cases ht
    refine Need.mk hkn ?_
    refine Row.mk _ (map_get _ [aEnt] k hk) ?_
    refine Need.mk (sizeOk _ _ [aEnt] [[aEnt][k]] rfl rfl (by simp <;> omega)) ?_
    refine Need.mk rfl ?_
    refine Need.mk ⟨[], _, .same, ?_, rfl⟩ trivial
    refine congrArg (fun R => RV.agg [.us 32 R, vi (rmask [aEnt] : Nat)]) (?_ : [aEnt].map Ent.enc ++ [[aEnt][k].enc] = _)
    rw [List.map_append]; rfl
  by_cases h3 : c = 3
  · subst h3
    refine ⟨⟨[], (rmask [aEnt] : Nat)⟩, q0 + 2, ?_, by omega, by exact Nat.zero_le _, fun e he => (nomatch he), ⟨by show _ ≤ (rmask [aEnt] : Int); omega, by show (rmask [aEnt] : Int) ≤ _; omega⟩⟩
    refine AFnK.introX (E := En 1 (mdv [116] [80]) (vw := [3])) (en_ok 1 _ _ _ _) Try.func53 rfl rfl rfl fun _ _ => ?_
    refine ACall.mk _ _ hE ?_
    refine Split.mk fun t ht => ?_
    cases t
    · cases ht
    refine Need.mk ⟨rfl, rfl⟩ ?_
    refine ACall.mk _ _ hR ?_
    refine ACall.mk _ _ hP ?_
    refine ACall.mk _ _ hP2 ?_
    refine Split.mk fun t ht => ?_
    cases t
    case true => cases ht
    refine Split.mk fun t ht => ?_
    cases t
    case true => cases ht
    refine Split.mk fun t ht => ?_
    cases t
    case true => cases ht
    refine Split.mk fun t ht => ?_
    cases t
    · cases ht
    exact Need.mk ⟨[], _, .same, rfl, rfl⟩ trivial
  by_cases h4 : c = 4
  · subst h4
    refine ⟨⟨[aEnt], 65535⟩, q0 + 2, ?_, by omega, by show [aEnt].length ≤ 20; omega, hG, by show I64 65535; exact ⟨by decide, by decide⟩⟩
    refine AFnK.introX (E := En 1 (mdv [116] [80]) (vw := [3])) (en_ok 1 _ _ _ _) Try.func53 rfl rfl rfl fun _ _ => ?_
    refine ACall.mk _ _ hE ?_
    refine Split.mk fun t ht => ?_
    cases t
    · cases ht
    refine Need.mk ⟨rfl, rfl⟩ ?_
    refine ACall.mk _ _ hR ?_
    refine ACall.mk _ _ hP ?_
    refine ACall.mk _ _ hP2 ?_
    refine Split.mk fun t ht => ?_
    cases t
    case true => cases ht
    refine Split.mk fun t ht => ?_
    cases t
    case true => cases ht
    refine Split.mk fun t ht => ?_
    cases t
    case true => cases ht
    refine Split.mk fun t ht => ?_
    cases t
    case true => cases ht
    refine Split.mk fun t ht => ?_
    cases t
    · cases ht
    exact Need.mk ⟨[], _, .same, rfl, rfl⟩ trivial
  · skip
    refine ⟨⟨[aEnt], (rmask [aEnt] : Nat)⟩, q0 + 2, ?_, by omega, by show [aEnt].length ≤ 20; omega, hG, ⟨by show _ ≤ (rmask [aEnt] : Int); omega, by show (rmask [aEnt] : Int) ≤ _; omega⟩⟩
    refine AFnK.introX (E := En 1 (mdv [116] [80]) (vw := [3])) (en_ok 1 _ _ _ _) Try.func53 rfl rfl rfl fun _ _ => ?_
    refine ACall.mk _ _ hE ?_
    refine Split.mk fun t ht => ?_
    cases t
    · cases ht
    refine Need.mk ⟨rfl, rfl⟩ ?_
    refine ACall.mk _ _ hR ?_
    refine ACall.mk _ _ hP ?_
    refine ACall.mk _ _ hP2 ?_
    refine Split.mk fun t ht => ?_
    cases t
    case true => rw [beq_iff_eq] at ht; omega
    refine Split.mk fun t ht => ?_
    cases t
    case true => rw [beq_iff_eq] at ht; omega
    refine Split.mk fun t ht => ?_
    cases t
    case true => rw [beq_iff_eq] at ht; omega
    refine Split.mk fun t ht => ?_
    cases t
    case true => rw [beq_iff_eq] at ht; omega
    refine Split.mk fun t ht => ?_
    cases t
    case true => rw [beq_iff_eq] at ht; omega
    exact Need.mk ⟨[], _, .same, rfl, rfl⟩ trivial
theorem l4_Draw (bs : List Nat) (p : Nat) (hb : OkB bs) (hp : p ≤ 980000) :
    ∃ (r : Rn) (q : Nat), AFnK Try.prog 53 [.bx 0 0] [rd bs p] [0] (.agg (encO r)) [rd bs q] ∧ q ≤ p + 200 ∧ r.ents.length ≤ 20 ∧ (∀ e ∈ r.ents, DE e) ∧ I64 r.mask := by
  have hE := l4_Ents bs p 12 hb (by omega) (by omega)
  obtain ⟨g1, g2, g3⟩ := listD_ok bs (pickV bs p 13) (p + 1) 0 []
  have hn0 := pickV_lt (bs := bs) (p := p) (n := 13) (by omega)
  generalize hF : listD bs (pickV bs p (12 + 1)) (p + 1) 0 [] = F at *
  have hlen : (isort eLess F.1).length = pickV bs p 13 := by rw [isort_len, g2]; simp
  have hG : ∀ e ∈ isort eLess F.1, DE e := fun e he => by
    rcases g3 e ((isort_mem _ _ _).1 he) with h | ⟨h, h1, h2⟩
    · cases h
    · exact h.de ⟨by omega, by omega⟩
  generalize isort eLess F.1 = G at *
  rcases Nat.eq_zero_or_pos G.length with h | h
  · obtain rfl := List.eq_nil_of_length_eq_zero h
    exact l4_Draw0 bs p F.2 hb hp (by omega) hE
  · exact l4_Draw1 bs p F.2 G hb hp (by omega) h (by omega) hG hE
end Go.Proofs.Ytlmdheeammfihaa

namespace Go.Proofs.Ytlmdheeammfihaa
open Go Go.Proofs Ev
set_option maxRecDepth 100000
set_option maxHeartbeats 4000000
theorem Draw_RunFind (bs : List Nat) (hb : ∀ b ∈ bs, b < 256) (hl : bs.length ≤ 1048576) :
    ∃ (r : Rn) (key : ByteArray) (seq : Nat), AFn Try.prog 20 [sl (bs.map encB)] [] (.tup [.agg (encO r), .one (vs key), .one (vi (seq : Nat))]) [] ∧ r.ents.length ≤ 20 ∧ (∀ e ∈ r.ents, DE e) ∧ I64 r.mask ∧ key.size ≤ 6 ∧ seq ≤ 21 := by
  have hO := okB_take hb
  obtain ⟨r, q, hD, hq, h1, h2, h3⟩ := l4_Draw (bs.take 2000) 0 hO (by omega)
  have hK1 := l3_Key (bs.take 2000) q hO (by omega)
  have k1 := keysL_ok (keyD_mem (bs.take 2000) q)
  generalize keyD (bs.take 2000) q = a1 at *
  have hP := l9_pick (bs.take 2000) (q + 1) 22 hO (by omega) (by omega)
  have hm := pickV_lt (bs := bs.take 2000) (p := q + 1) (n := 22) (by decide)
  generalize pickV (bs.take 2000) (q + 1) 22 = c at *
  refine ⟨r, a1, c, ?_, h1, h2, h3, k1.1, by omega⟩
  refine AFn.introX (E := En 0 md0) (en_ok 0 _) Try.func20 rfl rfl rfl fun _ _ => ?_
  refine ACall.mk _ _ (l9_Open bs hl) ?_
  refine ACall.mk _ _ hD ?_
  refine ACall.mk _ _ hK1 ?_
  refine ACall.mk _ _ hP ?_
  refine Need.mk rfl ?_
  exact Need.mk ⟨[], _, .same, rfl, rfl⟩ trivial
end Go.Proofs.Ytlmdheeammfihaa

namespace Go.Proofs.Ytlmdheeammfihaa
open Go Go.Proofs Ev
set_option maxRecDepth 100000
theorem sort_Search (f : FuncId) (a : Rn) (b : Ent) (p : Nat → Bool) (n k : Nat) (hn : n ≤ 1099511627776) (hk : k ≤ n) (h1 : ∀ i, i < k → p i = false) (h2 : ∀ i, k ≤ i → i < n → p i = true)
    (hf : ∀ i : Nat, i < n → AFnK Try.prog f [av (.int .i64 i), .bx 0 0, .bx 1 0] [a.enc, b.enc] [0, 0] (rb (p i)) [a.enc, b.enc]) :
    AFnK Try.prog 65 [av (.int .i64 n), .clo f [.bx 0 0, .bx 1 0]] [a.enc, b.enc] [0, 0] (.one (vi k)) [a.enc, b.enc] := by
  refine AFnK.introX (E := En 2 md0) (en_ok 2 md0) Try.func65 rfl rfl rfl fun _ _ => ?_
  let S : Nat → Nat → St := fun i j => ⟨some (av (.int .i64 n)) :: some (.clo f [.bx 0 0, .bx 1 0]) :: none :: none :: none :: some (av (.int .i64 i)) :: some (av (.int .i64 j)) :: List.replicate 19 none, ⟨0, 0, some a.enc⟩ :: ⟨0, 0, some b.enc⟩ :: List.replicate 26 absent⟩
  refine ALoop.mk (fun m s => ∃ i j : Nat, i ≤ k ∧ k ≤ j ∧ j ≤ n ∧ m = j - i ∧ s = S i j)
    ⟨n, _, Weak.nrm [true, true, false, false, false, true, true] [(0, 0), (1, 1)] rfl rfl rfl, 0, n, Nat.zero_le _, hk, Nat.le_refl _, rfl, rfl⟩ ?_
  rintro m s ⟨i, j, hi, hj, hjn, rfl, hs⟩
  by_cases hij : i < j
  · have hm1 : i ≤ (i + j) / 2 := by omega
    have hm2 : (i + j) / 2 < j := by omega
    have hc := hf ((i + j) / 2) (by omega)
    have up : p ((i + j) / 2) = false → (i + j) / 2 + 1 ≤ k := fun h => by
      refine Nat.lt_of_not_le fun hle => ?_
      rw [h2 _ hle (by omega)] at h; cases h
    have dn : p ((i + j) / 2) = true → k ≤ (i + j) / 2 := fun h => by
      refine Nat.le_of_not_lt fun hle => ?_
      rw [h1 _ hle] at h; cases h
    subst hs
    refine Split.mk fun t ht => ?_
    cases t
    · simp at ht; omega
    refine Num.mk ((i + j : Nat) : Int) (wrapI' (by omega) (by omega)) ?_
    refine Num.mk _ (wrapU (by omega)) ?_
    refine Need.mk (by decide) ?_
    refine Num.mk _ (half (by omega)) ?_
    refine ACall.mk _ _ hc ?_
    refine Split.mk fun t h3 => ?_
    cases t
    · refine Num.mk _ (wrapS (by omega)) ?_
      exact ⟨j - ((i + j) / 2 + 1), _, by omega, Weak.nrm [true, true, false, false, false, true, true] [(0, 0), (1, 1)] rfl rfl rfl, (i + j) / 2 + 1, j, up h3, hj, hjn, rfl, rfl⟩
    · exact ⟨(i + j) / 2 - i, _, by omega, Weak.nrm [true, true, false, false, false, true, true] [(0, 0), (1, 1)] rfl rfl rfl, i, (i + j) / 2, hi, dn h3, by omega, rfl, rfl⟩
  · have he : i = k := by omega
    subst hs
    refine Split.mk fun t ht => ?_
    cases t
    · exact Need.mk ⟨[], _, .same, by rw [he]; rfl, rfl⟩ trivial
    · simp at ht; omega
theorem impl_RunFind1 (r : Rn) (q : Ent) (i : Nat) (h : i < r.ents.length) : AFnK Try.prog 66 [av (.int .i64 i), .bx 0 0, .bx 1 0] [r.enc, q.enc] [0, 0] (rb (!eLess r.ents[i] q)) [r.enc, q.enc] := by
  refine AFnK.introX (E := En 2 md0) (en_ok 2 md0) Try.func66 rfl rfl rfl fun _ _ => ?_
  have hn : (r.ents.map Ent.enc).length = r.ents.length := List.length_map ..
  refine Need.mk (by omega) ?_
  refine Row.mk _ (map_get _ r.ents i h) ?_
  refine ACall.mk _ _ (impl_EntryLess r.ents[i] q) ?_
  refine Split.mk fun t ht => ?_
  refine Need.mk rfl ?_
  exact Need.mk ⟨[], _, .same, by rw [ht]; rfl, rfl⟩ trivial
end Go.Proofs.Ytlmdheeammfihaa

namespace Go.Proofs.Ytlmdheeammfihaa
open Go Go.Proofs Ev
set_option maxRecDepth 100000
theorem slices_EqualE (a b : List Ent) : AFn Try.prog 154 [sl (a.map Ent.enc), sl (b.map Ent.enc)] [] (rb (decide (a = b))) [] := by
  refine AFn.introX (E := En 0 md0) (en_ok 0 md0) Try.func154 rfl rfl rfl fun hs _ => ?_
  have ha := Small.len (hs _ (List.mem_cons_self ..))
  rw [List.length_map] at ha
  have fin : ∀ {c : Bool}, c = decide (a = b) → rb c = rb (decide (a = b)) := fun h => by rw [h]
  refine Split.mk fun t ht => ?_
  cases t
  · have hl : a.length = b.length := Int.ofNat_inj.1 (by simpa using ht)
    refine ALoop.mk (fun n s => ∃ i : Nat, i ≤ a.length ∧ n = a.length - i ∧ a.take i = b.take i ∧
      s = ⟨some (sl (a.map Ent.enc)) :: some (sl (b.map Ent.enc)) :: none :: none :: some (av (.bool false)) :: none :: none :: none :: none :: none :: none :: none :: some (av (.int .i64 a.length)) :: some (av (.int .i64 i)) :: List.replicate 12 none, List.replicate 26 absent⟩)
      ⟨a.length, _, Weak.nrm [true, true, false, false, true, false, false, false, false, false, false, false, true, true] [] rfl rfl rfl, 0, Nat.zero_le _, rfl, rfl, by rw [show ((a.length : Nat) : Int) = ((a.map Ent.enc).length : Nat) by rw [List.length_map]]; rfl⟩ ?_
    rintro n s ⟨i, hi, rfl, hp, rfl⟩
    refine Split.mk fun t ht => ?_
    cases t
    · have hia : i = a.length := by simp at ht; omega
      refine Need.mk ⟨[], _, .same, fin ?_, rfl⟩ trivial
      subst hia
      rw [List.take_length, hl, List.take_length] at hp
      simp [hp]
    · have hia : i < a.length := by simpa using ht
      refine Need.mk (by omega) ?_
      refine Row.mk _ (map_get _ a i hia) ?_
      refine Need.mk (by omega) ?_
      refine Row.mk _ (map_get _ b i (by omega)) ?_
      refine Split.mk fun t ht2 => ?_
      have ht2 : (!decide (a[i] = b[i]'(by omega))) = t := by rw [← ent_beq]; exact ht2
      cases t
      · refine Need.mk rfl ?_
        refine Num.mk _ (wrapS (by omega)) ?_
        refine ⟨a.length - (i + 1), _, by omega, Weak.nrm [true, true, false, false, true, false, false, false, false, false, false, false, true, true] [] rfl rfl rfl, i + 1, by omega, rfl, ?_, rfl⟩
        have : a[i] = b[i]'(by omega) := by simpa using ht2
        rw [List.take_succ_eq_append_getElem hia, List.take_succ_eq_append_getElem (by omega), hp, this]
      · refine Need.mk rfl ?_
        refine Need.mk ⟨[], _, .same, fin ?_, rfl⟩ trivial
        have : a[i] ≠ b[i]'(by omega) := by simpa using ht2
        refine (decide_eq_false fun e => this ?_).symm
        subst e; rfl
  · refine Need.mk ⟨[], _, .same, fin ?_, rfl⟩ trivial
    have : a.length ≠ b.length := by
      intro e; simp [e] at ht
    exact (decide_eq_false fun e => this (by rw [e])).symm
end Go.Proofs.Ytlmdheeammfihaa

namespace Go.Proofs.Ytlmdheeammfihaa
open Go Go.Proofs Ev
set_option maxRecDepth 100000
theorem impl_RunSame (a b : Rn) : AFn Try.prog 118 [.agg (a.enc.map .c), .agg (b.enc.map .c)] [] (rb (decide (a = b))) [] := by
  refine AFn.introX (E := En 0 md0) (en_ok 0 md0) Try.func118 rfl rfl rfl fun _ _ => ?_
  have fin : ∀ {c : Bool}, c = decide (a = b) → rb c = rb (decide (a = b)) := fun h => by rw [h]
  refine Split.mk fun t ht => ?_
  cases t
  · exact Need.mk ⟨[], _, .same, fin (by cases a; cases b; simp_all), rfl⟩ trivial
  · refine ACall.mk _ _ (slices_EqualE a.ents b.ents) ?_
    refine Split.mk fun t ht1 => ?_
    exact Need.mk ⟨[], _, .same, fin (by cases a; cases b; simp_all), rfl⟩ trivial
end Go.Proofs.Ytlmdheeammfihaa

namespace Go.Proofs.Ytlmdheeammfihaa
open Go Go.Proofs Ev
set_option maxRecDepth 100000
set_option maxHeartbeats 1000000
theorem impl_RunOk (r : Rn) (hr : OkE r.ents) : AFn Try.prog 56 [.agg (r.enc.map .c)] [] (rb (runOk r)) [] := by
  refine AFn.introX (E := En 0 md0) (en_ok 0 _) Try.func56 rfl rfl rfl fun _ _ => ?_
  have heq := runOk_eq r
  have fin : ∀ {c : Bool}, c = runOk r → rb c = rb (runOk r) := fun h => by rw [h]
  by_cases hg : good r.ents = true
  · rw [hg, Bool.true_and] at heq
    refine ACall.mk _ _ (impl_RunOf_ok r.ents hr hg) ?_
    refine Split.mk fun t ht => ?_
    cases t
    case false => cases ht
    refine Fz.mk _ (frzE (isort eLess r.ents)) ?_
    refine ACall.mk _ _ (impl_RunSame ⟨isort eLess r.ents, (rmask (isort eLess r.ents) : Nat)⟩ r) ?_
    refine Need.mk ⟨closed_v, no_objs⟩ ?_
    refine Split.mk fun t ht2 => ?_
    exact Need.mk ⟨[], _, .same, fin (ht2.symm.trans heq.symm), rfl⟩ trivial
  · have hg : good r.ents = false := by simpa using hg
    rw [hg, Bool.false_and] at heq
    refine ACall.mk _ _ (impl_RunOf_bad r.ents hr hg) ?_
    refine Split.mk fun t ht => ?_
    cases t
    · exact Need.mk ⟨[], _, .same, fin heq.symm, rfl⟩ trivial
    · cases ht
theorem spec_RunOk (r : Rn) (hr : OkE r.ents) (hx : r.ents.length ≤ 1099511627776) : AFn Try.prog 23 [.agg (r.enc.map .c)] [] (rb (runOk r)) [] := by
  refine AFn.introX (E := En 0 md0) (en_ok 0 _) Try.func23 rfl rfl rfl fun _ _ => ?_
  have fin : ∀ {c : Bool}, c = runOk r → rb c = rb (runOk r) := fun h => by rw [h]
  have hn : (r.ents.map Ent.enc).length = r.ents.length := List.length_map ..
  refine Split.mk fun t h1 => ?_
  rw [hn] at h1
  cases t
  · refine Need.mk rfl ?_
    exact Need.mk ⟨[], _, .same, fin (by have : decide (1 ≤ r.ents.length) = false := decide_eq_false (by have := of_decide_eq_false h1; omega)
                                         simp [runOk, this]), rfl⟩ trivial
  have e1 : decide (1 ≤ r.ents.length) = true := decide_eq_true (by have := of_decide_eq_true h1; omega)
  refine Split.mk fun t h2 => ?_
  rw [hn] at h2
  cases t
  · refine Need.mk rfl ?_
    exact Need.mk ⟨[], _, .same, fin (by have : decide (r.ents.length ≤ 150) = false := decide_eq_false (by have := of_decide_eq_false h2; omega)
                                         simp [runOk, this]), rfl⟩ trivial
  have e2 : decide (r.ents.length ≤ 150) = true := decide_eq_true (by have := of_decide_eq_true h2; omega)
  refine ACall.mk _ _ (spec_l4Right r.ents hr hx) ?_
  refine Split.mk fun t h3 => ?_
  cases t
  · refine Need.mk rfl ?_
    exact Need.mk ⟨[], _, .same, fin (by simp [runOk, h3]), rfl⟩ trivial
  refine ACall.mk _ _ (spec_l4Mask r.ents hr hx) ?_
  refine Split.mk fun t h4 => ?_
  refine Need.mk rfl ?_
  refine Need.mk ⟨[], _, .same, fin ?_, rfl⟩ trivial
  rw [← h4]
  simp only [runOk, e1, e2, h3, Bool.true_and]
  rw [Bool.eq_iff_iff]; simp
end Go.Proofs.Ytlmdheeammfihaa

namespace Go.Proofs.Ytlmdheeammfihaa
open Go Go.Proofs Ev
set_option maxRecDepth 100000
set_option maxHeartbeats 16000000
theorem impl_lowKey (r : Rn) (h : 0 < r.ents.length) : AFn Try.prog 57 [.agg (r.enc.map .c)] [] (.one (vs (r.ents.getD 0 ent0).key)) [] := by
  refine AFn.introX (E := En 0 md0) (en_ok 0 _) Try.func57 rfl rfl rfl fun _ _ => ?_
  have hd : r.ents.getD 0 ent0 = r.ents[0] := by simp [List.getD_eq_getElem?_getD, h]
  refine Need.mk (by decide) ?_
  refine Row.mk _ (map_get _ r.ents 0 h) ?_
  exact Need.mk ⟨[], _, .same, by rw [hd]; rfl, rfl⟩ trivial
theorem impl_highKey (r : Rn) (h : 0 < r.ents.length) (hx : r.ents.length ≤ 1099511627776) : AFn Try.prog 58 [.agg (r.enc.map .c)] [] (.one (vs (r.ents.getD (r.ents.length - 1) ent0).key)) [] := by
  refine AFn.introX (E := En 0 md0) (en_ok 0 _) Try.func58 rfl rfl rfl fun _ _ => ?_
  have hl : r.ents.length - 1 < r.ents.length := by omega
  have hd : r.ents.getD (r.ents.length - 1) ent0 = r.ents[r.ents.length - 1] := by simp [List.getD_eq_getElem?_getD, hl]
  have hn : (r.ents.map Ent.enc).length = r.ents.length := List.length_map ..
  refine Num.mk ((r.ents.length - 1 : Nat) : Int) (wrapI' (by rw [hn]; omega) (by omega)) ?_
  refine Need.mk (by omega) ?_
  refine Row.mk _ (map_get _ r.ents (r.ents.length - 1) hl) ?_
  exact Need.mk ⟨[], _, .same, by rw [hd]; rfl, rfl⟩ trivial
theorem impl_RunMay (r : Rn) (key : ByteArray) (hr : OkE r.ents) (hk : key.size ≤ maxLen) : AFn Try.prog 16 [.agg (r.enc.map .c), av (.string key)] [] (rb (runMay r key)) [] := by
  refine AFn.introX (E := En 0 md0) (en_ok 0 _) Try.func16 rfl rfl rfl fun _ _ => ?_
  have fin : ∀ {c : Bool}, c = runMay r key → rb c = rb (runMay r key) := fun h => by rw [h]
  refine ACall.mk _ _ (impl_RunOk r hr) ?_
  refine Split.mk fun t h1 => ?_
  cases t
  · exact Need.mk ⟨[], _, .same, fin (by simp only [runMay, h1]; rfl), rfl⟩ trivial
  obtain ⟨l1, l2, l3, l4⟩ := runOk_len h1
  refine ACall.mk _ _ (impl_lowKey r l1) ?_
  refine Split.mk fun t h2 => ?_
  have h2 : slt key (r.ents.getD 0 ent0).key = t := h2
  cases t
  case true => exact Need.mk ⟨[], _, .same, fin (by simp only [runMay, h1, h2]; rfl), rfl⟩ trivial
  refine ACall.mk _ _ (impl_highKey r l1 (by omega)) ?_
  refine Split.mk fun t h3 => ?_
  rw [str_gt] at h3
  cases t
  case true => exact Need.mk ⟨[], _, .same, fin (by simp only [runMay, h1, h2, h3]; rfl), rfl⟩ trivial
  refine ACall.mk _ _ (impl_KeyMask key hk) ?_
  refine Split.mk fun t h4 => ?_
  have h5 : (((rmask r.ents &&& kmask key : Nat) : Int) == ((kmask key : Nat) : Int)) = t := by rw [← andN (rmask_lt _) (kmask_lt _), ← l4]; exact h4
  refine Need.mk ⟨[], _, .same, fin ?_, rfl⟩ trivial
  rw [← h5]
  have : (((rmask r.ents &&& kmask key : Nat) : Int) == ((kmask key : Nat) : Int)) = decide (rmask r.ents ||| kmask key = rmask r.ents) := by
    rw [Bool.eq_iff_iff, beq_iff_eq, Int.ofNat_inj, and_or, decide_eq_true_eq]
  rw [this]
  simp only [runMay, h1, h2, h3]; rfl
theorem spec_RunMay (r : Rn) (key : ByteArray) (hr : OkE r.ents) (hk : key.size ≤ maxLen) (hx : r.ents.length ≤ 1099511627776) : AFn Try.prog 17 [.agg (r.enc.map .c), av (.string key)] [] (rb (runMay r key)) [] := by
  refine AFn.introX (E := En 0 md0) (en_ok 0 _) Try.func17 rfl rfl rfl fun _ _ => ?_
  have fin : ∀ {c : Bool}, c = runMay r key → rb c = rb (runMay r key) := fun h => by rw [h]
  refine ACall.mk _ _ (spec_RunOk r hr hx) ?_
  refine Split.mk fun t h1 => ?_
  cases t
  · exact Need.mk ⟨[], _, .same, fin (by simp only [runMay, h1]; rfl), rfl⟩ trivial
  obtain ⟨l1, l2, l3, l4⟩ := runOk_len h1
  have hn : (r.ents.map Ent.enc).length = r.ents.length := List.length_map ..
  have l0 : 0 < r.ents.length := l1
  have hd0 : r.ents.getD 0 ent0 = r.ents[0] := by simp [List.getD_eq_getElem?_getD, l0]
  have hl : r.ents.length - 1 < r.ents.length := by omega
  have hd1 : r.ents.getD (r.ents.length - 1) ent0 = r.ents[r.ents.length - 1] := by simp [List.getD_eq_getElem?_getD, hl]
  refine Need.mk (by decide) ?_
  refine Row.mk _ (map_get _ r.ents 0 l1) ?_
  refine Split.mk fun t h2 => ?_
  have h2 : (!slt key (r.ents.getD 0 ent0).key) = t := by rw [hd0]; exact h2
  cases t
  · refine Need.mk rfl ?_
    exact Need.mk ⟨[], _, .same, fin (by simp only [runMay, h1, h2]; rfl), rfl⟩ trivial
  refine Num.mk ((r.ents.length - 1 : Nat) : Int) (wrapI' (by rw [hn]; omega) (by omega)) ?_
  refine Need.mk (by omega) ?_
  refine Row.mk _ (map_get _ r.ents (r.ents.length - 1) hl) ?_
  refine Split.mk fun t h3 => ?_
  have h3 : (!slt (r.ents.getD (r.ents.length - 1) ent0).key key) = t := by rw [hd1, ← str_le]; exact h3
  cases t
  · refine Need.mk rfl ?_
    exact Need.mk ⟨[], _, .same, fin (by simp only [runMay, h1, h2, h3]; rfl), rfl⟩ trivial
  refine ACall.mk _ _ (spec_KeyMask key hk) ?_
  refine ACall.mk _ _ (by rw [l4]; exact spec_l4Or (rmask r.ents) (kmask key) (rmask_lt _) (kmask_lt _)) ?_
  refine Split.mk fun t h4 => ?_
  refine Need.mk rfl ?_
  refine Need.mk ⟨[], _, .same, fin ?_, rfl⟩ trivial
  rw [← h4, l4]
  have : (((rmask r.ents ||| kmask key : Nat) : Int) == ((rmask r.ents : Nat) : Int)) = decide (rmask r.ents ||| kmask key = rmask r.ents) := by
    rw [Bool.eq_iff_iff, beq_iff_eq, Int.ofNat_inj, decide_eq_true_eq]
  rw [this]
  simp only [runMay, h1, h2, h3, Bool.true_and]
end Go.Proofs.Ytlmdheeammfihaa

namespace Go.Proofs.Ytlmdheeammfihaa
open Go Go.Proofs Ev
set_option maxRecDepth 100000
set_option maxHeartbeats 1000000
theorem spec_l4Find (xs : List Ent) (key : ByteArray) (seq : Int) (hx : xs.length ≤ 1048576) : AFn Try.prog 68 [sl (xs.map Ent.enc), av (.string key), av (.int .i64 seq)] [] (.one (.us 32 ((findE xs key seq).map Ent.enc))) [] := by
  refine AFn.introX (E := En 0 md0) (en_ok 0 _) Try.func68 rfl rfl rfl fun _ _ => ?_
  have hn : (xs.map Ent.enc).length = xs.length := List.length_map ..
  let S : Nat → List Ent → Nat → St := fun kd ys i => ⟨some (sl (xs.map Ent.enc)) :: some (av (.string key)) :: some (av (.int .i64 seq)) :: none :: none :: none :: none :: some (.one (.ref 7 0 (.cell 0))) :: some (av (.int .i64 i)) :: List.replicate 31 none, absent :: absent :: absent :: absent :: absent :: absent :: absent :: ⟨0, kd, some [.us 32 (ys.map Ent.enc)]⟩ :: List.replicate 32 absent⟩
  refine ALoop.mk (fun m s => ∃ i kd : Nat, i ≤ xs.length ∧ m = xs.length - i ∧ (kd = 1 ∨ kd = 2) ∧ s = S kd (findE (xs.take i) key seq) i)
    ⟨xs.length, _, Weak.nrm [true, true, true, false, false, false, false, true, true] [(9, 7)] rfl rfl rfl, 0, 2, Nat.zero_le _, rfl, .inr rfl, rfl⟩ ?_
  rintro m s ⟨i, kd, hi, rfl, hkd, hs⟩
  by_cases hin : i = xs.length
  · subst hin
    rw [List.take_length] at hs
    subst hs
    refine Split.mk fun t ht => ?_
    rw [hn] at ht
    cases t
    · exact Need.mk ⟨[], _, .same, rfl, rfl⟩ trivial
    · simp at ht
  · have hia : i < xs.length := by omega
    have he := findE_snoc (xs.take i) xs[i] key seq
    rw [← List.take_succ_eq_append_getElem hia] at he
    have hlen : (findE (xs.take i) key seq).length ≤ 1048576 := Nat.le_trans (findE_len _ _ _) (by rw [List.length_take]; omega)
    have hex : ∃ ys, findE (xs.take i) key seq = ys := ⟨_, rfl⟩
    obtain ⟨ys, hy⟩ := hex
    rw [hy] at he hlen hs
    by_cases hk : xs[i].key = key
    · by_cases hq : xs[i].seq ≤ seq
      · simp only [hk, hq, decide_true, Bool.and_self, cond_true] at he
        subst hs
        refine Split.mk fun t ht => ?_
        rw [hn] at ht
        cases t
        · simp at ht; omega
        refine Need.mk (by omega) ?_
        refine Row.mk _ (map_get _ xs i hia) ?_
        refine Split.mk fun t ht2 => ?_
        cases t
        · simp [hk] at ht2
        refine Need.mk (by omega) ?_
        refine Row.mk _ (map_get _ xs i hia) ?_
        refine Split.mk fun t ht3 => ?_
        cases t
        · simp [hq] at ht3
        refine Need.mk (by omega) ?_
        refine Row.mk _ (map_get _ xs i hia) ?_
        refine Need.mk (sizeOk _ _ ys [xs[i]] rfl rfl (by simp; omega)) ?_
        refine Num.mk _ (wrapS (by omega)) ?_
        refine ⟨xs.length - (i + 1), _, by omega, Weak.nrm [true, true, true, false, false, false, false, true, true] [(38, 7)] rfl rfl rfl, i + 1, 1, by omega, rfl, .inl rfl, ?_⟩
        rw [he]
        refine Eq.trans (b := ⟨some (sl (xs.map Ent.enc)) :: some (av (.string key)) :: some (av (.int .i64 seq)) :: none :: none :: none :: none :: some (.one (.ref 7 0 (.cell 0))) :: some (av (.int .i64 (i + 1 : Nat))) :: List.replicate 31 none, absent :: absent :: absent :: absent :: absent :: absent :: absent :: ⟨0, 1, some [.us 32 (ys.map Ent.enc ++ [xs[i].enc])]⟩ :: List.replicate 32 absent⟩) rfl ?_
        rw [show ys.map Ent.enc ++ [xs[i].enc] = (ys ++ [xs[i]]).map Ent.enc by rw [List.map_append]; rfl]
      · simp only [hk, hq, decide_true, decide_false, Bool.and_false, cond_false, List.append_nil] at he
        subst hs
        refine Split.mk fun t ht => ?_
        rw [hn] at ht
        cases t
        · simp at ht; omega
        refine Need.mk (by omega) ?_
        refine Row.mk _ (map_get _ xs i hia) ?_
        refine Split.mk fun t ht2 => ?_
        cases t
        · simp [hk] at ht2
        refine Need.mk (by omega) ?_
        refine Row.mk _ (map_get _ xs i hia) ?_
        refine Split.mk fun t ht3 => ?_
        cases t
        case true => simp [hq] at ht3
        refine Num.mk _ (wrapS (by omega)) ?_
        exact ⟨xs.length - (i + 1), _, by omega, Weak.nrm [true, true, true, false, false, false, false, true, true] [(7, 7)] rfl rfl rfl, i + 1, kd, by omega, rfl, hkd, by rw [he]; rfl⟩
    · simp only [hk, decide_false, Bool.false_and, cond_false, List.append_nil] at he
      subst hs
      refine Split.mk fun t ht => ?_
      rw [hn] at ht
      cases t
      · simp at ht; omega
      refine Need.mk (by omega) ?_
      refine Row.mk _ (map_get _ xs i hia) ?_
      refine Split.mk fun t ht2 => ?_
      cases t
      case true => rw [bytes_beq] at ht2; exact absurd (of_decide_eq_true ht2) hk
      refine Num.mk _ (wrapS (by omega)) ?_
      exact ⟨xs.length - (i + 1), _, by omega, Weak.nrm [true, true, true, false, false, false, false, true, true] [(7, 7)] rfl rfl rfl, i + 1, kd, by omega, rfl, hkd, by rw [he]; rfl⟩
theorem spec_RunFind (r : Rn) (key : ByteArray) (seq : Int) (hr : OkE r.ents) (hx : r.ents.length ≤ 1048576) : AFn Try.prog 22 [.agg (r.enc.map .c), av (.string key), av (.int .i64 seq)] [] (.one (.us 32 ((runFind r key seq).map Ent.enc))) [] := by
  refine AFn.introX (E := En 0 md0) (en_ok 0 _) Try.func22 rfl rfl rfl fun _ _ => ?_
  refine ACall.mk _ _ (spec_RunOk r hr (by omega)) ?_
  refine Split.mk fun t h1 => ?_
  cases t
  · exact Need.mk ⟨[], _, .same, by rw [runFind, h1]; rfl, rfl⟩ trivial
  refine ACall.mk _ _ (spec_l4Find r.ents key seq hx) ?_
  exact Need.mk ⟨[], _, .same, by rw [runFind, h1]; rfl, rfl⟩ trivial
theorem impl_RunFind (r : Rn) (key : ByteArray) (seq : Int) (hr : OkE r.ents) (hk : key.size ≤ maxLen) : AFn Try.prog 19 [.agg (r.enc.map .c), av (.string key), av (.int .i64 seq)] [] (.one (.us 32 ((runFind r key seq).map Ent.enc))) [] := by
  refine AFn.introX (E := En 0 md0) (en_ok 0 _) Try.func19 rfl rfl rfl fun _ _ => ?_
  have hpos : 0 < Try.prog.cellsOf 32 := pos_of tab_ok (t := 32) rfl
  by_cases hm : runMay r key = true
  · have hok := runMay_ok hm
    obtain ⟨l1, l2, l3, l4⟩ := runOk_len hok
    have hp := pw_of_ord l3
    have hn : (r.ents.map Ent.enc).length = r.ents.length := List.length_map ..
    have hle := fromE_le r.ents key seq
    have hfind := findE_eq hp key seq
    have hres : runFind r key seq = findE r.ents key seq := by rw [runFind, hok]; rfl
    rw [hres]
    have hs1 : ∀ i, i < fromE r.ents key seq → (fun i => !eLess (r.ents.getD i ent0) (probe key seq)) i = false := fun i hi => by
      have h' : i < r.ents.length := by omega
      have := from_lt hi h'
      simp [List.getD_eq_getElem?_getD, h', this]
    have hs2 : ∀ i, fromE r.ents key seq ≤ i → i < r.ents.length → (fun i => !eLess (r.ents.getD i ent0) (probe key seq)) i = true := fun i hi h' => by
      have := from_ge hp hi h'
      simp [List.getD_eq_getElem?_getD, h', this]
    have hcl : ∀ i : Nat, i < r.ents.length → AFnK Try.prog 66 [av (.int .i64 i), .bx 0 0, .bx 1 0] [r.enc, (probe key seq).enc] [0, 0] (rb ((fun i => !eLess (r.ents.getD i ent0) (probe key seq)) i)) [r.enc, (probe key seq).enc] := fun i h' => by
      have := impl_RunFind1 r (probe key seq) i h'
      have e : r.ents.getD i ent0 = r.ents[i] := by simp [List.getD_eq_getElem?_getD, h']
      show AFnK _ _ _ _ _ (rb (!eLess (r.ents.getD i ent0) (probe key seq))) _
      rw [e]; exact this
    have hS := sort_Search 66 r (probe key seq) _ r.ents.length (fromE r.ents key seq) (by omega) hle hs1 hs2 hcl
    have hex : ∃ k, fromE r.ents key seq = k := ⟨_, rfl⟩
    obtain ⟨k, hk2⟩ := hex
    rw [hk2] at hS hle hfind
    have hex : ∃ ys, r.ents.drop k = ys := ⟨_, rfl⟩
    obtain ⟨ys, hy⟩ := hex
    have hR : ((r.ents.map Ent.enc).drop (k : Int).toNat).take (((r.ents.map Ent.enc).length : Int) - (k : Int)).toNat = ys.map Ent.enc := by
      rw [Int.toNat_natCast, ← List.map_drop, hy]
      exact List.take_of_length_le (by rw [List.length_map, ← hy, List.length_drop, hn]; omega)
    rw [hy] at hfind
    have hyl : ys.length ≤ 150 := by rw [← hy, List.length_drop]; omega
    have hyn : (ys.map Ent.enc).length = ys.length := List.length_map ..
    rw [← hn] at hS
    let S : List (List C) → List Ent → Nat → St := fun R zs i => ⟨none :: some (av (.string key)) :: none :: none :: none :: none :: none :: none :: none :: some (.one (.ref 9 0 (.cell 0))) :: none :: none :: none :: none :: none :: none :: none :: none :: none :: none :: none :: none :: none :: none :: none :: none :: none :: some (sl R) :: some (av (.int .i64 R.length)) :: some (av (.int .i64 i)) :: List.replicate 13 none, absent :: absent :: absent :: absent :: absent :: absent :: absent :: absent :: absent :: ⟨0, 1, some [.us 32 (zs.map Ent.enc)]⟩ :: List.replicate 33 absent⟩
    refine ACall.mk _ _ (impl_RunMay r key hr hk) ?_
    refine Split.mk fun t h1 => ?_
    cases t
    · rw [hm] at h1; cases h1
    refine ACall.mk _ _ hS ?_
    refine Need.mk ⟨by omega, by omega, by omega, lenE r.ents⟩ ?_
    refine ALoop.mk (fun m s => ∃ i : Nat, i ≤ ys.length ∧ m = ys.length - i ∧ (∀ x ∈ ys.take i, decide (x.key = key) = true) ∧ s = S (ys.map Ent.enc) (ys.take i) i)
      ⟨ys.length, _, Weak.trans (Weak.nrm [false, true, false, false, false, false, false, false, false, true, false, false, false, false, false, false, false, false, false, false, false, false, false, false, false, false, false, true, true, true] [] rfl rfl rfl) (Weak.nilOwn 9 9 32 rfl rfl hpos), 0, Nat.zero_le _, rfl, by simp, congrArg (fun R => S R [] 0) hR⟩ ?_
    rintro m s ⟨i, hi, rfl, hall, hs⟩
    by_cases hin : i = ys.length
    · have htw := tw_take (fun e => decide (e.key = key)) ys i (by omega) hall (fun h => absurd h (by omega))
      rw [← htw, hfind] at hs
      subst hs
      refine Split.mk fun t ht => ?_
      rw [hyn] at ht
      cases t
      · exact Need.mk ⟨[], _, .same, rfl, rfl⟩ trivial
      · simp at ht; omega
    · have hia : i < ys.length := by omega
      by_cases hkk : ys[i].key = key
      · have hall' : ∀ x ∈ ys.take (i + 1), decide (x.key = key) = true := by
          rw [List.take_succ_eq_append_getElem hia]
          intro x hx
          rcases List.mem_append.1 hx with hx | hx
          · exact hall x hx
          · rw [List.mem_singleton.1 hx]; exact decide_eq_true hkk
        have htl : (ys.take i).length ≤ 150 := by rw [List.length_take]; omega
        have hsucc := List.take_succ_eq_append_getElem hia
        have hex : ∃ zs, ys.take i = zs := ⟨_, rfl⟩
        obtain ⟨zs, hz⟩ := hex
        rw [hz] at htl hsucc hs
        subst hs
        refine Split.mk fun t ht => ?_
        rw [hyn] at ht
        cases t
        · simp at ht; omega
        refine Need.mk (by omega) ?_
        refine Row.mk _ (map_get _ ys i hia) ?_
        refine Split.mk fun t ht2 => ?_
        rw [bytes_beq] at ht2
        cases t
        case true => simp [hkk] at ht2
        refine Need.mk (sizeOk _ _ zs [ys[i]] rfl rfl (by simp; omega)) ?_
        refine Num.mk _ (wrapS (by omega)) ?_
        refine ⟨ys.length - (i + 1), _, by omega, Weak.nrm [false, true, false, false, false, false, false, false, false, true, false, false, false, false, false, false, false, false, false, false, false, false, false, false, false, false, false, true, true, true] [(40, 9)] rfl rfl rfl, i + 1, by omega, rfl, hall', ?_⟩
        rw [hsucc]
        refine Eq.trans (b := S (ys.map Ent.enc) (zs ++ [ys[i]]) (i + 1)) ?_ rfl
        show (⟨_, _⟩ : St) = ⟨_, _⟩
        rw [List.map_append]; rfl
      · have htw := tw_take (fun e => decide (e.key = key)) ys i hi hall (fun h => decide_eq_false hkk)
        rw [← htw, hfind] at hs
        subst hs
        refine Split.mk fun t ht => ?_
        rw [hyn] at ht
        cases t
        · simp at ht; omega
        refine Need.mk (by omega) ?_
        refine Row.mk _ (map_get _ ys i hia) ?_
        refine Split.mk fun t ht2 => ?_
        rw [bytes_beq] at ht2
        cases t
        · simp [hkk] at ht2
        exact Need.mk ⟨[], _, .same, rfl, rfl⟩ trivial
  · have hm' : runMay r key = false := by simpa using hm
    have hnil := runMay_not seq hm'
    rw [hnil]
    refine ACall.mk _ _ (impl_RunMay r key hr hk) ?_
    refine Split.mk fun t h1 => ?_
    cases t
    · exact Need.mk ⟨[false], _, .nil hpos .same, rfl, rfl⟩ trivial
    · rw [hm'] at h1; cases h1
end Go.Proofs.Ytlmdheeammfihaa

namespace Go.Proofs.Ytlmdheeammfihaa
open Go Go.Proofs Ev
set_option maxRecDepth 100000
set_option maxHeartbeats 1000000
theorem spec_CellDo (c : Cel) (e : Ent) : AFn Try.prog 170 [.agg (c.enc.map .c), .agg (e.enc.map .c)] [] (.agg (cellDo c e).enc) [] := by
  by_cases h1 : e.kind = 1
  · have hv : cellDo c e = ⟨true, e.text, e.n⟩ := if_pos h1
    rw [hv]
    refine AFn.introX (E := En 0 md0) (en_ok 0 md0) Try.func170 rfl rfl rfl fun _ _ => ?_
    refine Split.mk fun t h => ?_
    cases t
    case false => rw [beq_eq_false_iff_ne] at h; exact absurd h1 h
    exact Need.mk ⟨[], _, .same, rfl, rfl⟩ trivial
  · by_cases h2 : e.kind = 2
    · have hv : cellDo c e = cel0 := by unfold cellDo; rw [if_neg h1, if_pos h2]
      rw [hv]
      refine AFn.introX (E := En 0 md0) (en_ok 0 md0) Try.func170 rfl rfl rfl fun _ _ => ?_
      refine Split.mk fun t h => ?_
      cases t
      case true => rw [beq_iff_eq] at h; exact absurd h h1
      refine Split.mk fun t h => ?_
      cases t
      case false => rw [beq_eq_false_iff_ne] at h; exact absurd h2 h
      exact Need.mk ⟨[], _, .same, rfl, rfl⟩ trivial
    · by_cases h3 : e.kind = 3
      · have hv : cellDo c e = ⟨true, c.text, IntKind.i64.wrap (c.n + e.n)⟩ := by unfold cellDo; rw [if_neg h1, if_neg h2, if_pos h3]
        rw [hv]
        refine AFn.introX (E := En 0 md0) (en_ok 0 md0) Try.func170 rfl rfl rfl fun _ _ => ?_
        refine Split.mk fun t h => ?_
        cases t
        case true => rw [beq_iff_eq] at h; exact absurd h h1
        refine Split.mk fun t h => ?_
        cases t
        case true => rw [beq_iff_eq] at h; exact absurd h h2
        refine Split.mk fun t h => ?_
        cases t
        case false => rw [beq_eq_false_iff_ne] at h; exact absurd h3 h
        refine Num.mk _ rfl ?_
        exact Need.mk ⟨[], _, .same, rfl, rfl⟩ trivial
      · have hv : cellDo c e = c := by unfold cellDo; rw [if_neg h1, if_neg h2, if_neg h3]
        rw [hv]
        refine AFn.introX (E := En 0 md0) (en_ok 0 md0) Try.func170 rfl rfl rfl fun _ _ => ?_
        refine Split.mk fun t h => ?_
        cases t
        case true => rw [beq_iff_eq] at h; exact absurd h h1
        refine Split.mk fun t h => ?_
        cases t
        case true => rw [beq_iff_eq] at h; exact absurd h h2
        refine Split.mk fun t h => ?_
        cases t
        case true => rw [beq_iff_eq] at h; exact absurd h h3
        exact Need.mk ⟨[], _, .same, rfl, rfl⟩ trivial
end Go.Proofs.Ytlmdheeammfihaa

namespace Go.Proofs.Ytlmdheeammfihaa
open Go Go.Proofs Ev
set_option maxRecDepth 100000
set_option maxHeartbeats 1000000
theorem put_on (s : ByteArray) (n : Int) (c : Cel) : AFn Try.prog 196 [.agg [.c (vs s), .c (vi n)], .agg (c.enc.map .c)] [] (.agg (Cel.enc ⟨true, s, n⟩)) [] := by
  refine AFn.introX (E := En 0 md0) (en_ok 0 md0) Try.func196 rfl rfl rfl fun _ _ => ?_
  exact Need.mk ⟨[], _, .same, rfl, rfl⟩ trivial
theorem del_on (c : Cel) : AFn Try.prog 197 [.agg [], .agg (c.enc.map .c)] [] (.agg (Cel.enc cel0)) [] := by
  refine AFn.introX (E := En 0 md0) (en_ok 0 md0) Try.func197 rfl rfl rfl fun _ _ => ?_
  exact Need.mk ⟨[], _, .same, rfl, rfl⟩ trivial
theorem add_on (n : Int) (c : Cel) : AFn Try.prog 198 [.agg [.c (vi n)], .agg (c.enc.map .c)] [] (.agg (Cel.enc ⟨true, c.text, IntKind.i64.wrap (c.n + n)⟩)) [] := by
  refine AFn.introX (E := En 0 md0) (en_ok 0 md0) Try.func198 rfl rfl rfl fun _ _ => ?_
  refine Num.mk _ rfl ?_
  exact Need.mk ⟨[], _, .same, rfl, rfl⟩ trivial
theorem no_on (c : Cel) : AFn Try.prog 199 [.agg [], .agg (c.enc.map .c)] [] (.agg c.enc) [] := by
  refine AFn.introX (E := En 0 md0) (en_ok 0 md0) Try.func199 rfl rfl rfl fun _ _ => ?_
  exact Need.mk ⟨[], _, .same, rfl, rfl⟩ trivial
theorem deed_put (e : Ent) (h1 : e.kind = 1) : AFn Try.prog 130 [.agg (e.enc.map .c)] [] (.ifc 175 [vs e.text, vi e.n]) [] := by
  refine AFn.introX (E := En 0 md0) (en_ok 0 md0) Try.func130 rfl rfl rfl fun _ _ => ?_
  refine Split.mk fun t h => ?_
  cases t
  case false => rw [beq_eq_false_iff_ne] at h; exact absurd h1 h
  exact Need.mk ⟨[], _, .same, rfl, rfl⟩ trivial
theorem deed_del (e : Ent) (h1 : ¬ e.kind = 1) (h2 : e.kind = 2) : AFn Try.prog 130 [.agg (e.enc.map .c)] [] (.ifc 177 []) [] := by
  refine AFn.introX (E := En 0 md0) (en_ok 0 md0) Try.func130 rfl rfl rfl fun _ _ => ?_
  refine Split.mk fun t h => ?_
  cases t
  case true => rw [beq_iff_eq] at h; exact absurd h h1
  refine Split.mk fun t h => ?_
  cases t
  case false => rw [beq_eq_false_iff_ne] at h; exact absurd h2 h
  exact Need.mk ⟨[], _, .same, rfl, rfl⟩ trivial
theorem deed_add (e : Ent) (h1 : ¬ e.kind = 1) (h2 : ¬ e.kind = 2) (h3 : e.kind = 3) : AFn Try.prog 130 [.agg (e.enc.map .c)] [] (.ifc 179 [vi e.n]) [] := by
  refine AFn.introX (E := En 0 md0) (en_ok 0 md0) Try.func130 rfl rfl rfl fun _ _ => ?_
  refine Split.mk fun t h => ?_
  cases t
  case true => rw [beq_iff_eq] at h; exact absurd h h1
  refine Split.mk fun t h => ?_
  cases t
  case true => rw [beq_iff_eq] at h; exact absurd h h2
  refine Split.mk fun t h => ?_
  cases t
  case false => rw [beq_eq_false_iff_ne] at h; exact absurd h3 h
  exact Need.mk ⟨[], _, .same, rfl, rfl⟩ trivial
theorem deed_no (e : Ent) (h1 : ¬ e.kind = 1) (h2 : ¬ e.kind = 2) (h3 : ¬ e.kind = 3) : AFn Try.prog 130 [.agg (e.enc.map .c)] [] (.ifc 180 []) [] := by
  refine AFn.introX (E := En 0 md0) (en_ok 0 md0) Try.func130 rfl rfl rfl fun _ _ => ?_
  refine Split.mk fun t h => ?_
  cases t
  case true => rw [beq_iff_eq] at h; exact absurd h h1
  refine Split.mk fun t h => ?_
  cases t
  case true => rw [beq_iff_eq] at h; exact absurd h h2
  refine Split.mk fun t h => ?_
  cases t
  case true => rw [beq_iff_eq] at h; exact absurd h h3
  exact Need.mk ⟨[], _, .same, rfl, rfl⟩ trivial
theorem impl_CellDo (c : Cel) (e : Ent) : AFn Try.prog 78 [.agg (c.enc.map .c), .agg (e.enc.map .c)] [] (.agg (cellDo c e).enc) [] := by
  by_cases h1 : e.kind = 1
  · have hv : cellDo c e = ⟨true, e.text, e.n⟩ := if_pos h1
    rw [hv]
    have hD := deed_put e h1
    have hO := put_on e.text e.n c
    refine AFn.introX (E := En 0 md0) (en_ok 0 md0) Try.func78 rfl rfl rfl fun _ _ => ?_
    refine ACall.mk _ _ hD ?_
    refine ACall.mk _ _ hO ?_
    refine Need.mk rfl ?_
    exact Need.mk ⟨[], _, .same, rfl, rfl⟩ trivial
  · by_cases h2 : e.kind = 2
    · have hv : cellDo c e = cel0 := by unfold cellDo; rw [if_neg h1, if_pos h2]
      rw [hv]
      have hD := deed_del e h1 h2
      have hO := del_on c
      refine AFn.introX (E := En 0 md0) (en_ok 0 md0) Try.func78 rfl rfl rfl fun _ _ => ?_
      refine ACall.mk _ _ hD ?_
      refine ACall.mk _ _ hO ?_
      refine Need.mk rfl ?_
      exact Need.mk ⟨[], _, .same, rfl, rfl⟩ trivial
    · by_cases h3 : e.kind = 3
      · have hv : cellDo c e = ⟨true, c.text, IntKind.i64.wrap (c.n + e.n)⟩ := by unfold cellDo; rw [if_neg h1, if_neg h2, if_pos h3]
        rw [hv]
        have hD := deed_add e h1 h2 h3
        have hO := add_on e.n c
        refine AFn.introX (E := En 0 md0) (en_ok 0 md0) Try.func78 rfl rfl rfl fun _ _ => ?_
        refine ACall.mk _ _ hD ?_
        refine ACall.mk _ _ hO ?_
        refine Need.mk rfl ?_
        exact Need.mk ⟨[], _, .same, rfl, rfl⟩ trivial
      · have hv : cellDo c e = c := by unfold cellDo; rw [if_neg h1, if_neg h2, if_neg h3]
        rw [hv]
        have hD := deed_no e h1 h2 h3
        have hO := no_on c
        refine AFn.introX (E := En 0 md0) (en_ok 0 md0) Try.func78 rfl rfl rfl fun _ _ => ?_
        refine ACall.mk _ _ hD ?_
        refine ACall.mk _ _ hO ?_
        refine Need.mk rfl ?_
        exact Need.mk ⟨[], _, .same, rfl, rfl⟩ trivial
end Go.Proofs.Ytlmdheeammfihaa

namespace Go.Proofs.Ytlmdheeammfihaa
open Go Go.Proofs Ev
set_option maxRecDepth 100000
set_option maxHeartbeats 4000000
theorem cellAll_cmp (a b : Ent) : AFn Try.prog 76 [.agg (a.enc.map .c), .agg (b.enc.map .c)] [] (.one (vi (icmp a.seq b.seq))) [] := by
  refine AFn.introX (E := En 0 md0) (en_ok 0 md0) Try.func76 rfl rfl rfl fun _ _ => ?_
  refine ACall.mk _ _ (cmp_Compare_I _ _) ?_
  exact Need.mk ⟨[], _, .same, rfl, rfl⟩ trivial
theorem cellAll_ok : CmpOk 76 sLess := ⟨fun a b => icmp a.seq b.seq, fun _ _ => icmp_lt _ _, cellAll_cmp⟩
theorem impl_CellAll (xs : List Ent) (key : ByteArray) (seq : Int) (hl : xs.length ≤ 1048576) : AFn Try.prog 28 [sl (xs.map Ent.enc), av (.string key), av (.int .i64 seq)] [] (.agg (cellAll xs key seq).enc) [] := by
  refine AFn.introX (E := En 0 (md1 [62])) (en_ok 0 _) Try.func28 rfl rfl rfl fun _ _ => ?_
  have hpos : 0 < Try.prog.cellsOf 32 := pos_of tab_ok (t := 32) rfl
  have hn : (xs.map Ent.enc).length = xs.length := List.length_map ..
  have hfl := findE_len xs key seq
  have hex : ∃ F, findE xs key seq = F := ⟨_, rfl⟩
  obtain ⟨F, hF⟩ := hex
  rw [hF] at hfl
  have hS := slices_SortStable 76 sLess sLess_wk cellAll_ok F (by omega)
  have hres : cellAll xs key seq = (isort sLess F).foldl cellDo cel0 := by unfold cellAll mine; rw [hF]
  rw [hres]
  have hml : (isort sLess F).length ≤ 1048576 := by rw [isort_len]; omega
  have hex : ∃ ys, isort sLess F = ys := ⟨_, rfl⟩
  obtain ⟨ys, hys⟩ := hex
  rw [hys] at hml hS
  rw [hys]
  have hyn : (ys.map Ent.enc).length = ys.length := List.length_map ..
  let SR : List (List C) → Nat → St := fun R i => ⟨none :: some (av (.string key)) :: some (av (.int .i64 seq)) :: none :: none :: none :: some (.bx 6 0) :: some (.one (.ref 7 0 (.cell 0))) :: none :: none :: none :: none :: none :: some (sl (xs.map Ent.enc)) :: some (av (.int .i64 (xs.map Ent.enc).length)) :: some (av (.int .i64 i)) :: List.replicate 31 none, absent :: absent :: absent :: absent :: absent :: absent :: ⟨0, 0, some [vb false, vs ⟨#[]⟩, vi 0]⟩ :: ⟨0, 1, some [.us 32 R]⟩ :: List.replicate 39 absent⟩
  let S : List Ent → Nat → St := fun zs i => SR (zs.map Ent.enc) i
  refine ALoop.mk (fun m s => ∃ (i : Nat) (zs : List Ent), i ≤ xs.length ∧ m = xs.length - i ∧ findE (xs.take i) key seq = zs ∧ s = S zs i)
    ⟨_, _, Weak.trans (Weak.nrm [false, true, true, false, false, false, true, true, false, false, false, false, false, true, true, true] [(6, 6)] rfl rfl rfl) (Weak.nilOwn 7 7 32 rfl rfl hpos), 0, [], Nat.zero_le _, rfl, rfl, rfl⟩ ?_
  rintro m s ⟨i, zs, hi, rfl, hz, hs⟩
  by_cases hin : i = xs.length
  · subst hin
    rw [List.take_length, hF] at hz
    subst hz
    subst hs
    refine Split.mk fun t h1 => ?_
    cases t
    case true => (exfalso; rw [decide_eq_true_iff] at h1; omega)
    rw [decide_eq_false_iff_not] at h1
    refine ACall.mk _ _ hS ?_
    let S2 : Cel → Nat → St := fun c i => ⟨none :: none :: none :: none :: none :: none :: some (.bx 6 0) :: none :: none :: none :: some (.bx 10 0) :: none :: none :: none :: none :: none :: none :: none :: none :: none :: none :: none :: none :: none :: none :: none :: none :: none :: none :: none :: none :: none :: none :: none :: none :: none :: some (.one (.ref 36 0 (.cell 0))) :: some (av (.int .i64 (ys.map Ent.enc).length)) :: some (av (.int .i64 i)) :: List.replicate 8 none, absent :: absent :: absent :: absent :: absent :: absent :: ⟨0, 0, some [vb false, vs ⟨#[]⟩, vi 0]⟩ :: absent :: absent :: absent :: ⟨0, 0, some c.enc⟩ :: absent :: absent :: absent :: absent :: absent :: absent :: absent :: absent :: absent :: absent :: absent :: absent :: absent :: absent :: absent :: absent :: absent :: absent :: absent :: absent :: absent :: absent :: absent :: absent :: absent :: ⟨0, 1, some [.us 32 (ys.map Ent.enc)]⟩ :: List.replicate 10 absent⟩
    refine ALoop.mk (fun m s => ∃ (i : Nat) (c : Cel), i ≤ ys.length ∧ m = ys.length - i ∧ (ys.take i).foldl cellDo cel0 = c ∧ s = S2 c i)
      ⟨_, _, Weak.nrm [false, false, false, false, false, false, true, false, false, false, true, false, false, false, false, false, false, false, false, false, false, false, false, false, false, false, false, false, false, false, false, false, false, false, false, false, true, true, true] [(6, 6), (10, 10), (7, 36)] rfl rfl rfl, 0, cel0, Nat.zero_le _, rfl, rfl, rfl⟩ ?_
    rintro m s ⟨i, c, hi, rfl, hc, hs⟩
    by_cases hin : i = ys.length
    · subst hin
      rw [List.take_length] at hc
      rw [hc]
      subst hs
      refine Split.mk fun t h1 => ?_
      cases t
      case true => (exfalso; rw [decide_eq_true_iff] at h1; omega)
      rw [decide_eq_false_iff_not] at h1
      exact Need.mk ⟨[], _, .same, rfl, rfl⟩ trivial
    · have hia : i < ys.length := by omega
      have hft := fold_take cellDo cel0 ys i hia
      rw [hc] at hft
      have hD := impl_CellDo c ys[i]
      subst hs
      refine Split.mk fun t h1 => ?_
      cases t
      case false => (exfalso; rw [decide_eq_false_iff_not] at h1; omega)
      rw [decide_eq_true_iff] at h1
      refine Need.mk (by omega) ?_
      refine Row.mk _ (map_get _ ys i (by omega)) ?_
      refine ACall.mk _ _ hD ?_
      refine Num.mk _ (wrapS (by omega)) ?_
      exact ⟨ys.length - (i + 1), _, by omega, Weak.nrm [false, false, false, false, false, false, true, false, false, false, true, false, false, false, false, false, false, false, false, false, false, false, false, false, false, false, false, false, false, false, false, false, false, false, false, false, true, true, true] [(6, 6), (10, 10), (36, 36)] rfl rfl rfl, i + 1, cellDo c ys[i], by omega, rfl, hft, rfl⟩
  · have hia : i < xs.length := by omega
    have hzl := findE_len (xs.take i) key seq
    rw [hz, List.length_take] at hzl
    have hsn := findE_snoc (xs.take i) xs[i] key seq
    rw [← List.take_succ_eq_append_getElem hia, hz] at hsn
    by_cases hk : xs[i].key = key
    · by_cases hq : xs[i].seq ≤ seq
      · rw [decide_eq_true hk, decide_eq_true hq] at hsn
        subst hs
        refine Split.mk fun t h1 => ?_
        cases t
        case false => (exfalso; rw [decide_eq_false_iff_not] at h1; omega)
        rw [decide_eq_true_iff] at h1
        refine Need.mk (by omega) ?_
        refine Row.mk _ (map_get _ xs i (by omega)) ?_
        refine Split.mk fun t h2 => ?_
        cases t
        case false => (exfalso; rw [bytes_beq, decide_eq_false_iff_not] at h2; exact absurd ‹_› h2)
        rw [bytes_beq, decide_eq_true_iff] at h2
        refine Split.mk fun t h3 => ?_
        cases t
        case false => (exfalso; rw [decide_eq_false_iff_not] at h3; omega)
        rw [decide_eq_true_iff] at h3
        refine Need.mk (appOk (m := 1) (List.length_map ..) rfl (by omega) (by decide)) ?_
        refine Num.mk _ (wrapS (by omega)) ?_
        refine ⟨xs.length - (i + 1), _, by omega, Weak.nrm [false, true, true, false, false, false, true, true, false, false, false, false, false, true, true, true] [(6, 6), (32, 7)] rfl rfl rfl, i + 1, zs ++ [xs[i]], by omega, rfl, hsn, ?_⟩
        exact Eq.trans (b := S (zs ++ [xs[i]]) (i + 1)) (congrArg (fun R => SR R (i + 1)) (by rw [List.map_append]; rfl)) rfl
      · rw [decide_eq_true hk, decide_eq_false hq, Bool.and_false, cond_false, List.append_nil] at hsn
        subst hs
        refine Split.mk fun t h1 => ?_
        cases t
        case false => (exfalso; rw [decide_eq_false_iff_not] at h1; omega)
        rw [decide_eq_true_iff] at h1
        refine Need.mk (by omega) ?_
        refine Row.mk _ (map_get _ xs i (by omega)) ?_
        refine Split.mk fun t h2 => ?_
        cases t
        case false => (exfalso; rw [bytes_beq, decide_eq_false_iff_not] at h2; exact absurd ‹_› h2)
        rw [bytes_beq, decide_eq_true_iff] at h2
        refine Split.mk fun t h3 => ?_
        cases t
        case true => (exfalso; rw [decide_eq_true_iff] at h3; omega)
        rw [decide_eq_false_iff_not] at h3
        refine Num.mk _ (wrapS (by omega)) ?_
        exact ⟨xs.length - (i + 1), _, by omega, Weak.nrm [false, true, true, false, false, false, true, true, false, false, false, false, false, true, true, true] [(6, 6), (7, 7)] rfl rfl rfl, i + 1, zs, by omega, rfl, hsn, rfl⟩
    · rw [decide_eq_false hk, Bool.false_and, cond_false, List.append_nil] at hsn
      subst hs
      refine Split.mk fun t h1 => ?_
      cases t
      case false => (exfalso; rw [decide_eq_false_iff_not] at h1; omega)
      rw [decide_eq_true_iff] at h1
      refine Need.mk (by omega) ?_
      refine Row.mk _ (map_get _ xs i (by omega)) ?_
      refine Split.mk fun t h2 => ?_
      cases t
      case true => (exfalso; rw [bytes_beq, decide_eq_true_iff] at h2; exact absurd h2 ‹_›)
      rw [bytes_beq, decide_eq_false_iff_not] at h2
      refine Num.mk _ (wrapS (by omega)) ?_
      exact ⟨xs.length - (i + 1), _, by omega, Weak.nrm [false, true, true, false, false, false, true, true, false, false, false, false, false, true, true, true] [(6, 6), (7, 7)] rfl rfl rfl, i + 1, zs, by omega, rfl, hsn, rfl⟩
end Go.Proofs.Ytlmdheeammfihaa

namespace Go.Proofs.Ytlmdheeammfihaa
open Go Go.Proofs Ev
set_option maxRecDepth 100000
theorem laws_wpEnts (a b : List Ent) (ha : a.length ≤ 1048576) : AFn Try.prog 21 [sl (a.map Ent.enc), sl (b.map Ent.enc)] [] (rb (decide (a = b))) [] := by
  refine AFn.introX (E := En 0 md0) (en_ok 0 md0) Try.func21 rfl rfl rfl fun _ _ => ?_
  have fin : ∀ {c : Bool}, c = decide (a = b) → rb c = rb (decide (a = b)) := fun h => by rw [h]
  have hal : (a.map Ent.enc).length = a.length := List.length_map ..
  have hbl : (b.map Ent.enc).length = b.length := List.length_map ..
  refine Split.mk fun t ht => ?_
  cases t
  · have hl : a.length = b.length := Int.ofNat_inj.1 (by simpa using ht)
    refine ALoop.mk (fun n s => ∃ i : Nat, i ≤ a.length ∧ n = a.length - i ∧ a.take i = b.take i ∧
      s = ⟨some (sl (a.map Ent.enc)) :: some (sl (b.map Ent.enc)) :: none :: none :: some (av (.bool false)) :: some (av (.int .i64 i)) :: List.replicate 20 none, List.replicate 26 absent⟩)
      ⟨a.length, _, Weak.nrm [true, true, false, false, true, true] [] rfl rfl rfl, 0, Nat.zero_le _, rfl, rfl, rfl⟩ ?_
    rintro n s ⟨i, hi, rfl, hp, rfl⟩
    refine Split.mk fun t ht => ?_
    cases t
    · have hia : i = a.length := by simp at ht; omega
      refine Need.mk ⟨[], _, .same, fin ?_, rfl⟩ trivial
      subst hia
      rw [List.take_length, hl, List.take_length] at hp
      simp [hp]
    · have hia : i < a.length := by simpa using ht
      refine Need.mk (by omega) ?_
      refine Row.mk _ (map_get _ a i hia) ?_
      refine Need.mk (by omega) ?_
      refine Row.mk _ (map_get _ b i (by omega)) ?_
      refine Split.mk fun t ht2 => ?_
      have ht2 : (!decide (a[i] = b[i]'(by omega))) = t := by rw [← ent_beq]; exact ht2
      cases t
      · refine Need.mk rfl ?_
        refine Num.mk _ (wrapS (by omega)) ?_
        refine ⟨a.length - (i + 1), _, by omega, Weak.nrm [true, true, false, false, true, true] [] rfl rfl rfl, i + 1, by omega, rfl, ?_, rfl⟩
        have : a[i] = b[i]'(by omega) := by simpa using ht2
        rw [List.take_succ_eq_append_getElem hia, List.take_succ_eq_append_getElem (by omega), hp, this]
      · refine Need.mk rfl ?_
        refine Need.mk ⟨[], _, .same, fin ?_, rfl⟩ trivial
        have : a[i] ≠ b[i]'(by omega) := by simpa using ht2
        refine (decide_eq_false fun e => this ?_).symm
        subst e; rfl
  · refine Need.mk ⟨[], _, .same, fin ?_, rfl⟩ trivial
    have : a.length ≠ b.length := by
      intro e; simp [e] at ht
    exact (decide_eq_false fun e => this (by rw [e])).symm
end Go.Proofs.Ytlmdheeammfihaa

namespace Go.Proofs.Ytlmdheeammfihaa
open Go Go.Proofs Ev
set_option maxRecDepth 100000
set_option maxHeartbeats 4000000
theorem laws_FnRunFind (bs : List Nat) (hb : ∀ b ∈ bs, b < 256) : AFn Try.prog 6 [sl (bs.map encB)] [] (rb true) [] := by
  have hbl : (bs.map encB).length = bs.length := List.length_map ..
  by_cases hl : bs.length ≤ 1048576
  · obtain ⟨r, key, seq, hD, hn, hE, hI, hkz, hsq⟩ := Draw_RunFind bs hb hl
    have hOk : OkE r.ents := fun e he => (hE e he).ok
    have hks : key.size ≤ maxLen := Nat.le_trans hkz (by decide)
    have hF1 := impl_RunFind r key (seq : Int) hOk hks
    have hF2 := spec_RunFind r key (seq : Int) hOk (by omega)
    have hF3 := impl_RunFind r key ((seq + 1 : Nat) : Int) hOk hks
    have hO2 := spec_RunOk r hOk (by omega)
    have hrl : (r.ents.map Ent.enc).length = r.ents.length := List.length_map ..
    have hzl : (runFind r key (seq : Int)).length ≤ 20 := by
      unfold runFind
      cases runOk r
      · exact Nat.zero_le _
      · exact Nat.le_trans (findE_len _ _ _) hn
    have hmono : (runFind r key (seq : Int)).length ≤ (runFind r key ((seq + 1 : Nat) : Int)).length := by
      unfold runFind
      cases runOk r
      · exact Nat.le_refl _
      · exact findE_mono _ _ (by omega)
    have hW := laws_wpEnts (runFind r key (seq : Int)) (runFind r key (seq : Int)) (by omega)
    rw [decide_eq_true rfl] at hW
    have hC1 := impl_CellAll (runFind r key (seq : Int)) key (seq : Int) (by omega)
    have hC2 := impl_CellAll r.ents key (seq : Int) (by omega)
    have hq : runOk r = true → (runFind r key (seq : Int) = findE r.ents key (seq : Int)) ∧ (runFind r key (seq : Int)).Pairwise fun x y => y.seq < x.seq := fun hk => by
      have : runFind r key (seq : Int) = findE r.ents key (seq : Int) := by unfold runFind; rw [hk]; rfl
      rw [this]
      exact ⟨rfl, findE_desc (pw_of_ord (runOk_len hk).2.2.1) key _⟩
    have hex : ∃ us, runFind r key ((seq + 1 : Nat) : Int) = us := ⟨_, rfl⟩
    obtain ⟨us, hus⟩ := hex
    rw [hus] at hF3 hmono
    have hul : (us.map Ent.enc).length = us.length := List.length_map ..
    have hex : ∃ zs, runFind r key (seq : Int) = zs := ⟨_, rfl⟩
    obtain ⟨zs, hzs⟩ := hex
    rw [hzs] at hF1 hF2 hW hzl hC1 hq hmono
    have hzn : (zs.map Ent.enc).length = zs.length := List.length_map ..
    cases hk : runOk r with
    | false =>
      rw [hk] at hO2
      have hz0 : zs = [] := by rw [← hzs]; unfold runFind; rw [hk]; rfl
      have hz1 : zs.length = 0 := by rw [hz0]; rfl
      refine AFn.introX (E := En 0 md0 (fz := [6]) (fb := [3])) (en_ok 0 _ _ _ _ _) Try.func6 rfl rfl rfl fun _ _ => ?_
      refine Split.mk fun t h1 => ?_
      cases t
      case true => (exfalso; rw [decide_eq_true_iff] at h1; omega)
      rw [decide_eq_false_iff_not] at h1
      refine ACall.mk _ _ hD ?_
      refine Fz.mk _ (frzE _) ?_
      refine ACall.mk _ _ hF1 ?_
      refine Fz.mk _ (frzE _) ?_
      refine ACall.mk _ _ hF2 ?_
      refine Fz.mk _ (frzE _) ?_
      refine ACall.mk _ _ hW ?_
      refine Need.mk (⟨closed_v, no_objs⟩) ?_
      refine Split.mk fun t h2 => ?_
      cases t
      case false => cases h2
      refine ACall.mk _ _ hO2 ?_
      refine Split.mk fun t h3 => ?_
      cases t
      case true => cases h3
      refine Split.mk fun t h4 => ?_
      cases t
      case false => (exfalso; rw [beq_eq_false_iff_ne] at h4; omega)
      rw [beq_iff_eq] at h4
      exact Need.mk ⟨[], _, .same, rfl, rfl⟩ trivial
    | true =>
      rw [hk] at hO2
      obtain ⟨hq1, hq2⟩ := hq hk
      have hp := List.pairwise_iff_getElem.1 hq2
      have hm : ∀ e ∈ zs, e.key = key ∧ e.seq ≤ (seq : Int) := fun e he => by rw [hq1] at he; exact findE_mem he
      have hcc : cellAll zs key (seq : Int) = cellAll r.ents key (seq : Int) := by rw [hq1]; exact cellAll_find _ _ _
      rw [hcc] at hC1
      have hex : ∃ c, cellAll r.ents key (seq : Int) = c := ⟨_, rfl⟩
      obtain ⟨c, hc⟩ := hex
      rw [hc] at hC1 hC2
      have hcr : c = c := rfl
      refine AFn.introX (E := En 0 md0 (fz := [6]) (fb := [3])) (en_ok 0 _ _ _ _ _) Try.func6 rfl rfl rfl fun _ _ => ?_
      refine Split.mk fun t h1 => ?_
      cases t
      case true => (exfalso; rw [decide_eq_true_iff] at h1; omega)
      rw [decide_eq_false_iff_not] at h1
      refine ACall.mk _ _ hD ?_
      refine Fz.mk _ (frzE _) ?_
      refine ACall.mk _ _ hF1 ?_
      refine Fz.mk _ (frzE _) ?_
      refine ACall.mk _ _ hF2 ?_
      refine Fz.mk _ (frzE _) ?_
      refine ACall.mk _ _ hW ?_
      refine Need.mk (⟨closed_v, no_objs⟩) ?_
      refine Split.mk fun t h2 => ?_
      cases t
      case false => cases h2
      refine ACall.mk _ _ hO2 ?_
      refine Split.mk fun t h3 => ?_
      cases t
      case false => cases h3
      let S : Nat → St := fun i => ⟨none :: none :: none :: some (.bx 3 0) :: some (av (.string key)) :: some (av (.int .i64 (seq : Nat))) :: some (sl (zs.map Ent.enc)) :: some (av (.int .i64 i)) :: List.replicate 87 none, absent :: absent :: absent :: ⟨0, 0, some [.sl (r.ents.map Ent.enc), vi r.mask]⟩ :: List.replicate 91 absent⟩
      refine ALoop.mk (fun m s => ∃ i : Nat, i ≤ zs.length ∧ m = zs.length - i ∧ s = S i)
        ⟨_, _, Weak.nrm [false, false, false, true, true, true, true, true] [(3, 3)] rfl rfl rfl, 0, Nat.zero_le _, rfl, rfl⟩ ?_
      rintro m s ⟨i, hi, rfl, hs⟩
      by_cases hin : i = zs.length
      · subst hs
        refine Split.mk fun t h1 => ?_
        cases t
        case true => (exfalso; rw [decide_eq_true_iff] at h1; omega)
        rw [decide_eq_false_iff_not] at h1
        refine ACall.mk _ _ hC1 ?_
        refine ACall.mk _ _ hC2 ?_
        refine Split.mk fun t h2 => ?_
        cases t
        case false => (exfalso; rw [cel_beq, decide_eq_false_iff_not] at h2; exact absurd ‹_› h2)
        rw [cel_beq, decide_eq_true_iff] at h2
        refine Num.mk _ (wrapS (by omega)) ?_
        refine ACall.mk _ _ hF3 ?_
        refine Split.mk fun t h3 => ?_
        cases t
        case false => (exfalso; rw [decide_eq_false_iff_not] at h3; omega)
        rw [decide_eq_true_iff] at h3
        refine Need.mk (rfl) ?_
        exact Need.mk ⟨[], _, .same, rfl, rfl⟩ trivial
      · have hia : i < zs.length := by omega
        obtain ⟨hmi, hmi2⟩ := hm _ (List.getElem_mem hia)
        by_cases hi0 : i = 0
        · subst hs
          refine Split.mk fun t h1 => ?_
          cases t
          case false => (exfalso; rw [decide_eq_false_iff_not] at h1; omega)
          rw [decide_eq_true_iff] at h1
          refine Need.mk (by omega) ?_
          refine Row.mk _ (map_get _ zs i (by omega)) ?_
          refine Split.mk fun t h2 => ?_
          cases t
          case true => (exfalso; rw [Bool.not_eq_true', bytes_beq, decide_eq_false_iff_not] at h2; exact absurd ‹_› h2)
          rw [Bool.not_eq_false', bytes_beq, decide_eq_true_iff] at h2
          refine Need.mk (by omega) ?_
          refine Row.mk _ (map_get _ zs i (by omega)) ?_
          refine Split.mk fun t h3 => ?_
          cases t
          case true => (exfalso; rw [decide_eq_true_iff] at h3; omega)
          rw [decide_eq_false_iff_not] at h3
          refine Split.mk fun t h4 => ?_
          cases t
          case true => (exfalso; rw [decide_eq_true_iff] at h4; omega)
          rw [decide_eq_false_iff_not] at h4
          refine Need.mk (rfl) ?_
          refine Num.mk _ (wrapS (by omega)) ?_
          exact ⟨_, _, by omega, Weak.nrm [false, false, false, true, true, true, true, true] [(3, 3)] rfl rfl rfl, i + 1, by omega, rfl, rfl⟩
        · have hi1 : i - 1 < zs.length := by omega
          have hdd := hp (i - 1) i hi1 hia (by omega)
          have hsub : IntKind.i64.wrap ((i : Int) - 1) = ((i - 1 : Nat) : Int) := wrapI' (by omega) (by omega)
          subst hs
          refine Split.mk fun t h1 => ?_
          cases t
          case false => (exfalso; rw [decide_eq_false_iff_not] at h1; omega)
          rw [decide_eq_true_iff] at h1
          refine Need.mk (by omega) ?_
          refine Row.mk _ (map_get _ zs i (by omega)) ?_
          refine Split.mk fun t h2 => ?_
          cases t
          case true => (exfalso; rw [Bool.not_eq_true', bytes_beq, decide_eq_false_iff_not] at h2; exact absurd ‹_› h2)
          rw [Bool.not_eq_false', bytes_beq, decide_eq_true_iff] at h2
          refine Need.mk (by omega) ?_
          refine Row.mk _ (map_get _ zs i (by omega)) ?_
          refine Split.mk fun t h3 => ?_
          cases t
          case true => (exfalso; rw [decide_eq_true_iff] at h3; omega)
          rw [decide_eq_false_iff_not] at h3
          refine Split.mk fun t h4 => ?_
          cases t
          case false => (exfalso; rw [decide_eq_false_iff_not] at h4; omega)
          rw [decide_eq_true_iff] at h4
          refine Num.mk _ hsub ?_
          refine Need.mk (by omega) ?_
          refine Row.mk _ (map_get _ zs (i - 1) (by omega)) ?_
          refine Need.mk (by omega) ?_
          refine Row.mk _ (map_get _ zs i (by omega)) ?_
          refine Split.mk fun t h5 => ?_
          cases t
          case true => (exfalso; rw [decide_eq_true_iff] at h5; omega)
          rw [decide_eq_false_iff_not] at h5
          refine Need.mk (rfl) ?_
          refine Num.mk _ (wrapS (by omega)) ?_
          exact ⟨_, _, by omega, Weak.nrm [false, false, false, true, true, true, true, true] [(3, 3)] rfl rfl rfl, i + 1, by omega, rfl, rfl⟩
  · refine AFn.introX (E := En 0 md0 (fz := [6]) (fb := [3])) (en_ok 0 _ _ _ _ _) Try.func6 rfl rfl rfl fun _ _ => ?_
    refine Split.mk fun t h1 => ?_
    cases t
    case false => (exfalso; rw [decide_eq_false_iff_not] at h1; omega)
    rw [decide_eq_true_iff] at h1
    exact Need.mk ⟨[], _, .same, rfl, rfl⟩ trivial
theorem laws_FnRunFind_any (c0 : C) (h0 : Sh (.slice tyB) c0) : AFn Try.prog 6 [.one (.c c0)] [] (rb true) [] := by
  obtain ⟨bs, rfl, hb⟩ := dec_bytes h0
  exact laws_FnRunFind bs hb
end Go.Proofs.Ytlmdheeammfihaa
