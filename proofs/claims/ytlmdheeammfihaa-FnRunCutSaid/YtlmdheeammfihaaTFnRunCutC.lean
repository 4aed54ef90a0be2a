/-
  Contracts of functions, part 3.
-/
import Derived.Test.YtlmdheeammfihaaTFnRunCutB
namespace Go.Proofs.Ytlmdheeammfihaa
open Go Go.Proofs Ev
set_option maxRecDepth 100000
set_option maxHeartbeats 4000000
def drawM : List Int := [1, -1, 65536]
def aEnt : Ent := ⟨⟨#[97]⟩, 1, 1, ⟨#[]⟩, 2⟩
theorem l4_Draw1 (bs : List Nat) (p q0 : Nat) (G : List Ent) (hb : OkB bs) (hp : p ≤ 980000) (hq0 : q0 ≤ p + 100) (hG0 : 0 < G.length) (hGn : G.length ≤ 12) (hG : ∀ e ∈ G, DE e)
    (hE : AFnK Try.prog 79 [.bx 0 0, av (.int .i64 (12 : Nat))] [rd bs p] [0] (.one (.us 32 (G.map Ent.enc))) [rd bs q0]) :
    ∃ (r : Rn) (q : Nat), AFnK Try.prog 53 [.bx 0 0] [rd bs p] [0] (.agg (encO r)) [rd bs q] ∧ q ≤ p + 200 ∧ r.ents.length ≤ 20 ∧ (∀ e ∈ r.ents, DE e) ∧ I64 r.mask := by
  have hGl : (G.map Ent.enc).length = G.length := List.length_map ..
  have hmk := rmask_lt G
  have hR := spec_l4RunO G (fun e he => (hG e he).ok) (by omega)
  have hk : pickV bs q0 G.length < G.length := pickV_lt hG0
  have hP := l9_pick bs q0 G.length hb (by omega) (by omega)
  have hP2 := l9_pick bs (q0 + 1) 50 hb (by omega) (by omega)
  have hex : ∃ k, pickV bs q0 G.length = k := ⟨_, rfl⟩
  obtain ⟨k, hkk⟩ := hex
  rw [hkk] at hP hk
  rw [← hGl] at hP
  have hkn : (0 : Int) ≤ (k : Int) ∧ (k : Int) < ((G.map Ent.enc).length : Nat) := by rw [hGl]; omega
  have hex : ∃ c, pickV bs (q0 + 1) 50 = c := ⟨_, rfl⟩
  obtain ⟨c, hcc⟩ := hex
  rw [hcc] at hP2
  by_cases h0 : c = 0
  · subst h0
    have hO := l9_num bs (q0 + 2) drawM hb (by omega) (by decide) (by decide)
    have hm : drawM.getD (pickV bs (q0 + 2) drawM.length) 0 ∈ drawM := getD_mem (pickV_lt (by decide))
    have hex : ∃ s, drawM.getD (pickV bs (q0 + 2) drawM.length) 0 = s := ⟨_, rfl⟩
    obtain ⟨s, hs⟩ := hex
    rw [hs] at hO hm
    have hs2 : -1 ≤ s ∧ s ≤ 65536 := by
      simp only [drawM, List.mem_cons, List.not_mem_nil, or_false] at hm
      omega
    refine ⟨⟨G, (rmask G : Nat) + s⟩, q0 + 3, ?_, by omega, by show G.length ≤ 20; omega, hG, ⟨by show _ ≤ (rmask G : Int) + s; omega, by show (rmask G : Int) + s ≤ _; omega⟩⟩
    refine AFnK.introX (E := En 1 (mdv [116] [80]) (vw := [3])) (en_ok 1 _ _ _ _) Try.func53 rfl rfl rfl fun _ _ => ?_
    refine ACall.mk _ _ hE ?_
    refine Split.mk fun t ht => ?_
    cases t
    case true => rw [beq_iff_eq] at ht; omega
    refine Need.mk ⟨rfl, rfl⟩ ?_
    refine ACall.mk _ _ hR ?_
    refine ACall.mk _ _ hP ?_
    refine ACall.mk _ _ hP2 ?_
    refine Split.mk fun t ht => ?_
    cases t
    · cases ht
    refine Fz.mk _ (frzI drawM) ?_
    refine ACall.mk _ _ hO ?_
    refine Num.mk ((rmask G : Nat) + s) (wrapI (by omega) (by omega)) ?_
    refine Need.mk rfl ?_
    exact Need.mk ⟨[], _, .same, rfl, rfl⟩ trivial
  by_cases h1 : c = 1
  · subst h1
    obtain ⟨e1, q1, hB1, g1, d1⟩ := l3_Bent bs (q0 + 2) G[k] hb (by omega) (hG _ (List.getElem_mem hk))
    obtain ⟨e2, q2, hB2, g2, d2⟩ := l3_Bent bs q1 e1 hb (by omega) d1
    obtain ⟨e3, q3, hB3, g3, d3⟩ := l3_Bent bs q2 e2 hb (by omega) d2
    refine ⟨⟨G.set k e3, (rmask G : Nat)⟩, q3, ?_, by omega, by show (G.set k e3).length ≤ 20; rw [List.length_set]; omega, fun e he => ?_, ⟨by show _ ≤ (rmask G : Int); omega, by show (rmask G : Int) ≤ _; omega⟩⟩
    case refine_2 =>
      rcases List.mem_or_eq_of_mem_set he with h | h
      · exact hG e h
      · subst h; exact d3
    refine AFnK.introX (E := En 1 (mdv [116] [80]) (vw := [3])) (en_ok 1 _ _ _ _) Try.func53 rfl rfl rfl fun _ _ => ?_
    refine ACall.mk _ _ hE ?_
    refine Split.mk fun t ht => ?_
    cases t
    case true => rw [beq_iff_eq] at ht; omega
    refine Need.mk ⟨rfl, rfl⟩ ?_
    refine ACall.mk _ _ hR ?_
    refine ACall.mk _ _ hP ?_
    refine ACall.mk _ _ hP2 ?_
    refine Split.mk fun t ht => ?_
    cases t
    case true => cases ht
    refine Split.mk fun t ht => ?_
    cases t
    · cases ht
    refine Need.mk hkn ?_
    refine Row.mk _ (map_get _ G k hk) ?_
    refine ACall.mk _ _ hB1 ?_
    refine ACall.mk _ _ hB2 ?_
    refine ACall.mk _ _ hB3 ?_
    refine Need.mk hkn ?_
    refine Row.mk _ (map_get _ G k hk) ?_
    refine Need.mk rfl ?_
    refine Need.mk ⟨[], _, .same, ?_, rfl⟩ trivial
    exact congrArg (fun R => RV.agg [.us 32 R, vi (rmask G : Nat)]) (List.map_set ..).symm
  by_cases h2 : c = 2
  · subst h2
    refine ⟨⟨G ++ [G[k]], (rmask G : Nat)⟩, q0 + 2, ?_, by omega, by show (G ++ [G[k]]).length ≤ 20; rw [List.length_append]; simp <;> omega, fun e he => ?_, ⟨by show _ ≤ (rmask G : Int); omega, by show (rmask G : Int) ≤ _; omega⟩⟩
    case refine_2 =>
      rcases List.mem_append.1 he with h | h
      · exact hG e h
      · rw [List.mem_singleton.1 h]; exact hG _ (List.getElem_mem hk)
    refine AFnK.introX (E := En 1 (mdv [116] [80]) (vw := [3])) (en_ok 1 _ _ _ _) Try.func53 rfl rfl rfl fun _ _ => ?_
    refine ACall.mk _ _ hE ?_
    refine Split.mk fun t ht => ?_
    cases t
    case true => rw [beq_iff_eq] at ht; omega
    refine Need.mk ⟨rfl, rfl⟩ ?_
    refine ACall.mk _ _ hR ?_
    refine ACall.mk _ _ hP ?_
    refine ACall.mk _ _ hP2 ?_
    refine Split.mk fun t ht => ?_
    cases t
    case true => cases ht
    refine Split.mk fun t ht => ?_
    cases t
    case true => cases ht
    refine Split.mk fun t ht => ?_
    cases t
    · cases ht
    refine Need.mk hkn ?_
    refine Row.mk _ (map_get _ G k hk) ?_
    refine Need.mk (sizeOk _ _ G [G[k]] rfl rfl (by simp <;> omega)) ?_
    refine Need.mk rfl ?_
    refine Need.mk ⟨[], _, .same, ?_, rfl⟩ trivial
    refine congrArg (fun R => RV.agg [.us 32 R, vi (rmask G : Nat)]) (?_ : G.map Ent.enc ++ [G[k].enc] = _)
    rw [List.map_append]; rfl
  by_cases h3 : c = 3
  · subst h3
    refine ⟨⟨[], (rmask G : Nat)⟩, q0 + 2, ?_, by omega, by exact Nat.zero_le _, fun e he => (nomatch he), ⟨by show _ ≤ (rmask G : Int); omega, by show (rmask G : Int) ≤ _; omega⟩⟩
    refine AFnK.introX (E := En 1 (mdv [116] [80]) (vw := [3])) (en_ok 1 _ _ _ _) Try.func53 rfl rfl rfl fun _ _ => ?_
    refine ACall.mk _ _ hE ?_
    refine Split.mk fun t ht => ?_
    cases t
    case true => rw [beq_iff_eq] at ht; omega
    refine Need.mk ⟨rfl, rfl⟩ ?_
    refine ACall.mk _ _ hR ?_
    refine ACall.mk _ _ hP ?_
    refine ACall.mk _ _ hP2 ?_
    refine Split.mk fun t ht => ?_
    cases t
    case true => cases ht
    refine Split.mk fun t ht => ?_
    cases t
    case true => cases ht
    refine Split.mk fun t ht => ?_
    cases t
    case true => cases ht
    refine Split.mk fun t ht => ?_
    cases t
    · cases ht
    exact Need.mk ⟨[], _, .same, rfl, rfl⟩ trivial
  by_cases h4 : c = 4
  · subst h4
    refine ⟨⟨G, 65535⟩, q0 + 2, ?_, by omega, by show G.length ≤ 20; omega, hG, by show I64 65535; exact ⟨by decide, by decide⟩⟩
    refine AFnK.introX (E := En 1 (mdv [116] [80]) (vw := [3])) (en_ok 1 _ _ _ _) Try.func53 rfl rfl rfl fun _ _ => ?_
    refine ACall.mk _ _ hE ?_
    refine Split.mk fun t ht => ?_
    cases t
    case true => rw [beq_iff_eq] at ht; omega
    refine Need.mk ⟨rfl, rfl⟩ ?_
    refine ACall.mk _ _ hR ?_
    refine ACall.mk _ _ hP ?_
    refine ACall.mk _ _ hP2 ?_
    refine Split.mk fun t ht => ?_
    cases t
    case true => cases ht
    refine Split.mk fun t ht => ?_
    cases t
    case true => cases ht
    refine Split.mk fun t ht => ?_
    cases t
    case true => cases ht
    refine Split.mk fun t ht => ?_
    cases t
    case true => cases ht
    refine Split.mk fun t ht => ?_
    cases t
    · cases ht
    exact Need.mk ⟨[], _, .same, rfl, rfl⟩ trivial
  · skip
    refine ⟨⟨G, (rmask G : Nat)⟩, q0 + 2, ?_, by omega, by show G.length ≤ 20; omega, hG, ⟨by show _ ≤ (rmask G : Int); omega, by show (rmask G : Int) ≤ _; omega⟩⟩
    refine AFnK.introX (E := En 1 (mdv [116] [80]) (vw := [3])) (en_ok 1 _ _ _ _) Try.func53 rfl rfl rfl fun _ _ => ?_
    refine ACall.mk _ _ hE ?_
    refine Split.mk fun t ht => ?_
    cases t
    case true => rw [beq_iff_eq] at ht; omega
    refine Need.mk ⟨rfl, rfl⟩ ?_
    refine ACall.mk _ _ hR ?_
    refine ACall.mk _ _ hP ?_
    refine ACall.mk _ _ hP2 ?_
    refine Split.mk fun t ht => ?_
    cases t
    case true => rw [beq_iff_eq] at ht; omega
    refine Split.mk fun t ht => ?_
    cases t
    case true => rw [beq_iff_eq] at ht; omega
    refine Split.mk fun t ht => ?_
    cases t
    case true => rw [beq_iff_eq] at ht; omega
    refine Split.mk fun t ht => ?_
    cases t
    case true => rw [beq_iff_eq] at ht; omega
    refine Split.mk fun t ht => ?_
    cases t
    case true => rw [beq_iff_eq] at ht; omega
    exact Need.mk ⟨[], _, .same, rfl, rfl⟩ trivial
theorem l4_Draw0 (bs : List Nat) (p q0 : Nat) (hb : OkB bs) (hp : p ≤ 980000) (hq0 : q0 ≤ p + 100)
    (hE : AFnK Try.prog 79 [.bx 0 0, av (.int .i64 (12 : Nat))] [rd bs p] [0] (.one (.us 32 (([] : List Ent).map Ent.enc))) [rd bs q0]) :
    ∃ (r : Rn) (q : Nat), AFnK Try.prog 53 [.bx 0 0] [rd bs p] [0] (.agg (encO r)) [rd bs q] ∧ q ≤ p + 200 ∧ r.ents.length ≤ 20 ∧ (∀ e ∈ r.ents, DE e) ∧ I64 r.mask := by
  have hex : ∃ G : List Ent, G = [aEnt] := ⟨_, rfl⟩
  obtain ⟨G, hGe⟩ := hex
  have hG0 : 0 < G.length := by rw [hGe]; decide
  have hGn : G.length ≤ 12 := by rw [hGe]; decide
  have hG : ∀ e ∈ G, DE e := fun e he => by
    rw [hGe] at he; rw [List.mem_singleton.1 he]
    exact ⟨by decide, by decide, ⟨by decide, by decide⟩, ⟨by decide, by decide⟩, ⟨by decide, by decide⟩, by decide⟩
  have hGl : (G.map Ent.enc).length = G.length := List.length_map ..
  have hmk := rmask_lt G
  have hR := spec_l4RunO G (fun e he => (hG e he).ok) (by omega)
  have hk : pickV bs q0 G.length < G.length := pickV_lt hG0
  have hP := l9_pick bs q0 G.length hb (by omega) (by omega)
  have hP2 := l9_pick bs (q0 + 1) 50 hb (by omega) (by omega)
  have hex : ∃ k, pickV bs q0 G.length = k := ⟨_, rfl⟩
  obtain ⟨k, hkk⟩ := hex
  rw [hkk] at hP hk
  rw [← hGl] at hP
  have hkn : (0 : Int) ≤ (k : Int) ∧ (k : Int) < ((G.map Ent.enc).length : Nat) := by rw [hGl]; omega
  have hex : ∃ c, pickV bs (q0 + 1) 50 = c := ⟨_, rfl⟩
  obtain ⟨c, hcc⟩ := hex
  rw [hcc] at hP2
  subst hGe
  by_cases h0 : c = 0
  · subst h0
    have hO := l9_num bs (q0 + 2) drawM hb (by omega) (by decide) (by decide)
    have hm : drawM.getD (pickV bs (q0 + 2) drawM.length) 0 ∈ drawM := getD_mem (pickV_lt (by decide))
    have hex : ∃ s, drawM.getD (pickV bs (q0 + 2) drawM.length) 0 = s := ⟨_, rfl⟩
    obtain ⟨s, hs⟩ := hex
    rw [hs] at hO hm
    have hs2 : -1 ≤ s ∧ s ≤ 65536 := by
      simp only [drawM, List.mem_cons, List.not_mem_nil, or_false] at hm
      omega
    refine ⟨⟨[aEnt], (rmask [aEnt] : Nat) + s⟩, q0 + 3, ?_, by omega, by show [aEnt].length ≤ 20; omega, hG, ⟨by show _ ≤ (rmask [aEnt] : Int) + s; omega, by show (rmask [aEnt] : Int) + s ≤ _; omega⟩⟩
    refine AFnK.introX (E := En 1 (mdv [116] [80]) (vw := [3])) (en_ok 1 _ _ _ _) Try.func53 rfl rfl rfl fun _ _ => ?_
    refine ACall.mk _ _ hE ?_
    refine Split.mk fun t ht => ?_
    cases t
    · cases ht
    refine Need.mk ⟨rfl, rfl⟩ ?_
    refine ACall.mk _ _ hR ?_
    refine ACall.mk _ _ hP ?_
    refine ACall.mk _ _ hP2 ?_
    refine Split.mk fun t ht => ?_
    cases t
    · cases ht
    refine Fz.mk _ (frzI drawM) ?_
    refine ACall.mk _ _ hO ?_
    refine Num.mk ((rmask [aEnt] : Nat) + s) (wrapI (by omega) (by omega)) ?_
    refine Need.mk rfl ?_
    exact Need.mk ⟨[], _, .same, rfl, rfl⟩ trivial
  by_cases h1 : c = 1
  · subst h1
    obtain ⟨e1, q1, hB1, g1, d1⟩ := l3_Bent bs (q0 + 2) [aEnt][k] hb (by omega) (hG _ (List.getElem_mem hk))
    obtain ⟨e2, q2, hB2, g2, d2⟩ := l3_Bent bs q1 e1 hb (by omega) d1
    obtain ⟨e3, q3, hB3, g3, d3⟩ := l3_Bent bs q2 e2 hb (by omega) d2
    refine ⟨⟨[aEnt].set k e3, (rmask [aEnt] : Nat)⟩, q3, ?_, by omega, by show ([aEnt].set k e3).length ≤ 20; rw [List.length_set]; omega, fun e he => ?_, ⟨by show _ ≤ (rmask [aEnt] : Int); omega, by show (rmask [aEnt] : Int) ≤ _; omega⟩⟩
    case refine_2 =>
      rcases List.mem_or_eq_of_mem_set he with h | h
      · exact hG e h
      · subst h; exact d3
    refine AFnK.introX (E := En 1 (mdv [116] [80]) (vw := [3])) (en_ok 1 _ _ _ _) Try.func53 rfl rfl rfl fun _ _ => ?_
    refine ACall.mk _ _ hE ?_
    refine Split.mk fun t ht => ?_
    cases t
    · cases ht
    refine Need.mk ⟨rfl, rfl⟩ ?_
    refine ACall.mk _ _ hR ?_
    refine ACall.mk _ _ hP ?_
    refine ACall.mk _ _ hP2 ?_
    refine Split.mk fun t ht => ?_
    cases t
    case true => cases ht
    refine Split.mk fun t ht => ?_
    cases t
    · cases ht
    refine Need.mk hkn ?_
    refine Row.mk _ (map_get _ [aEnt] k hk) ?_
    refine ACall.mk _ _ hB1 ?_
    refine ACall.mk _ _ hB2 ?_
    refine ACall.mk _ _ hB3 ?_
    refine Need.mk hkn ?_
    refine Row.mk _ (map_get _ [aEnt] k hk) ?_
    refine Need.mk rfl ?_
    refine Need.mk ⟨[], _, .same, ?_, rfl⟩ trivial
    exact congrArg (fun R => RV.agg [.us 32 R, vi (rmask [aEnt] : Nat)]) (List.map_set ..).symm
  by_cases h2 : c = 2
  · subst h2
    refine ⟨⟨[aEnt] ++ [[aEnt][k]], (rmask [aEnt] : Nat)⟩, q0 + 2, ?_, by omega, by show ([aEnt] ++ [[aEnt][k]]).length ≤ 20; rw [List.length_append]; simp <;> omega, fun e he => ?_, ⟨by show _ ≤ (rmask [aEnt] : Int); omega, by show (rmask [aEnt] : Int) ≤ _; omega⟩⟩
    case refine_2 =>
      rcases List.mem_append.1 he with h | h
      · exact hG e h
      · rw [List.mem_singleton.1 h]; exact hG _ (List.getElem_mem hk)
    refine AFnK.introX (E := En 1 (mdv [116] [80]) (vw := [3])) (en_ok 1 _ _ _ _) Try.func53 rfl rfl rfl fun _ _ => ?_
    refine ACall.mk _ _ hE ?_
    refine Split.mk fun t ht => ?_
    cases t
    · cases ht
    refine Need.mk ⟨rfl, rfl⟩ ?_
    refine ACall.mk _ _ hR ?_
    refine ACall.mk _ _ hP ?_
    refine ACall.mk _ _ hP2 ?_
    refine Split.mk fun t ht => ?_
    cases t
    case true => cases ht
    refine Split.mk fun t ht => ?_
    cases t
    case true => cases ht
    refine Split.mk fun t ht => ?_
    cases t
    · cases ht
    refine Need.mk hkn ?_
    refine Row.mk _ (map_get _ [aEnt] k hk) ?_
    refine Need.mk (sizeOk _ _ [aEnt] [[aEnt][k]] rfl rfl (by simp <;> omega)) ?_
    refine Need.mk rfl ?_
    refine Need.mk ⟨[], _, .same, ?_, rfl⟩ trivial
    refine congrArg (fun R => RV.agg [.us 32 R, vi (rmask [aEnt] : Nat)]) (?_ : [aEnt].map Ent.enc ++ [[aEnt][k].enc] = _)
    rw [List.map_append]; rfl
  by_cases h3 : c = 3
  · subst h3
    refine ⟨⟨[], (rmask [aEnt] : Nat)⟩, q0 + 2, ?_, by omega, by exact Nat.zero_le _, fun e he => (nomatch he), ⟨by show _ ≤ (rmask [aEnt] : Int); omega, by show (rmask [aEnt] : Int) ≤ _; omega⟩⟩
    refine AFnK.introX (E := En 1 (mdv [116] [80]) (vw := [3])) (en_ok 1 _ _ _ _) Try.func53 rfl rfl rfl fun _ _ => ?_
    refine ACall.mk _ _ hE ?_
    refine Split.mk fun t ht => ?_
    cases t
    · cases ht
    refine Need.mk ⟨rfl, rfl⟩ ?_
    refine ACall.mk _ _ hR ?_
    refine ACall.mk _ _ hP ?_
    refine ACall.mk _ _ hP2 ?_
    refine Split.mk fun t ht => ?_
    cases t
    case true => cases ht
    refine Split.mk fun t ht => ?_
    cases t
    case true => cases ht
    refine Split.mk fun t ht => ?_
    cases t
    case true => cases ht
    refine Split.mk fun t ht => ?_
    cases t
    · cases ht
    exact Need.mk ⟨[], _, .same, rfl, rfl⟩ trivial
  by_cases h4 : c = 4
  · subst h4
    refine ⟨⟨[aEnt], 65535⟩, q0 + 2, ?_, by omega, by show [aEnt].length ≤ 20; omega, hG, by show I64 65535; exact ⟨by decide, by decide⟩⟩
    refine AFnK.introX (E := En 1 (mdv [116] [80]) (vw := [3])) (en_ok 1 _ _ _ _) Try.func53 rfl rfl rfl fun _ _ => ?_
    refine ACall.mk _ _ hE ?_
    refine Split.mk fun t ht => ?_
    cases t
    · cases ht
    refine Need.mk ⟨rfl, rfl⟩ ?_
    refine ACall.mk _ _ hR ?_
    refine ACall.mk _ _ hP ?_
    refine ACall.mk _ _ hP2 ?_
    refine Split.mk fun t ht => ?_
    cases t
    case true => cases ht
    refine Split.mk fun t ht => ?_
    cases t
    case true => cases ht
    refine Split.mk fun t ht => ?_
    cases t
    case true => cases ht
    refine Split.mk fun t ht => ?_
    cases t
    case true => cases ht
    refine Split.mk fun t ht => ?_
    cases t
    · cases ht
    exact Need.mk ⟨[], _, .same, rfl, rfl⟩ trivial
  · skip
    refine ⟨⟨[aEnt], (rmask [aEnt] : Nat)⟩, q0 + 2, ?_, by omega, by show [aEnt].length ≤ 20; omega, hG, ⟨by show _ ≤ (rmask [aEnt] : Int); omega, by show (rmask [aEnt] : Int) ≤ _; omega⟩⟩
    refine AFnK.introX (E := En 1 (mdv [116] [80]) (vw := [3])) (en_ok 1 _ _ _ _) Try.func53 rfl rfl rfl fun _ _ => ?_
    refine ACall.mk _ _ hE ?_
    refine Split.mk fun t ht => ?_
    cases t
    · cases ht
    refine Need.mk ⟨rfl, rfl⟩ ?_
    refine ACall.mk _ _ hR ?_
    refine ACall.mk _ _ hP ?_
    refine ACall.mk _ _ hP2 ?_
    refine Split.mk fun t ht => ?_
    cases t
    case true => rw [beq_iff_eq] at ht; omega
    refine Split.mk fun t ht => ?_
    cases t
    case true => rw [beq_iff_eq] at ht; omega
    refine Split.mk fun t ht => ?_
    cases t
    case true => rw [beq_iff_eq] at ht; omega
    refine Split.mk fun t ht => ?_
    cases t
    case true => rw [beq_iff_eq] at ht; omega
    refine Split.mk fun t ht => ?_
    cases t
    case true => rw [beq_iff_eq] at ht; omega
    exact Need.mk ⟨[], _, .same, rfl, rfl⟩ trivial
theorem l4_Draw (bs : List Nat) (p : Nat) (hb : OkB bs) (hp : p ≤ 980000) :
    ∃ (r : Rn) (q : Nat), AFnK Try.prog 53 [.bx 0 0] [rd bs p] [0] (.agg (encO r)) [rd bs q] ∧ q ≤ p + 200 ∧ r.ents.length ≤ 20 ∧ (∀ e ∈ r.ents, DE e) ∧ I64 r.mask := by
  have hE := l4_Ents bs p 12 hb (by omega) (by omega)
  obtain ⟨g1, g2, g3⟩ := listD_ok bs (pickV bs p 13) (p + 1) 0 []
  have hn0 := pickV_lt (bs := bs) (p := p) (n := 13) (by omega)
  generalize hF : listD bs (pickV bs p (12 + 1)) (p + 1) 0 [] = F at *
  have hlen : (isort eLess F.1).length = pickV bs p 13 := by rw [isort_len, g2]; simp
  have hG : ∀ e ∈ isort eLess F.1, DE e := fun e he => by
    rcases g3 e ((isort_mem _ _ _).1 he) with h | ⟨h, h1, h2⟩
    · cases h
    · exact h.de ⟨by omega, by omega⟩
  generalize isort eLess F.1 = G at *
  rcases Nat.eq_zero_or_pos G.length with h | h
  · obtain rfl := List.eq_nil_of_length_eq_zero h
    exact l4_Draw0 bs p F.2 hb hp (by omega) hE
  · exact l4_Draw1 bs p F.2 G hb hp (by omega) h (by omega) hG hE
end Go.Proofs.Ytlmdheeammfihaa

namespace Go.Proofs.Ytlmdheeammfihaa
open Go Go.Proofs Ev
set_option maxRecDepth 100000
set_option maxHeartbeats 4000000
theorem Draw_RunFind (bs : List Nat) (hb : ∀ b ∈ bs, b < 256) (hl : bs.length ≤ 1048576) :
    ∃ (r : Rn) (key : ByteArray) (seq : Nat), AFn Try.prog 20 [sl (bs.map encB)] [] (.tup [.agg (encO r), .one (vs key), .one (vi (seq : Nat))]) [] ∧ r.ents.length ≤ 20 ∧ (∀ e ∈ r.ents, DE e) ∧ I64 r.mask ∧ key.size ≤ 6 ∧ seq ≤ 21 := by
  have hO := okB_take hb
  obtain ⟨r, q, hD, hq, h1, h2, h3⟩ := l4_Draw (bs.take 2000) 0 hO (by omega)
  have hK1 := l3_Key (bs.take 2000) q hO (by omega)
  have k1 := keysL_ok (keyD_mem (bs.take 2000) q)
  generalize keyD (bs.take 2000) q = a1 at *
  have hP := l9_pick (bs.take 2000) (q + 1) 22 hO (by omega) (by omega)
  have hm := pickV_lt (bs := bs.take 2000) (p := q + 1) (n := 22) (by decide)
  generalize pickV (bs.take 2000) (q + 1) 22 = c at *
  refine ⟨r, a1, c, ?_, h1, h2, h3, k1.1, by omega⟩
  refine AFn.introX (E := En 0 md0) (en_ok 0 _) Try.func20 rfl rfl rfl fun _ _ => ?_
  refine ACall.mk _ _ (l9_Open bs hl) ?_
  refine ACall.mk _ _ hD ?_
  refine ACall.mk _ _ hK1 ?_
  refine ACall.mk _ _ hP ?_
  refine Need.mk rfl ?_
  exact Need.mk ⟨[], _, .same, rfl, rfl⟩ trivial
end Go.Proofs.Ytlmdheeammfihaa

namespace Go.Proofs.Ytlmdheeammfihaa
open Go Go.Proofs Ev
set_option maxRecDepth 100000
theorem sort_Search (f : FuncId) (a : Rn) (b : Ent) (p : Nat → Bool) (n k : Nat) (hn : n ≤ 1099511627776) (hk : k ≤ n) (h1 : ∀ i, i < k → p i = false) (h2 : ∀ i, k ≤ i → i < n → p i = true)
    (hf : ∀ i : Nat, i < n → AFnK Try.prog f [av (.int .i64 i), .bx 0 0, .bx 1 0] [a.enc, b.enc] [0, 0] (rb (p i)) [a.enc, b.enc]) :
    AFnK Try.prog 65 [av (.int .i64 n), .clo f [.bx 0 0, .bx 1 0]] [a.enc, b.enc] [0, 0] (.one (vi k)) [a.enc, b.enc] := by
  refine AFnK.introX (E := En 2 md0) (en_ok 2 md0) Try.func65 rfl rfl rfl fun _ _ => ?_
  let S : Nat → Nat → St := fun i j => ⟨some (av (.int .i64 n)) :: some (.clo f [.bx 0 0, .bx 1 0]) :: none :: none :: none :: some (av (.int .i64 i)) :: some (av (.int .i64 j)) :: List.replicate 19 none, ⟨0, 0, some a.enc⟩ :: ⟨0, 0, some b.enc⟩ :: List.replicate 26 absent⟩
  refine ALoop.mk (fun m s => ∃ i j : Nat, i ≤ k ∧ k ≤ j ∧ j ≤ n ∧ m = j - i ∧ s = S i j)
    ⟨n, _, Weak.nrm [true, true, false, false, false, true, true] [(0, 0), (1, 1)] rfl rfl rfl, 0, n, Nat.zero_le _, hk, Nat.le_refl _, rfl, rfl⟩ ?_
  rintro m s ⟨i, j, hi, hj, hjn, rfl, hs⟩
  by_cases hij : i < j
  · have hm1 : i ≤ (i + j) / 2 := by omega
    have hm2 : (i + j) / 2 < j := by omega
    have hc := hf ((i + j) / 2) (by omega)
    have up : p ((i + j) / 2) = false → (i + j) / 2 + 1 ≤ k := fun h => by
      refine Nat.lt_of_not_le fun hle => ?_
      rw [h2 _ hle (by omega)] at h; cases h
    have dn : p ((i + j) / 2) = true → k ≤ (i + j) / 2 := fun h => by
      refine Nat.le_of_not_lt fun hle => ?_
      rw [h1 _ hle] at h; cases h
    subst hs
    refine Split.mk fun t ht => ?_
    cases t
    · simp at ht; omega
    refine Num.mk ((i + j : Nat) : Int) (wrapI' (by omega) (by omega)) ?_
    refine Num.mk _ (wrapU (by omega)) ?_
    refine Need.mk (by decide) ?_
    refine Num.mk _ (half (by omega)) ?_
    refine ACall.mk _ _ hc ?_
    refine Split.mk fun t h3 => ?_
    cases t
    · refine Num.mk _ (wrapS (by omega)) ?_
      exact ⟨j - ((i + j) / 2 + 1), _, by omega, Weak.nrm [true, true, false, false, false, true, true] [(0, 0), (1, 1)] rfl rfl rfl, (i + j) / 2 + 1, j, up h3, hj, hjn, rfl, rfl⟩
    · exact ⟨(i + j) / 2 - i, _, by omega, Weak.nrm [true, true, false, false, false, true, true] [(0, 0), (1, 1)] rfl rfl rfl, i, (i + j) / 2, hi, dn h3, by omega, rfl, rfl⟩
  · have he : i = k := by omega
    subst hs
    refine Split.mk fun t ht => ?_
    cases t
    · exact Need.mk ⟨[], _, .same, by rw [he]; rfl, rfl⟩ trivial
    · simp at ht; omega
theorem impl_RunFind1 (r : Rn) (q : Ent) (i : Nat) (h : i < r.ents.length) : AFnK Try.prog 66 [av (.int .i64 i), .bx 0 0, .bx 1 0] [r.enc, q.enc] [0, 0] (rb (!eLess r.ents[i] q)) [r.enc, q.enc] := by
  refine AFnK.introX (E := En 2 md0) (en_ok 2 md0) Try.func66 rfl rfl rfl fun _ _ => ?_
  have hn : (r.ents.map Ent.enc).length = r.ents.length := List.length_map ..
  refine Need.mk (by omega) ?_
  refine Row.mk _ (map_get _ r.ents i h) ?_
  refine ACall.mk _ _ (impl_EntryLess r.ents[i] q) ?_
  refine Split.mk fun t ht => ?_
  refine Need.mk rfl ?_
  exact Need.mk ⟨[], _, .same, by rw [ht]; rfl, rfl⟩ trivial
end Go.Proofs.Ytlmdheeammfihaa

namespace Go.Proofs.Ytlmdheeammfihaa
open Go Go.Proofs Ev
set_option maxRecDepth 100000
theorem slices_EqualE (a b : List Ent) : AFn Try.prog 154 [sl (a.map Ent.enc), sl (b.map Ent.enc)] [] (rb (decide (a = b))) [] := by
  refine AFn.introX (E := En 0 md0) (en_ok 0 md0) Try.func154 rfl rfl rfl fun hs _ => ?_
  have ha := Small.len (hs _ (List.mem_cons_self ..))
  rw [List.length_map] at ha
  have fin : ∀ {c : Bool}, c = decide (a = b) → rb c = rb (decide (a = b)) := fun h => by rw [h]
  refine Split.mk fun t ht => ?_
  cases t
  · have hl : a.length = b.length := Int.ofNat_inj.1 (by simpa using ht)
    refine ALoop.mk (fun n s => ∃ i : Nat, i ≤ a.length ∧ n = a.length - i ∧ a.take i = b.take i ∧
      s = ⟨some (sl (a.map Ent.enc)) :: some (sl (b.map Ent.enc)) :: none :: none :: some (av (.bool false)) :: none :: none :: none :: none :: none :: none :: none :: some (av (.int .i64 a.length)) :: some (av (.int .i64 i)) :: List.replicate 12 none, List.replicate 26 absent⟩)
      ⟨a.length, _, Weak.nrm [true, true, false, false, true, false, false, false, false, false, false, false, true, true] [] rfl rfl rfl, 0, Nat.zero_le _, rfl, rfl, by rw [show ((a.length : Nat) : Int) = ((a.map Ent.enc).length : Nat) by rw [List.length_map]]; rfl⟩ ?_
    rintro n s ⟨i, hi, rfl, hp, rfl⟩
    refine Split.mk fun t ht => ?_
    cases t
    · have hia : i = a.length := by simp at ht; omega
      refine Need.mk ⟨[], _, .same, fin ?_, rfl⟩ trivial
      subst hia
      rw [List.take_length, hl, List.take_length] at hp
      simp [hp]
    · have hia : i < a.length := by simpa using ht
      refine Need.mk (by omega) ?_
      refine Row.mk _ (map_get _ a i hia) ?_
      refine Need.mk (by omega) ?_
      refine Row.mk _ (map_get _ b i (by omega)) ?_
      refine Split.mk fun t ht2 => ?_
      have ht2 : (!decide (a[i] = b[i]'(by omega))) = t := by rw [← ent_beq]; exact ht2
      cases t
      · refine Need.mk rfl ?_
        refine Num.mk _ (wrapS (by omega)) ?_
        refine ⟨a.length - (i + 1), _, by omega, Weak.nrm [true, true, false, false, true, false, false, false, false, false, false, false, true, true] [] rfl rfl rfl, i + 1, by omega, rfl, ?_, rfl⟩
        have : a[i] = b[i]'(by omega) := by simpa using ht2
        rw [List.take_succ_eq_append_getElem hia, List.take_succ_eq_append_getElem (by omega), hp, this]
      · refine Need.mk rfl ?_
        refine Need.mk ⟨[], _, .same, fin ?_, rfl⟩ trivial
        have : a[i] ≠ b[i]'(by omega) := by simpa using ht2
        refine (decide_eq_false fun e => this ?_).symm
        subst e; rfl
  · refine Need.mk ⟨[], _, .same, fin ?_, rfl⟩ trivial
    have : a.length ≠ b.length := by
      intro e; simp [e] at ht
    exact (decide_eq_false fun e => this (by rw [e])).symm
end Go.Proofs.Ytlmdheeammfihaa

namespace Go.Proofs.Ytlmdheeammfihaa
open Go Go.Proofs Ev
set_option maxRecDepth 100000
theorem impl_RunSame (a b : Rn) : AFn Try.prog 118 [.agg (a.enc.map .c), .agg (b.enc.map .c)] [] (rb (decide (a = b))) [] := by
  refine AFn.introX (E := En 0 md0) (en_ok 0 md0) Try.func118 rfl rfl rfl fun _ _ => ?_
  have fin : ∀ {c : Bool}, c = decide (a = b) → rb c = rb (decide (a = b)) := fun h => by rw [h]
  refine Split.mk fun t ht => ?_
  cases t
  · exact Need.mk ⟨[], _, .same, fin (by cases a; cases b; simp_all), rfl⟩ trivial
  · refine ACall.mk _ _ (slices_EqualE a.ents b.ents) ?_
    refine Split.mk fun t ht1 => ?_
    exact Need.mk ⟨[], _, .same, fin (by cases a; cases b; simp_all), rfl⟩ trivial
end Go.Proofs.Ytlmdheeammfihaa

namespace Go.Proofs.Ytlmdheeammfihaa
open Go Go.Proofs Ev
set_option maxRecDepth 100000
set_option maxHeartbeats 1000000
theorem impl_RunOk (r : Rn) (hr : OkE r.ents) : AFn Try.prog 56 [.agg (r.enc.map .c)] [] (rb (runOk r)) [] := by
  refine AFn.introX (E := En 0 md0) (en_ok 0 _) Try.func56 rfl rfl rfl fun _ _ => ?_
  have heq := runOk_eq r
  have fin : ∀ {c : Bool}, c = runOk r → rb c = rb (runOk r) := fun h => by rw [h]
  by_cases hg : good r.ents = true
  · rw [hg, Bool.true_and] at heq
    refine ACall.mk _ _ (impl_RunOf_ok r.ents hr hg) ?_
    refine Split.mk fun t ht => ?_
    cases t
    case false => cases ht
    refine Fz.mk _ (frzE (isort eLess r.ents)) ?_
    refine ACall.mk _ _ (impl_RunSame ⟨isort eLess r.ents, (rmask (isort eLess r.ents) : Nat)⟩ r) ?_
    refine Need.mk ⟨closed_v, no_objs⟩ ?_
    refine Split.mk fun t ht2 => ?_
    exact Need.mk ⟨[], _, .same, fin (ht2.symm.trans heq.symm), rfl⟩ trivial
  · have hg : good r.ents = false := by simpa using hg
    rw [hg, Bool.false_and] at heq
    refine ACall.mk _ _ (impl_RunOf_bad r.ents hr hg) ?_
    refine Split.mk fun t ht => ?_
    cases t
    · exact Need.mk ⟨[], _, .same, fin heq.symm, rfl⟩ trivial
    · cases ht
theorem spec_RunOk (r : Rn) (hr : OkE r.ents) (hx : r.ents.length ≤ 1099511627776) : AFn Try.prog 23 [.agg (r.enc.map .c)] [] (rb (runOk r)) [] := by
  refine AFn.introX (E := En 0 md0) (en_ok 0 _) Try.func23 rfl rfl rfl fun _ _ => ?_
  have fin : ∀ {c : Bool}, c = runOk r → rb c = rb (runOk r) := fun h => by rw [h]
  have hn : (r.ents.map Ent.enc).length = r.ents.length := List.length_map ..
  refine Split.mk fun t h1 => ?_
  rw [hn] at h1
  cases t
  · refine Need.mk rfl ?_
    exact Need.mk ⟨[], _, .same, fin (by have : decide (1 ≤ r.ents.length) = false := decide_eq_false (by have := of_decide_eq_false h1; omega)
                                         simp [runOk, this]), rfl⟩ trivial
  have e1 : decide (1 ≤ r.ents.length) = true := decide_eq_true (by have := of_decide_eq_true h1; omega)
  refine Split.mk fun t h2 => ?_
  rw [hn] at h2
  cases t
  · refine Need.mk rfl ?_
    exact Need.mk ⟨[], _, .same, fin (by have : decide (r.ents.length ≤ 150) = false := decide_eq_false (by have := of_decide_eq_false h2; omega)
                                         simp [runOk, this]), rfl⟩ trivial
  have e2 : decide (r.ents.length ≤ 150) = true := decide_eq_true (by have := of_decide_eq_true h2; omega)
  refine ACall.mk _ _ (spec_l4Right r.ents hr hx) ?_
  refine Split.mk fun t h3 => ?_
  cases t
  · refine Need.mk rfl ?_
    exact Need.mk ⟨[], _, .same, fin (by simp [runOk, h3]), rfl⟩ trivial
  refine ACall.mk _ _ (spec_l4Mask r.ents hr hx) ?_
  refine Split.mk fun t h4 => ?_
  refine Need.mk rfl ?_
  refine Need.mk ⟨[], _, .same, fin ?_, rfl⟩ trivial
  rw [← h4]
  simp only [runOk, e1, e2, h3, Bool.true_and]
  rw [Bool.eq_iff_iff]; simp
end Go.Proofs.Ytlmdheeammfihaa

namespace Go.Proofs.Ytlmdheeammfihaa
open Go Go.Proofs Ev
set_option maxRecDepth 100000
set_option maxHeartbeats 16000000
theorem impl_lowKey (r : Rn) (h : 0 < r.ents.length) : AFn Try.prog 57 [.agg (r.enc.map .c)] [] (.one (vs (r.ents.getD 0 ent0).key)) [] := by
  refine AFn.introX (E := En 0 md0) (en_ok 0 _) Try.func57 rfl rfl rfl fun _ _ => ?_
  have hd : r.ents.getD 0 ent0 = r.ents[0] := by simp [List.getD_eq_getElem?_getD, h]
  refine Need.mk (by decide) ?_
  refine Row.mk _ (map_get _ r.ents 0 h) ?_
  exact Need.mk ⟨[], _, .same, by rw [hd]; rfl, rfl⟩ trivial
theorem impl_highKey (r : Rn) (h : 0 < r.ents.length) (hx : r.ents.length ≤ 1099511627776) : AFn Try.prog 58 [.agg (r.enc.map .c)] [] (.one (vs (r.ents.getD (r.ents.length - 1) ent0).key)) [] := by
  refine AFn.introX (E := En 0 md0) (en_ok 0 _) Try.func58 rfl rfl rfl fun _ _ => ?_
  have hl : r.ents.length - 1 < r.ents.length := by omega
  have hd : r.ents.getD (r.ents.length - 1) ent0 = r.ents[r.ents.length - 1] := by simp [List.getD_eq_getElem?_getD, hl]
  have hn : (r.ents.map Ent.enc).length = r.ents.length := List.length_map ..
  refine Num.mk ((r.ents.length - 1 : Nat) : Int) (wrapI' (by rw [hn]; omega) (by omega)) ?_
  refine Need.mk (by omega) ?_
  refine Row.mk _ (map_get _ r.ents (r.ents.length - 1) hl) ?_
  exact Need.mk ⟨[], _, .same, by rw [hd]; rfl, rfl⟩ trivial
theorem impl_RunMay (r : Rn) (key : ByteArray) (hr : OkE r.ents) (hk : key.size ≤ maxLen) : AFn Try.prog 16 [.agg (r.enc.map .c), av (.string key)] [] (rb (runMay r key)) [] := by
  refine AFn.introX (E := En 0 md0) (en_ok 0 _) Try.func16 rfl rfl rfl fun _ _ => ?_
  have fin : ∀ {c : Bool}, c = runMay r key → rb c = rb (runMay r key) := fun h => by rw [h]
  refine ACall.mk _ _ (impl_RunOk r hr) ?_
  refine Split.mk fun t h1 => ?_
  cases t
  · exact Need.mk ⟨[], _, .same, fin (by simp only [runMay, h1]; rfl), rfl⟩ trivial
  obtain ⟨l1, l2, l3, l4⟩ := runOk_len h1
  refine ACall.mk _ _ (impl_lowKey r l1) ?_
  refine Split.mk fun t h2 => ?_
  have h2 : slt key (r.ents.getD 0 ent0).key = t := h2
  cases t
  case true => exact Need.mk ⟨[], _, .same, fin (by simp only [runMay, h1, h2]; rfl), rfl⟩ trivial
  refine ACall.mk _ _ (impl_highKey r l1 (by omega)) ?_
  refine Split.mk fun t h3 => ?_
  rw [str_gt] at h3
  cases t
  case true => exact Need.mk ⟨[], _, .same, fin (by simp only [runMay, h1, h2, h3]; rfl), rfl⟩ trivial
  refine ACall.mk _ _ (impl_KeyMask key hk) ?_
  refine Split.mk fun t h4 => ?_
  have h5 : (((rmask r.ents &&& kmask key : Nat) : Int) == ((kmask key : Nat) : Int)) = t := by rw [← andN (rmask_lt _) (kmask_lt _), ← l4]; exact h4
  refine Need.mk ⟨[], _, .same, fin ?_, rfl⟩ trivial
  rw [← h5]
  have : (((rmask r.ents &&& kmask key : Nat) : Int) == ((kmask key : Nat) : Int)) = decide (rmask r.ents ||| kmask key = rmask r.ents) := by
    rw [Bool.eq_iff_iff, beq_iff_eq, Int.ofNat_inj, and_or, decide_eq_true_eq]
  rw [this]
  simp only [runMay, h1, h2, h3]; rfl
theorem spec_RunMay (r : Rn) (key : ByteArray) (hr : OkE r.ents) (hk : key.size ≤ maxLen) (hx : r.ents.length ≤ 1099511627776) : AFn Try.prog 17 [.agg (r.enc.map .c), av (.string key)] [] (rb (runMay r key)) [] := by
  refine AFn.introX (E := En 0 md0) (en_ok 0 _) Try.func17 rfl rfl rfl fun _ _ => ?_
  have fin : ∀ {c : Bool}, c = runMay r key → rb c = rb (runMay r key) := fun h => by rw [h]
  refine ACall.mk _ _ (spec_RunOk r hr hx) ?_
  refine Split.mk fun t h1 => ?_
  cases t
  · exact Need.mk ⟨[], _, .same, fin (by simp only [runMay, h1]; rfl), rfl⟩ trivial
  obtain ⟨l1, l2, l3, l4⟩ := runOk_len h1
  have hn : (r.ents.map Ent.enc).length = r.ents.length := List.length_map ..
  have l0 : 0 < r.ents.length := l1
  have hd0 : r.ents.getD 0 ent0 = r.ents[0] := by simp [List.getD_eq_getElem?_getD, l0]
  have hl : r.ents.length - 1 < r.ents.length := by omega
  have hd1 : r.ents.getD (r.ents.length - 1) ent0 = r.ents[r.ents.length - 1] := by simp [List.getD_eq_getElem?_getD, hl]
  refine Need.mk (by decide) ?_
  refine Row.mk _ (map_get _ r.ents 0 l1) ?_
  refine Split.mk fun t h2 => ?_
  have h2 : (!slt key (r.ents.getD 0 ent0).key) = t := by rw [hd0]; exact h2
  cases t
  · refine Need.mk rfl ?_
    exact Need.mk ⟨[], _, .same, fin (by simp only [runMay, h1, h2]; rfl), rfl⟩ trivial
  refine Num.mk ((r.ents.length - 1 : Nat) : Int) (wrapI' (by rw [hn]; omega) (by omega)) ?_
  refine Need.mk (by omega) ?_
  refine Row.mk _ (map_get _ r.ents (r.ents.length - 1) hl) ?_
  refine Split.mk fun t h3 => ?_
  have h3 : (!slt (r.ents.getD (r.ents.length - 1) ent0).key key) = t := by rw [hd1, ← str_le]; exact h3
  cases t
  · refine Need.mk rfl ?_
    exact Need.mk ⟨[], _, .same, fin (by simp only [runMay, h1, h2, h3]; rfl), rfl⟩ trivial
  refine ACall.mk _ _ (spec_KeyMask key hk) ?_
  refine ACall.mk _ _ (by rw [l4]; exact spec_l4Or (rmask r.ents) (kmask key) (rmask_lt _) (kmask_lt _)) ?_
  refine Split.mk fun t h4 => ?_
  refine Need.mk rfl ?_
  refine Need.mk ⟨[], _, .same, fin ?_, rfl⟩ trivial
  rw [← h4, l4]
  have : (((rmask r.ents ||| kmask key : Nat) : Int) == ((rmask r.ents : Nat) : Int)) = decide (rmask r.ents ||| kmask key = rmask r.ents) := by
    rw [Bool.eq_iff_iff, beq_iff_eq, Int.ofNat_inj, decide_eq_true_eq]
  rw [this]
  simp only [runMay, h1, h2, h3, Bool.true_and]
end Go.Proofs.Ytlmdheeammfihaa

namespace Go.Proofs.Ytlmdheeammfihaa
open Go Go.Proofs Ev
set_option maxRecDepth 100000
set_option maxHeartbeats 1000000
theorem spec_l4Find (xs : List Ent) (key : ByteArray) (seq : Int) (hx : xs.length ≤ 1048576) : AFn Try.prog 68 [sl (xs.map Ent.enc), av (.string key), av (.int .i64 seq)] [] (.one (.us 32 ((findE xs key seq).map Ent.enc))) [] := by
  refine AFn.introX (E := En 0 md0) (en_ok 0 _) Try.func68 rfl rfl rfl fun _ _ => ?_
  have hn : (xs.map Ent.enc).length = xs.length := List.length_map ..
  let S : Nat → List Ent → Nat → St := fun kd ys i => ⟨some (sl (xs.map Ent.enc)) :: some (av (.string key)) :: some (av (.int .i64 seq)) :: none :: none :: none :: none :: some (.one (.ref 7 0 (.cell 0))) :: some (av (.int .i64 i)) :: List.replicate 31 none, absent :: absent :: absent :: absent :: absent :: absent :: absent :: ⟨0, kd, some [.us 32 (ys.map Ent.enc)]⟩ :: List.replicate 32 absent⟩
  refine ALoop.mk (fun m s => ∃ i kd : Nat, i ≤ xs.length ∧ m = xs.length - i ∧ (kd = 1 ∨ kd = 2) ∧ s = S kd (findE (xs.take i) key seq) i)
    ⟨xs.length, _, Weak.nrm [true, true, true, false, false, false, false, true, true] [(9, 7)] rfl rfl rfl, 0, 2, Nat.zero_le _, rfl, .inr rfl, rfl⟩ ?_
  rintro m s ⟨i, kd, hi, rfl, hkd, hs⟩
  by_cases hin : i = xs.length
  · subst hin
    rw [List.take_length] at hs
    subst hs
    refine Split.mk fun t ht => ?_
    rw [hn] at ht
    cases t
    · exact Need.mk ⟨[], _, .same, rfl, rfl⟩ trivial
    · simp at ht
  · have hia : i < xs.length := by omega
    have he := findE_snoc (xs.take i) xs[i] key seq
    rw [← List.take_succ_eq_append_getElem hia] at he
    have hlen : (findE (xs.take i) key seq).length ≤ 1048576 := Nat.le_trans (findE_len _ _ _) (by rw [List.length_take]; omega)
    have hex : ∃ ys, findE (xs.take i) key seq = ys := ⟨_, rfl⟩
    obtain ⟨ys, hy⟩ := hex
    rw [hy] at he hlen hs
    by_cases hk : xs[i].key = key
    · by_cases hq : xs[i].seq ≤ seq
      · simp only [hk, hq, decide_true, Bool.and_self, cond_true] at he
        subst hs
        refine Split.mk fun t ht => ?_
        rw [hn] at ht
        cases t
        · simp at ht; omega
        refine Need.mk (by omega) ?_
        refine Row.mk _ (map_get _ xs i hia) ?_
        refine Split.mk fun t ht2 => ?_
        cases t
        · simp [hk] at ht2
        refine Need.mk (by omega) ?_
        refine Row.mk _ (map_get _ xs i hia) ?_
        refine Split.mk fun t ht3 => ?_
        cases t
        · simp [hq] at ht3
        refine Need.mk (by omega) ?_
        refine Row.mk _ (map_get _ xs i hia) ?_
        refine Need.mk (sizeOk _ _ ys [xs[i]] rfl rfl (by simp; omega)) ?_
        refine Num.mk _ (wrapS (by omega)) ?_
        refine ⟨xs.length - (i + 1), _, by omega, Weak.nrm [true, true, true, false, false, false, false, true, true] [(38, 7)] rfl rfl rfl, i + 1, 1, by omega, rfl, .inl rfl, ?_⟩
        rw [he]
        refine Eq.trans (b := ⟨some (sl (xs.map Ent.enc)) :: some (av (.string key)) :: some (av (.int .i64 seq)) :: none :: none :: none :: none :: some (.one (.ref 7 0 (.cell 0))) :: some (av (.int .i64 (i + 1 : Nat))) :: List.replicate 31 none, absent :: absent :: absent :: absent :: absent :: absent :: absent :: ⟨0, 1, some [.us 32 (ys.map Ent.enc ++ [xs[i].enc])]⟩ :: List.replicate 32 absent⟩) rfl ?_
        rw [show ys.map Ent.enc ++ [xs[i].enc] = (ys ++ [xs[i]]).map Ent.enc by rw [List.map_append]; rfl]
      · simp only [hk, hq, decide_true, decide_false, Bool.and_false, cond_false, List.append_nil] at he
        subst hs
        refine Split.mk fun t ht => ?_
        rw [hn] at ht
        cases t
        · simp at ht; omega
        refine Need.mk (by omega) ?_
        refine Row.mk _ (map_get _ xs i hia) ?_
        refine Split.mk fun t ht2 => ?_
        cases t
        · simp [hk] at ht2
        refine Need.mk (by omega) ?_
        refine Row.mk _ (map_get _ xs i hia) ?_
        refine Split.mk fun t ht3 => ?_
        cases t
        case true => simp [hq] at ht3
        refine Num.mk _ (wrapS (by omega)) ?_
        exact ⟨xs.length - (i + 1), _, by omega, Weak.nrm [true, true, true, false, false, false, false, true, true] [(7, 7)] rfl rfl rfl, i + 1, kd, by omega, rfl, hkd, by rw [he]; rfl⟩
    · simp only [hk, decide_false, Bool.false_and, cond_false, List.append_nil] at he
      subst hs
      refine Split.mk fun t ht => ?_
      rw [hn] at ht
      cases t
      · simp at ht; omega
      refine Need.mk (by omega) ?_
      refine Row.mk _ (map_get _ xs i hia) ?_
      refine Split.mk fun t ht2 => ?_
      cases t
      case true => rw [bytes_beq] at ht2; exact absurd (of_decide_eq_true ht2) hk
      refine Num.mk _ (wrapS (by omega)) ?_
      exact ⟨xs.length - (i + 1), _, by omega, Weak.nrm [true, true, true, false, false, false, false, true, true] [(7, 7)] rfl rfl rfl, i + 1, kd, by omega, rfl, hkd, by rw [he]; rfl⟩
theorem spec_RunFind (r : Rn) (key : ByteArray) (seq : Int) (hr : OkE r.ents) (hx : r.ents.length ≤ 1048576) : AFn Try.prog 22 [.agg (r.enc.map .c), av (.string key), av (.int .i64 seq)] [] (.one (.us 32 ((runFind r key seq).map Ent.enc))) [] := by
  refine AFn.introX (E := En 0 md0) (en_ok 0 _) Try.func22 rfl rfl rfl fun _ _ => ?_
  refine ACall.mk _ _ (spec_RunOk r hr (by omega)) ?_
  refine Split.mk fun t h1 => ?_
  cases t
  · exact Need.mk ⟨[], _, .same, by rw [runFind, h1]; rfl, rfl⟩ trivial
  refine ACall.mk _ _ (spec_l4Find r.ents key seq hx) ?_
  exact Need.mk ⟨[], _, .same, by rw [runFind, h1]; rfl, rfl⟩ trivial
theorem impl_RunFind (r : Rn) (key : ByteArray) (seq : Int) (hr : OkE r.ents) (hk : key.size ≤ maxLen) : AFn Try.prog 19 [.agg (r.enc.map .c), av (.string key), av (.int .i64 seq)] [] (.one (.us 32 ((runFind r key seq).map Ent.enc))) [] := by
  refine AFn.introX (E := En 0 md0) (en_ok 0 _) Try.func19 rfl rfl rfl fun _ _ => ?_
  have hpos : 0 < Try.prog.cellsOf 32 := pos_of tab_ok (t := 32) rfl
  by_cases hm : runMay r key = true
  · have hok := runMay_ok hm
    obtain ⟨l1, l2, l3, l4⟩ := runOk_len hok
    have hp := pw_of_ord l3
    have hn : (r.ents.map Ent.enc).length = r.ents.length := List.length_map ..
    have hle := fromE_le r.ents key seq
    have hfind := findE_eq hp key seq
    have hres : runFind r key seq = findE r.ents key seq := by rw [runFind, hok]; rfl
    rw [hres]
    have hs1 : ∀ i, i < fromE r.ents key seq → (fun i => !eLess (r.ents.getD i ent0) (probe key seq)) i = false := fun i hi => by
      have h' : i < r.ents.length := by omega
      have := from_lt hi h'
      simp [List.getD_eq_getElem?_getD, h', this]
    have hs2 : ∀ i, fromE r.ents key seq ≤ i → i < r.ents.length → (fun i => !eLess (r.ents.getD i ent0) (probe key seq)) i = true := fun i hi h' => by
      have := from_ge hp hi h'
      simp [List.getD_eq_getElem?_getD, h', this]
    have hcl : ∀ i : Nat, i < r.ents.length → AFnK Try.prog 66 [av (.int .i64 i), .bx 0 0, .bx 1 0] [r.enc, (probe key seq).enc] [0, 0] (rb ((fun i => !eLess (r.ents.getD i ent0) (probe key seq)) i)) [r.enc, (probe key seq).enc] := fun i h' => by
      have := impl_RunFind1 r (probe key seq) i h'
      have e : r.ents.getD i ent0 = r.ents[i] := by simp [List.getD_eq_getElem?_getD, h']
      show AFnK _ _ _ _ _ (rb (!eLess (r.ents.getD i ent0) (probe key seq))) _
      rw [e]; exact this
    have hS := sort_Search 66 r (probe key seq) _ r.ents.length (fromE r.ents key seq) (by omega) hle hs1 hs2 hcl
    have hex : ∃ k, fromE r.ents key seq = k := ⟨_, rfl⟩
    obtain ⟨k, hk2⟩ := hex
    rw [hk2] at hS hle hfind
    have hex : ∃ ys, r.ents.drop k = ys := ⟨_, rfl⟩
    obtain ⟨ys, hy⟩ := hex
    have hR : ((r.ents.map Ent.enc).drop (k : Int).toNat).take (((r.ents.map Ent.enc).length : Int) - (k : Int)).toNat = ys.map Ent.enc := by
      rw [Int.toNat_natCast, ← List.map_drop, hy]
      exact List.take_of_length_le (by rw [List.length_map, ← hy, List.length_drop, hn]; omega)
    rw [hy] at hfind
    have hyl : ys.length ≤ 150 := by rw [← hy, List.length_drop]; omega
    have hyn : (ys.map Ent.enc).length = ys.length := List.length_map ..
    rw [← hn] at hS
    let S : List (List C) → List Ent → Nat → St := fun R zs i => ⟨none :: some (av (.string key)) :: none :: none :: none :: none :: none :: none :: none :: some (.one (.ref 9 0 (.cell 0))) :: none :: none :: none :: none :: none :: none :: none :: none :: none :: none :: none :: none :: none :: none :: none :: none :: none :: some (sl R) :: some (av (.int .i64 R.length)) :: some (av (.int .i64 i)) :: List.replicate 13 none, absent :: absent :: absent :: absent :: absent :: absent :: absent :: absent :: absent :: ⟨0, 1, some [.us 32 (zs.map Ent.enc)]⟩ :: List.replicate 33 absent⟩
    refine ACall.mk _ _ (impl_RunMay r key hr hk) ?_
    refine Split.mk fun t h1 => ?_
    cases t
    · rw [hm] at h1; cases h1
    refine ACall.mk _ _ hS ?_
    refine Need.mk ⟨by omega, by omega, by omega, lenE r.ents⟩ ?_
    refine ALoop.mk (fun m s => ∃ i : Nat, i ≤ ys.length ∧ m = ys.length - i ∧ (∀ x ∈ ys.take i, decide (x.key = key) = true) ∧ s = S (ys.map Ent.enc) (ys.take i) i)
      ⟨ys.length, _, Weak.trans (Weak.nrm [false, true, false, false, false, false, false, false, false, true, false, false, false, false, false, false, false, false, false, false, false, false, false, false, false, false, false, true, true, true] [] rfl rfl rfl) (Weak.nilOwn 9 9 32 rfl rfl hpos), 0, Nat.zero_le _, rfl, by simp, congrArg (fun R => S R [] 0) hR⟩ ?_
    rintro m s ⟨i, hi, rfl, hall, hs⟩
    by_cases hin : i = ys.length
    · have htw := tw_take (fun e => decide (e.key = key)) ys i (by omega) hall (fun h => absurd h (by omega))
      rw [← htw, hfind] at hs
      subst hs
      refine Split.mk fun t ht => ?_
      rw [hyn] at ht
      cases t
      · exact Need.mk ⟨[], _, .same, rfl, rfl⟩ trivial
      · simp at ht; omega
    · have hia : i < ys.length := by omega
      by_cases hkk : ys[i].key = key
      · have hall' : ∀ x ∈ ys.take (i + 1), decide (x.key = key) = true := by
          rw [List.take_succ_eq_append_getElem hia]
          intro x hx
          rcases List.mem_append.1 hx with hx | hx
          · exact hall x hx
          · rw [List.mem_singleton.1 hx]; exact decide_eq_true hkk
        have htl : (ys.take i).length ≤ 150 := by rw [List.length_take]; omega
        have hsucc := List.take_succ_eq_append_getElem hia
        have hex : ∃ zs, ys.take i = zs := ⟨_, rfl⟩
        obtain ⟨zs, hz⟩ := hex
        rw [hz] at htl hsucc hs
        subst hs
        refine Split.mk fun t ht => ?_
        rw [hyn] at ht
        cases t
        · simp at ht; omega
        refine Need.mk (by omega) ?_
        refine Row.mk _ (map_get _ ys i hia) ?_
        refine Split.mk fun t ht2 => ?_
        rw [bytes_beq] at ht2
        cases t
        case true => simp [hkk] at ht2
        refine Need.mk (sizeOk _ _ zs [ys[i]] rfl rfl (by simp; omega)) ?_
        refine Num.mk _ (wrapS (by omega)) ?_
        refine ⟨ys.length - (i + 1), _, by omega, Weak.nrm [false, true, false, false, false, false, false, false, false, true, false, false, false, false, false, false, false, false, false, false, false, false, false, false, false, false, false, true, true, true] [(40, 9)] rfl rfl rfl, i + 1, by omega, rfl, hall', ?_⟩
        rw [hsucc]
        refine Eq.trans (b := S (ys.map Ent.enc) (zs ++ [ys[i]]) (i + 1)) ?_ rfl
        show (⟨_, _⟩ : St) = ⟨_, _⟩
        rw [List.map_append]; rfl
      · have htw := tw_take (fun e => decide (e.key = key)) ys i hi hall (fun h => decide_eq_false hkk)
        rw [← htw, hfind] at hs
        subst hs
        refine Split.mk fun t ht => ?_
        rw [hyn] at ht
        cases t
        · simp at ht; omega
        refine Need.mk (by omega) ?_
        refine Row.mk _ (map_get _ ys i hia) ?_
        refine Split.mk fun t ht2 => ?_
        rw [bytes_beq] at ht2
        cases t
        · simp [hkk] at ht2
        exact Need.mk ⟨[], _, .same, rfl, rfl⟩ trivial
  · have hm' : runMay r key = false := by simpa using hm
    have hnil := runMay_not seq hm'
    rw [hnil]
    refine ACall.mk _ _ (impl_RunMay r key hr hk) ?_
    refine Split.mk fun t h1 => ?_
    cases t
    · exact Need.mk ⟨[false], _, .nil hpos .same, rfl, rfl⟩ trivial
    · rw [hm'] at h1; cases h1
end Go.Proofs.Ytlmdheeammfihaa

namespace Go.Proofs.Ytlmdheeammfihaa
open Go Go.Proofs Ev
set_option maxRecDepth 100000
theorem laws_wpEnts (a b : List Ent) (ha : a.length ≤ 1048576) : AFn Try.prog 21 [sl (a.map Ent.enc), sl (b.map Ent.enc)] [] (rb (decide (a = b))) [] := by
  refine AFn.introX (E := En 0 md0) (en_ok 0 md0) Try.func21 rfl rfl rfl fun _ _ => ?_
  have fin : ∀ {c : Bool}, c = decide (a = b) → rb c = rb (decide (a = b)) := fun h => by rw [h]
  have hal : (a.map Ent.enc).length = a.length := List.length_map ..
  have hbl : (b.map Ent.enc).length = b.length := List.length_map ..
  refine Split.mk fun t ht => ?_
  cases t
  · have hl : a.length = b.length := Int.ofNat_inj.1 (by simpa using ht)
    refine ALoop.mk (fun n s => ∃ i : Nat, i ≤ a.length ∧ n = a.length - i ∧ a.take i = b.take i ∧
      s = ⟨some (sl (a.map Ent.enc)) :: some (sl (b.map Ent.enc)) :: none :: none :: some (av (.bool false)) :: some (av (.int .i64 i)) :: List.replicate 20 none, List.replicate 26 absent⟩)
      ⟨a.length, _, Weak.nrm [true, true, false, false, true, true] [] rfl rfl rfl, 0, Nat.zero_le _, rfl, rfl, rfl⟩ ?_
    rintro n s ⟨i, hi, rfl, hp, rfl⟩
    refine Split.mk fun t ht => ?_
    cases t
    · have hia : i = a.length := by simp at ht; omega
      refine Need.mk ⟨[], _, .same, fin ?_, rfl⟩ trivial
      subst hia
      rw [List.take_length, hl, List.take_length] at hp
      simp [hp]
    · have hia : i < a.length := by simpa using ht
      refine Need.mk (by omega) ?_
      refine Row.mk _ (map_get _ a i hia) ?_
      refine Need.mk (by omega) ?_
      refine Row.mk _ (map_get _ b i (by omega)) ?_
      refine Split.mk fun t ht2 => ?_
      have ht2 : (!decide (a[i] = b[i]'(by omega))) = t := by rw [← ent_beq]; exact ht2
      cases t
      · refine Need.mk rfl ?_
        refine Num.mk _ (wrapS (by omega)) ?_
        refine ⟨a.length - (i + 1), _, by omega, Weak.nrm [true, true, false, false, true, true] [] rfl rfl rfl, i + 1, by omega, rfl, ?_, rfl⟩
        have : a[i] = b[i]'(by omega) := by simpa using ht2
        rw [List.take_succ_eq_append_getElem hia, List.take_succ_eq_append_getElem (by omega), hp, this]
      · refine Need.mk rfl ?_
        refine Need.mk ⟨[], _, .same, fin ?_, rfl⟩ trivial
        have : a[i] ≠ b[i]'(by omega) := by simpa using ht2
        refine (decide_eq_false fun e => this ?_).symm
        subst e; rfl
  · refine Need.mk ⟨[], _, .same, fin ?_, rfl⟩ trivial
    have : a.length ≠ b.length := by
      intro e; simp [e] at ht
    exact (decide_eq_false fun e => this (by rw [e])).symm
end Go.Proofs.Ytlmdheeammfihaa

namespace Go.Proofs.Ytlmdheeammfihaa
open Go Go.Proofs Ev
set_option maxRecDepth 100000
set_option maxHeartbeats 4000000
theorem laws_FnRunCut (bs ms : List Nat) (hb : ∀ b ∈ bs, b < 256) : AFn Try.prog 4 [sl (bs.map encB), sl (ms.map encB)] [] (rb true) [] := by
  have hbl : (bs.map encB).length = bs.length := List.length_map ..
  have hml : (ms.map encB).length = ms.length := List.length_map ..
  by_cases hl : bs.length ≤ 1048576
  · by_cases hl2 : ms.length ≤ 1048576
    · obtain ⟨r, key, seq, hD, hn, hE, hI, hkz, hsq⟩ := Draw_RunFind bs hb hl
      have hOk : OkE r.ents := fun e he => (hE e he).ok
      have hks : key.size ≤ maxLen := Nat.le_trans hkz (by decide)
      have hF1 := impl_RunFind r key (seq : Int) hOk hks
      have hF2 := spec_RunFind r key (seq : Int) hOk (by omega)
      have hO2 := spec_RunOk r hOk (by omega)
      have hrl : (r.ents.map Ent.enc).length = r.ents.length := List.length_map ..
      have hzl : (runFind r key (seq : Int)).length ≤ 20 := by
        unfold runFind
        cases runOk r
        · exact Nat.zero_le _
        · exact Nat.le_trans (findE_len _ _ _) hn
      have hW := laws_wpEnts (runFind r key (seq : Int)) (runFind r key (seq : Int)) (by omega)
      rw [decide_eq_true rfl] at hW
      have hex : ∃ zs, runFind r key (seq : Int) = zs := ⟨_, rfl⟩
      obtain ⟨zs, hzs⟩ := hex
      rw [hzs] at hF1 hF2 hW hzl
      cases hk : runOk r with
      | false =>
        rw [hk] at hO2
        refine AFn.introX (E := En 0 md0 (fz := [8]) (fb := [5])) (en_ok 0 _ _ _ _ _) Try.func4 rfl rfl rfl fun _ _ => ?_
        refine Split.mk fun t ht => ?_
        rw [hbl] at ht
        cases t
        case true => rw [decide_eq_true_iff] at ht; omega
        refine Split.mk fun t ht => ?_
        rw [hml] at ht
        cases t
        case true => rw [decide_eq_true_iff] at ht; omega
        refine ACall.mk _ _ hD ?_
        refine Fz.mk _ (frzE r.ents) ?_
        refine ACall.mk _ _ hF1 ?_
        refine Fz.mk _ (frzE zs) ?_
        refine ACall.mk _ _ hF2 ?_
        refine Fz.mk _ (frzE zs) ?_
        refine ACall.mk _ _ hW ?_
        refine Need.mk ⟨closed_v, no_objs⟩ ?_
        refine Split.mk fun t h => ?_
        cases t
        case false => cases h
        refine ACall.mk _ _ hO2 ?_
        refine Split.mk fun t h => ?_
        cases t
        case true => cases h
        refine ACall.mk _ _ hF2 ?_
        refine Fz.mk _ (frzE zs) ?_
        refine ACall.mk _ _ hW ?_
        refine Need.mk ⟨closed_v, no_objs⟩ ?_
        refine Split.mk fun t h => ?_
        cases t
        case false => cases h
        exact Need.mk ⟨[], _, .same, rfl, rfl⟩ trivial
      | true =>
        rw [hk] at hO2
        have hnr := runOk_len hk
        have hnp : 0 < r.ents.length := hnr.1
        have hk0 : ms.length % r.ents.length < r.ents.length := Nat.mod_lt _ hnp
        let S : Int → St := fun k => ⟨none :: none :: none :: none :: none :: some (.bx 5 0) :: some (av (.string key)) :: some (av (.int .i64 (seq : Nat))) :: some (sl (zs.map Ent.enc)) :: some (av (.int .i64 k)) :: List.replicate 120 none, absent :: absent :: absent :: absent :: absent :: ⟨0, 0, some [.sl (r.ents.map Ent.enc), vi r.mask]⟩ :: List.replicate 124 absent⟩
        refine AFn.introX (E := En 0 md0 (fz := [8]) (fb := [5])) (en_ok 0 _ _ _ _ _) Try.func4 rfl rfl rfl fun _ _ => ?_
        refine Split.mk fun t ht => ?_
        rw [hbl] at ht
        cases t
        case true => rw [decide_eq_true_iff] at ht; omega
        refine Split.mk fun t ht => ?_
        rw [hml] at ht
        cases t
        case true => rw [decide_eq_true_iff] at ht; omega
        refine ACall.mk _ _ hD ?_
        refine Fz.mk _ (frzE r.ents) ?_
        refine ACall.mk _ _ hF1 ?_
        refine Fz.mk _ (frzE zs) ?_
        refine ACall.mk _ _ hF2 ?_
        refine Fz.mk _ (frzE zs) ?_
        refine ACall.mk _ _ hW ?_
        refine Need.mk ⟨closed_v, no_objs⟩ ?_
        refine Split.mk fun t h => ?_
        cases t
        case false => cases h
        refine ACall.mk _ _ hO2 ?_
        refine Split.mk fun t h => ?_
        cases t
        case false => cases h
        refine Need.mk (by rw [hrl]; omega) ?_
        refine ALoop.mk (fun m s => ∃ k : Nat, k < r.ents.length ∧ m = k ∧ s = S (k : Int))
          ⟨ms.length % r.ents.length, _, Weak.nrm [false, false, false, false, false, true, true, true, true, true] [(5, 5)] rfl rfl rfl, ms.length % r.ents.length, hk0, rfl, by
            refine Eq.trans (b := S ((((ms.map encB).length : Nat) : Int).tmod ((r.ents.map Ent.enc).length : Nat))) rfl ?_
            rw [hml, hrl, tmodN]⟩ ?_
        rintro m s ⟨k, hkn, hmk, hs⟩
        by_cases h0 : k = 0
        · subst h0
          subst hs
          refine Split.mk fun t h => ?_
          cases t
          case true => cases h
          refine Need.mk rfl ?_
          refine Split.mk fun t h => ?_
          cases t
          case false => cases h
          exact Need.mk ⟨[], _, .same, rfl, rfl⟩ trivial
        · have hk1 : k - 1 < r.ents.length := by omega
          have i1 : (0 : Int) ≤ (k : Int) ∧ (k : Int) < ((r.ents.map Ent.enc).length : Nat) := by rw [hrl]; omega
          have i2 : (0 : Int) ≤ ((k - 1 : Nat) : Int) ∧ ((k - 1 : Nat) : Int) < ((r.ents.map Ent.enc).length : Nat) := by rw [hrl]; omega
          have r1 := map_get Ent.enc r.ents k hkn
          have r2 := map_get Ent.enc r.ents (k - 1) hk1
          have n1 : IntKind.i64.wrap ((k : Int) - 1) = ((k - 1 : Nat) : Int) := by
            have : ((k : Int) - 1) = ((k - 1 : Nat) : Int) := by omega
            rw [this]; exact wrapI' (by omega) (by omega)
          by_cases hkk : r.ents[k].key = r.ents[k - 1].key
          · subst hs
            refine Split.mk fun t h => ?_
            cases t
            case false => rw [decide_eq_false_iff_not] at h; omega
            refine Need.mk (by omega) ?_
            refine Row.mk _ r1 ?_
            refine Num.mk ((k - 1 : Nat) : Int) n1 ?_
            refine Need.mk (by omega) ?_
            refine Row.mk _ r2 ?_
            refine Split.mk fun t h => ?_
            rw [bytes_beq] at h
            cases t
            case false => rw [decide_eq_true hkk] at h; cases h
            refine Need.mk rfl ?_
            refine Num.mk ((k - 1 : Nat) : Int) n1 ?_
            exact ⟨k - 1, _, by omega, Weak.nrm [false, false, false, false, false, true, true, true, true, true] [(5, 5)] rfl rfl rfl, k - 1, by omega, rfl, rfl⟩
          · have hkp : 0 < k := by omega
            have s1 := List.take_sublist k r.ents
            have s2 := List.drop_sublist k r.ents
            have l1 : (r.ents.take k).length = k := by rw [List.length_take]; omega
            have l2 : (r.ents.drop k).length = r.ents.length - k := List.length_drop ..
            have g1 := part_good hk s1 (by omega)
            have g2 := part_good hk s2 (by omega)
            have hcf := cut_find hk hkp hkn key (seq : Int)
            have hcm := cut_may hk hkp hkn key (seq : Int)
            rw [hzs, part_eq hk s1 (by omega), part_eq hk s2 (by omega)] at hcf hcm
            have o1 : OkE (r.ents.take k) := fun e he => hOk e (s1.subset he)
            have o2 : OkE (r.ents.drop k) := fun e he => hOk e (s2.subset he)
            have hA := impl_RunOf_ok _ o1 g1.1
            have hB := impl_RunOf_ok _ o2 g2.1
            rw [g1.2] at hA
            rw [g2.2] at hB
            have e1 : ((r.ents.map Ent.enc).drop (0 : Int).toNat).take ((k : Int) - 0).toNat = (r.ents.take k).map Ent.enc := by
              rw [show ((k : Int) - 0).toNat = k by omega, show (0 : Int).toNat = 0 from rfl, List.drop_zero, List.map_take]
            have e2 : ((r.ents.map Ent.enc).drop (k : Int).toNat).take (((r.ents.map Ent.enc).length : Int) - (k : Int)).toNat = (r.ents.drop k).map Ent.enc := by
              rw [Int.toNat_natCast, ← List.map_drop]
              exact List.take_of_length_le (by rw [List.length_map, List.length_drop, hrl]; omega)
            have hex : ∃ ys, r.ents.take k = ys := ⟨_, rfl⟩
            obtain ⟨ya, hya⟩ := hex
            have hex : ∃ ys, r.ents.drop k = ys := ⟨_, rfl⟩
            obtain ⟨yb, hyb⟩ := hex
            rw [hya] at hA e1 o1 hcf hcm
            rw [hyb] at hB e2 o2 hcf hcm
            have hA2 : AFn Try.prog 18 [sl (((r.ents.map Ent.enc).drop (0 : Int).toNat).take ((k : Int) - 0).toNat)] [] (.tup [.agg [.us 32 (ya.map Ent.enc), vi (rmask ya : Nat)], .one (vb true)]) [] := by rw [e1]; exact hA
            have hB2 : AFn Try.prog 18 [sl (((r.ents.map Ent.enc).drop (k : Int).toNat).take (((r.ents.map Ent.enc).length : Int) - (k : Int)).toNat)] [] (.tup [.agg [.us 32 (yb.map Ent.enc), vi (rmask yb : Nat)], .one (vb true)]) [] := by rw [e2]; exact hB
            have hFa := impl_RunFind ⟨ya, (rmask ya : Nat)⟩ key (seq : Int) o1 hks
            have hFb := impl_RunFind ⟨yb, (rmask yb : Nat)⟩ key (seq : Int) o2 hks
            have hMa := impl_RunMay ⟨ya, (rmask ya : Nat)⟩ key o1 hks
            have hMb := impl_RunMay ⟨yb, (rmask yb : Nat)⟩ key o2 hks
            have hex : ∃ ys, runFind ⟨ya, (rmask ya : Nat)⟩ key (seq : Int) = ys := ⟨_, rfl⟩
            obtain ⟨za, hza⟩ := hex
            have hex : ∃ ys, runFind ⟨yb, (rmask yb : Nat)⟩ key (seq : Int) = ys := ⟨_, rfl⟩
            obtain ⟨zb, hzb⟩ := hex
            rw [hza] at hFa hcf
            rw [hzb] at hFb hcf
            have hzal : za.length + zb.length ≤ 20 := by
              have := congrArg List.length hcf
              rw [List.length_append] at this; omega
            have hFz : Frz (.us 32 (za.map Ent.enc ++ zb.map Ent.enc)) (.sl (zs.map Ent.enc)) := by
              rw [← List.map_append, hcf]; exact frzE _
            have hzsl : (zs.map Ent.enc).length = zs.length := List.length_map ..
            have hj1 : (0 : Int) ≤ 0 ∧ (0 : Int) ≤ (k : Int) ∧ (k : Int) ≤ ((r.ents.map Ent.enc).length : Nat) ∧ ∀ r' ∈ r.ents.map Ent.enc, r'.length = 5 := ⟨by omega, by omega, by rw [hrl]; omega, lenE r.ents⟩
            have hj2 : (0 : Int) ≤ (k : Int) ∧ (k : Int) ≤ ((r.ents.map Ent.enc).length : Int) ∧ ((r.ents.map Ent.enc).length : Int) ≤ ((r.ents.map Ent.enc).length : Nat) ∧ ∀ r' ∈ r.ents.map Ent.enc, r'.length = 5 := ⟨by omega, by rw [hrl]; omega, by omega, lenE r.ents⟩
            cases m1 : runMay ⟨ya, (rmask ya : Nat)⟩ key with
            | true =>
              rw [m1] at hMa
              subst hs
              refine Split.mk fun t h => ?_
              cases t
              case false => rw [decide_eq_false_iff_not] at h; omega
              refine Need.mk (by omega) ?_
              refine Row.mk _ r1 ?_
              refine Num.mk ((k - 1 : Nat) : Int) n1 ?_
              refine Need.mk (by omega) ?_
              refine Row.mk _ r2 ?_
              refine Split.mk fun t h => ?_
              rw [bytes_beq] at h
              cases t
              case true => rw [decide_eq_false hkk] at h; cases h
              refine Need.mk rfl ?_
              refine Split.mk fun t h => ?_
              cases t
              case true => rw [beq_iff_eq] at h; omega
              refine Need.mk hj1 ?_
              refine ACall.mk _ _ hA2 ?_
              refine Split.mk fun t h => ?_
              cases t
              case false => cases h
              refine Need.mk hj2 ?_
              refine ACall.mk _ _ hB2 ?_
              refine Split.mk fun t h => ?_
              cases t
              case false => cases h
              refine Fz.mk _ (frzE ya) ?_
              refine ACall.mk _ _ hFa ?_
              refine Need.mk ⟨closed_us _ za, no_objs⟩ ?_
              refine Need.mk (plainE za) ?_
              refine Need.mk (sizeOk _ _ [] za rfl rfl (by simp; omega)) ?_
              refine Fz.mk _ (frzE yb) ?_
              refine ACall.mk _ _ hFb ?_
              refine Need.mk ⟨closed_us _ zb, no_objs⟩ ?_
              refine Need.mk (plainE zb) ?_
              refine Need.mk (sizeOk _ _ za zb rfl rfl (by omega)) ?_
              refine Need.mk rfl ?_
              refine Fz.mk _ hFz ?_
              refine ACall.mk _ _ hW ?_
              refine Need.mk ⟨closed_v, no_objs⟩ ?_
              refine Split.mk fun t h => ?_
              cases t
              case false => cases h
              refine Fz.mk _ (frzE ya) ?_
              refine ACall.mk _ _ hMa ?_
              refine Need.mk ⟨closed_v, no_objs⟩ ?_
              refine Split.mk fun t h => ?_
              cases t
              case false => cases h
              exact Need.mk ⟨[], _, .same, rfl, rfl⟩ trivial
            | false =>
              rw [m1] at hMa
              cases m2 : runMay ⟨yb, (rmask yb : Nat)⟩ key with
              | true =>
                rw [m2] at hMb
                subst hs
                refine Split.mk fun t h => ?_
                cases t
                case false => rw [decide_eq_false_iff_not] at h; omega
                refine Need.mk (by omega) ?_
                refine Row.mk _ r1 ?_
                refine Num.mk ((k - 1 : Nat) : Int) n1 ?_
                refine Need.mk (by omega) ?_
                refine Row.mk _ r2 ?_
                refine Split.mk fun t h => ?_
                rw [bytes_beq] at h
                cases t
                case true => rw [decide_eq_false hkk] at h; cases h
                refine Need.mk rfl ?_
                refine Split.mk fun t h => ?_
                cases t
                case true => rw [beq_iff_eq] at h; omega
                refine Need.mk hj1 ?_
                refine ACall.mk _ _ hA2 ?_
                refine Split.mk fun t h => ?_
                cases t
                case false => cases h
                refine Need.mk hj2 ?_
                refine ACall.mk _ _ hB2 ?_
                refine Split.mk fun t h => ?_
                cases t
                case false => cases h
                refine Fz.mk _ (frzE ya) ?_
                refine ACall.mk _ _ hFa ?_
                refine Need.mk ⟨closed_us _ za, no_objs⟩ ?_
                refine Need.mk (plainE za) ?_
                refine Need.mk (sizeOk _ _ [] za rfl rfl (by simp; omega)) ?_
                refine Fz.mk _ (frzE yb) ?_
                refine ACall.mk _ _ hFb ?_
                refine Need.mk ⟨closed_us _ zb, no_objs⟩ ?_
                refine Need.mk (plainE zb) ?_
                refine Need.mk (sizeOk _ _ za zb rfl rfl (by omega)) ?_
                refine Need.mk rfl ?_
                refine Fz.mk _ hFz ?_
                refine ACall.mk _ _ hW ?_
                refine Need.mk ⟨closed_v, no_objs⟩ ?_
                refine Split.mk fun t h => ?_
                cases t
                case false => cases h
                refine Fz.mk _ (frzE ya) ?_
                refine ACall.mk _ _ hMa ?_
                refine Need.mk ⟨closed_v, no_objs⟩ ?_
                refine Split.mk fun t h => ?_
                cases t
                case true => cases h
                refine Fz.mk _ (frzE yb) ?_
                refine ACall.mk _ _ hMb ?_
                refine Need.mk ⟨closed_v, no_objs⟩ ?_
                refine Split.mk fun t h => ?_
                cases t
                case false => cases h
                exact Need.mk ⟨[], _, .same, rfl, rfl⟩ trivial
              | false =>
                rw [m2] at hMb
                have hz0 : zs = [] := hcm m1 m2
                have hzsl0 : (zs.map Ent.enc).length = 0 := by rw [hz0]; rfl
                subst hs
                refine Split.mk fun t h => ?_
                cases t
                case false => rw [decide_eq_false_iff_not] at h; omega
                refine Need.mk (by omega) ?_
                refine Row.mk _ r1 ?_
                refine Num.mk ((k - 1 : Nat) : Int) n1 ?_
                refine Need.mk (by omega) ?_
                refine Row.mk _ r2 ?_
                refine Split.mk fun t h => ?_
                rw [bytes_beq] at h
                cases t
                case true => rw [decide_eq_false hkk] at h; cases h
                refine Need.mk rfl ?_
                refine Split.mk fun t h => ?_
                cases t
                case true => rw [beq_iff_eq] at h; omega
                refine Need.mk hj1 ?_
                refine ACall.mk _ _ hA2 ?_
                refine Split.mk fun t h => ?_
                cases t
                case false => cases h
                refine Need.mk hj2 ?_
                refine ACall.mk _ _ hB2 ?_
                refine Split.mk fun t h => ?_
                cases t
                case false => cases h
                refine Fz.mk _ (frzE ya) ?_
                refine ACall.mk _ _ hFa ?_
                refine Need.mk ⟨closed_us _ za, no_objs⟩ ?_
                refine Need.mk (plainE za) ?_
                refine Need.mk (sizeOk _ _ [] za rfl rfl (by simp; omega)) ?_
                refine Fz.mk _ (frzE yb) ?_
                refine ACall.mk _ _ hFb ?_
                refine Need.mk ⟨closed_us _ zb, no_objs⟩ ?_
                refine Need.mk (plainE zb) ?_
                refine Need.mk (sizeOk _ _ za zb rfl rfl (by omega)) ?_
                refine Need.mk rfl ?_
                refine Fz.mk _ hFz ?_
                refine ACall.mk _ _ hW ?_
                refine Need.mk ⟨closed_v, no_objs⟩ ?_
                refine Split.mk fun t h => ?_
                cases t
                case false => cases h
                refine Fz.mk _ (frzE ya) ?_
                refine ACall.mk _ _ hMa ?_
                refine Need.mk ⟨closed_v, no_objs⟩ ?_
                refine Split.mk fun t h => ?_
                cases t
                case true => cases h
                refine Fz.mk _ (frzE yb) ?_
                refine ACall.mk _ _ hMb ?_
                refine Need.mk ⟨closed_v, no_objs⟩ ?_
                refine Split.mk fun t h => ?_
                cases t
                case true => cases h
                refine Split.mk fun t h => ?_
                rw [hzsl0] at h
                cases t
                case false => cases h
                exact Need.mk ⟨[], _, .same, rfl, rfl⟩ trivial
    · refine AFn.introX (E := En 0 md0) (en_ok 0 _) Try.func4 rfl rfl rfl fun _ _ => ?_
      refine Split.mk fun t ht => ?_
      rw [hbl] at ht
      cases t
      case true => rw [decide_eq_true_iff] at ht; omega
      refine Split.mk fun t ht => ?_
      rw [hml] at ht
      cases t
      case false => rw [decide_eq_false_iff_not] at ht; omega
      exact Need.mk ⟨[], _, .same, rfl, rfl⟩ trivial
  · refine AFn.introX (E := En 0 md0) (en_ok 0 _) Try.func4 rfl rfl rfl fun _ _ => ?_
    refine Split.mk fun t ht => ?_
    rw [hbl] at ht
    cases t
    case false => rw [decide_eq_false_iff_not] at ht; omega
    exact Need.mk ⟨[], _, .same, rfl, rfl⟩ trivial
theorem laws_FnRunCut_any (c0 : C) (h0 : Sh (.slice tyB) c0) (c1 : C) (h1 : Sh (.slice tyB) c1) : AFn Try.prog 4 [.one (.c c0), .one (.c c1)] [] (rb true) [] := by
  obtain ⟨bs, rfl, hb⟩ := dec_bytes h0
  obtain ⟨ms, rfl, _⟩ := dec_bytes h1
  exact laws_FnRunCut bs ms hb
end Go.Proofs.Ytlmdheeammfihaa
