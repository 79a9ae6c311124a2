/- RelaxNeeded: no long form could be a short one while all others stay as they are; for any program and index. No conditions. -/
import Derived.Test.YtclmipjoebbeiaaQx36
import Derived.Test.YtclmipjoebbeiaaNumL
namespace Go.Proofs.Ytclmipjoebbeiaa.Pure
open Go.RowKit Go.Proofs.Ytclmipjoebbeiaa.Q Go.Proofs.YtclmipjoebbeiaaW.PrintWords Go.Proofs.YtclmipjoebbeiaaW.PrintLast Go.Proofs.YtclmipjoebbeiaaW.PrintMore
theorem getD_setF (l : List Bool) (i k : Nat) (hi : i < l.length) : (l.set i false).getD k false = if k = i then false else l.getD k false := by
  rw [List.getD_eq_getElem?_getD, List.getD_eq_getElem?_getD, List.getElem?_set]
  by_cases c : k = i
  · rw [if_pos c, if_pos c.symm, if_pos hi]; rfl
  · rw [if_neg c, if_neg (fun e => c e.symm)]
theorem needed_j0 (its : List S48) (lab : List Int) (a : Int) (h1 : its.length ≤ 100000) (h2 : lab.length ≤ 100000) : Ev (fun k => retargetlaw40_RelaxNeeded.j0 k a true false its lab) true := by
  rcases solveS_cases its lab with ⟨hv, e, hL⟩ | ⟨hv, e, hL⟩ | ⟨hv, e⟩
  · obtain ⟨I, hS⟩ := Q.leastOf_spec hv
    have hlen := I.len
    by_cases c1 : a < 0
    · refine Ev.step (f := fun k => some true) (fun k => ?_) (Ev.now _)
      simp only [retargetlaw40_RelaxNeeded.j0, Bool.false_eq_true, if_false, solve_f h1 h2, Option.bind_some, e, if_true, if_pos c1]
    by_cases c2 : a ≥ ((Q.leastOf its lab).length : Int)
    · refine Ev.step (f := fun k => some true) (fun k => ?_) (Ev.now _)
      simp only [retargetlaw40_RelaxNeeded.j0, Bool.false_eq_true, if_false, solve_f h1 h2, Option.bind_some, e, if_true, if_neg c1, if_pos c2]
    obtain ⟨i, rfl⟩ : ∃ i : Nat, a = (i : Int) := ⟨a.toNat, by omega⟩
    have hx : rdOf false (Q.leastOf its lab) (i : Int) = (Q.leastOf its lab).getD i false := by simp [rdOf]
    cases hb : (Q.leastOf its lab).getD i false with
    | false =>
      refine Ev.step (f := fun k => some true) (fun k => ?_) (Ev.now _)
      simp only [retargetlaw40_RelaxNeeded.j0, Bool.false_eq_true, if_false, solve_f h1 h2, Option.bind_some, e, if_true, if_neg c1, if_neg c2, hx, hb]
      rw [if_pos (by omega), if_pos (by omega)]
    | true =>
      have hi : i < (Q.leastOf its lab).length := by omega
      refine Ev.step (f := fun k => (relax_Stable.f k its lab ((Q.leastOf its lab).set i false)).bind fun t => if t.2 = 0 then some (!t.1) else some false) (fun k => ?_) ?_
      · simp only [retargetlaw40_RelaxNeeded.j0, Bool.false_eq_true, if_false, solve_f h1 h2, Option.bind_some, e, if_true, if_neg c1, if_neg c2, hx, hb, List.nil_append, List.length_nil, Int.toNat_natCast]
        rw [if_pos (by omega), if_pos (by omega), if_pos (by omega), if_pos (by omega)]
      · refine Ev.bind (evn_Stable h1 h2 (by rw [List.length_set]; omega)) ?_
        have hO : OnlyJ its ((Q.leastOf its lab).set i false) := fun k hk hbk => by
          rw [getD_setF _ _ _ hi] at hbk
          by_cases c : k = i
          · rw [if_pos c] at hbk; cases hbk
          · rw [if_neg c] at hbk; exact I.only k hk hbk
        have hl : ((Q.leastOf its lab).set i false).length = its.length := by rw [List.length_set, hlen]
        have hns : ¬ Stab its lab ((Q.leastOf its lab).set i false) := fun hs => by
          have := I.forced _ hl hO hs i hb
          rw [getD_setF _ _ _ hi, if_pos rfl] at this
          cases this
        have es : stableS its lab ((Q.leastOf its lab).set i false) = (false, 0) := by
          unfold stableS
          rw [if_pos (choice_of hv hl hO), decide_eq_false (fun h => hns ((fails_iff _ _ _).1 h))]
        rw [es]
        exact Ev.now _
  · refine Ev.step (f := fun k => some true) (fun k => ?_) (Ev.now _)
    simp only [retargetlaw40_RelaxNeeded.j0, Bool.false_eq_true, if_false, solve_f h1 h2, Option.bind_some, e]
    simp
  · refine Ev.step (f := fun k => some true) (fun k => ?_) (Ev.now _)
    simp only [retargetlaw40_RelaxNeeded.j0, Bool.false_eq_true, if_false, solve_f h1 h2, Option.bind_some, e]
    simp
theorem RelaxNeeded (its : List S48) (lab : List Int) (a : Int) (_ha : (Lit.int .i64 a).wf = true) : ∃ k, retargetlaw40_RelaxNeeded.f k its lab a = some true := by
  refine Ev.rounds (g := fun k => retargetlaw40_RelaxNeeded.f k its lab a) ?_
  unfold retargetlaw40_RelaxNeeded.f retargetlaw40_alive.f
  simp only [great_f, Option.bind_some]
  by_cases hg : Gr its lab
  · simp only [decide_eq_true hg, if_true]
    refine Ev.step (f := fun k => some true) (fun k => ?_) (Ev.now _)
    simp only [retargetlaw40_RelaxNeeded.j0, if_true]
  · simp only [decide_eq_false hg, Bool.false_eq_true, if_false]
    have := not_gr hg
    exact needed_j0 its lab a (by omega) (by omega)
