/- RelaxLeast: the result of Solve is stable, and every stable choice is at least it; for any program and choice. No conditions. -/
import Derived.Test.YtclmipjoebbeiaaQx35
import Derived.Test.YtclmipjoebbeiaaNumL
namespace Go.Proofs.Ytclmipjoebbeiaa.Pure
open Go.RowKit Go.Proofs.Ytclmipjoebbeiaa.Q Go.Proofs.YtclmipjoebbeiaaW.PrintWords Go.Proofs.YtclmipjoebbeiaaW.PrintLast Go.Proofs.YtclmipjoebbeiaaW.PrintMore
theorem least_l0 (a long : List Bool) (hl : a.length ≤ 100000) (he : long.length = a.length) (hle : LeB a long) : ∀ (d i : Nat), i + d = a.length → Ev (fun k => retargetlaw40_RelaxLeast.l0 k long true a (i : Int)) true
  | 0, i, e => by
    refine Ev.step (f := fun k => some true) (fun k => ?_) (Ev.now _)
    simp only [retargetlaw40_RelaxLeast.l0]
    rw [if_neg (by omega)]
  | d + 1, i, e => by
    have ih := least_l0 a long hl he hle d (i + 1) (by omega)
    have hn : wrap64 ((i : Int) + 1) = ((i + 1 : Nat) : Int) := by rw [w64 (by omega) (by omega)]; simp
    have hx : rdOf false a (i : Int) = a.getD i false := by simp [rdOf]
    have hy : rdOf false long (i : Int) = long.getD i false := by simp [rdOf]
    refine Ev.step (f := fun k => retargetlaw40_RelaxLeast.l0 k long true a ((i + 1 : Nat) : Int)) (fun k => ?_) ih
    simp only [retargetlaw40_RelaxLeast.l0]
    rw [if_pos (by omega), if_pos (by omega), hx, hy, hn]
    cases hb : a.getD i false with
    | false => rw [if_neg (by decide)]
    | true => rw [if_pos rfl, if_pos (by omega), if_pos (hle i hb)]
theorem least_j0 (its : List S48) (lab : List Int) (long : List Bool) (b : Bool) (h1 : its.length ≤ 100000) (h2 : lab.length ≤ 100000) (h3 : b = false → long.length ≤ 100000) : Ev (fun k => retargetlaw40_RelaxLeast.j0 k long true b its lab) true := by
  cases b with
  | true =>
    refine Ev.step (f := fun k => some true) (fun k => ?_) (Ev.now _)
    simp only [retargetlaw40_RelaxLeast.j0, if_true]
  | false =>
    have h3 := h3 rfl
    rcases solveS_cases its lab with ⟨hv, e, hL⟩ | ⟨hv, e, hL⟩ | ⟨hv, e⟩
    · obtain ⟨I, hS⟩ := Q.leastOf_spec hv
      refine Ev.step (fun k => by simp only [retargetlaw40_RelaxLeast.j0, Bool.false_eq_true, if_false, solve_f h1 h2, Option.bind_some, e, if_true]; rfl) ?_
      refine Ev.bind (evn_Stable h1 h2 (by rw [I.len]; exact h1)) ?_
      rw [stable_of hv I.len I.only hS]
      simp only [if_true]
      have el : (((Q.leastOf its lab).length : Int) != (its.length : Int)) = false := by rw [I.len]; simp
      rw [el]
      refine Ev.step (fun k => by simp only [retargetlaw40_RelaxLeast.j1, Bool.false_eq_true, if_false]; rfl) ?_
      refine Ev.bind (evn_Stable h1 h2 h3) ?_
      have fin : Ev (fun k => retargetlaw40_RelaxLeast.j2 k long true (Q.leastOf its lab) true) true := Ev.step (f := fun k => some true) (fun k => by simp only [retargetlaw40_RelaxLeast.j2, if_true]) (Ev.now _)
      by_cases c : (stableS its lab long).2 = 0
      · simp only [if_pos c]
        cases hb : (stableS its lab long).1 with
        | false => exact fin
        | true =>
          obtain ⟨_, hl, hO, hT⟩ := stable_inv (show stableS its lab long = (true, 0) by rw [← hb, ← c])
          refine Ev.step (f := fun k => retargetlaw40_RelaxLeast.l0 k long true (Q.leastOf its lab) 0) (fun k => by simp only [retargetlaw40_RelaxLeast.j2, Bool.not_true, Bool.false_eq_true, if_false]) ?_
          exact least_l0 _ _ (by rw [I.len]; exact h1) (by rw [I.len, hl]) (I.forced long hl hO hT) _ 0 (by rw [Nat.zero_add])
      · simp only [if_neg c]
        exact fin
    · refine Ev.step (f := fun k => some true) (fun k => ?_) (Ev.now _)
      simp only [retargetlaw40_RelaxLeast.j0, Bool.false_eq_true, if_false, solve_f h1 h2, Option.bind_some, e]
      simp
    · refine Ev.step (f := fun k => (relax_Check.f k its lab).bind fun t => some (t == 8)) (fun k => ?_) ?_
      · simp only [retargetlaw40_RelaxLeast.j0, Bool.false_eq_true, if_false, solve_f h1 h2, Option.bind_some, e]
        simp
      · refine Ev.bind (evn_Check its lab h1 h2) ?_
        have : checkS its lab = 8 := by unfold checkS; rw [hv]; rfl
        rw [this]
        exact Ev.now _
theorem RelaxLeast (its : List S48) (lab : List Int) (long : List Bool) : ∃ k, retargetlaw40_RelaxLeast.f k its lab long = some true := by
  refine Ev.rounds (g := fun k => retargetlaw40_RelaxLeast.f k its lab long) ?_
  unfold retargetlaw40_RelaxLeast.f retargetlaw40_alive.f
  simp only [great_f, Option.bind_some]
  by_cases hg : Gr its lab
  · simp only [decide_eq_true hg, if_true]
    refine Ev.step (f := fun k => some true) (fun k => ?_) (Ev.now _)
    simp only [retargetlaw40_RelaxLeast.j0, if_true]
  · simp only [decide_eq_false hg, Bool.false_eq_true, if_false]
    have := not_gr hg
    by_cases c : (long.length : Int) > 600
    · simp only [if_pos c]
      exact least_j0 its lab long true (by omega) (by omega) (fun h => by cases h)
    · simp only [if_neg c]
      exact least_j0 its lab long (!true) (by omega) (by omega) (fun _ => by omega)
