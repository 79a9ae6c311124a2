/- RelaxSolves: Solve answers as the reference does; for any program. No conditions. -/
import Derived.Test.YtclmipjoebbeiaaQx27
import Derived.Test.YtclmipjoebbeiaaNumS
namespace Go.Proofs.Ytclmipjoebbeiaa.Pure
open Go.RowKit Go.Proofs.Ytclmipjoebbeiaa.Q Go.Proofs.YtclmipjoebbeiaaW.PrintWords Go.Proofs.YtclmipjoebbeiaaW.PrintLast Go.Proofs.YtclmipjoebbeiaaW.PrintMore
theorem RelaxSolves (its : List S48) (lab : List Int) : ∃ k, retargetlaw40_RelaxSolves.f k its lab = some true := by
  refine Ev.rounds (g := fun k => retargetlaw40_RelaxSolves.f k its lab) ?_
  unfold retargetlaw40_RelaxSolves.f
  simp only [great_f, Option.bind_some]
  by_cases hg : Gr its lab
  · simp only [decide_eq_true hg, if_true]
    exact Ev.now _
  · simp only [decide_eq_false hg, Bool.false_eq_true, if_false]
    have hb := not_gr hg
    have h1 : its.length ≤ 100000 := by omega
    have h2 : lab.length ≤ 100000 := by omega
    have e : ∀ k, relax_Solve.f k its lab = some (solveS its lab) := fun k => by unfold relax_Solve.f; rw [if_pos ⟨h1, h2⟩]
    simp only [e, Option.bind_some]
    refine Ev.bind (evn_refSolve its lab h1 h2) ?_
    refine Ev.bind (evn_SameBools _ _ ?_) ?_
    · unfold solveS solveOk
      split
      · rename_i hv
        split
        · show (Q.leastOf its lab).length ≤ _
          rw [(Q.leastOf_spec hv).1.len]; exact h1
        · simp
      · simp
    · rw [decide_eq_true rfl]
      simp only [if_true, beq_self_eq_true]
      exact Ev.now _
