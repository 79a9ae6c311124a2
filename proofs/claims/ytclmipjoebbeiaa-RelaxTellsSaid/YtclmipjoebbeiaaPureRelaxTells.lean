/- RelaxTells: Check, Places and Stable answer as the reference does, and change nothing; for any program and choice. No conditions. -/
import Derived.Test.YtclmipjoebbeiaaQx22
import Derived.Test.YtclmipjoebbeiaaNumR
namespace Go.Proofs.Ytclmipjoebbeiaa.Pure
open Go.RowKit Go.Proofs.Ytclmipjoebbeiaa.Q Go.Proofs.YtclmipjoebbeiaaW.PrintWords Go.Proofs.YtclmipjoebbeiaaW.PrintLast Go.Proofs.YtclmipjoebbeiaaW.PrintMore
theorem tells_j0 (its : List S48) (lab : List Int) (long : List Bool) (b : Bool) (h0 : its.length ≤ 1000) (h2 : lab.length ≤ 100000) (h3 : b = false → long.length ≤ 100000) : Ev (fun k => retargetlaw40_RelaxTells.j0 k long b its lab) true := by
  cases b with
  | true =>
    refine Ev.step (f := fun k => some true) (fun k => ?_) (Ev.now _)
    simp only [retargetlaw40_RelaxTells.j0, if_true]
  | false =>
    have h1 : its.length ≤ 100000 := by omega
    have h3 := h3 rfl
    refine Ev.step (fun k => by simp only [retargetlaw40_RelaxTells.j0, Bool.false_eq_true, if_false, Option.bind_some]; rfl) ?_
    simp only [if_pos (show ([] : List Bool).length + long.length < 140737488355328 by simp; omega)]
    refine Ev.bind (evn_Places h1 h2 h3) (Ev.bind (evn_refPlaces h1 h2 h3) (Ev.bind (evn_Stable h1 h2 h3) (Ev.bind (evn_refStable h1 h2 h3) (Ev.bind (evn_SameInts _ ?_) ?_))))
    · unfold placesS
      split
      · show (placesOf its long).length ≤ _
        rw [placesOf_length]; omega
      · simp
    simp only [if_true, beq_self_eq_true, List.nil_append]
    refine Ev.bind (evn_Check its lab h1 h2) (Ev.bind (a := checkS its lab) ?_ ?_)
    · unfold retargetref40_Check.f checkS
      refine Ev.bind (evn_Right its lab h1 h2) ?_
      cases valid its lab <;> exact Ev.now _
    simp only [if_true]
    exact Ev.bind (evn_SameBools _ _ h3) (by rw [decide_eq_true rfl]; exact Ev.now _)
theorem RelaxTells (its : List S48) (lab : List Int) (long : List Bool) : ∃ k, retargetlaw40_RelaxTells.f k its lab long = some true := by
  refine Ev.rounds (g := fun k => retargetlaw40_RelaxTells.f k its lab long) ?_
  unfold retargetlaw40_RelaxTells.f
  simp only [great_f, Option.bind_some]
  by_cases hg : Gr its lab
  · simp only [decide_eq_true hg, if_true]
    refine Ev.step (f := fun k => some true) (fun k => ?_) (Ev.now _)
    simp only [retargetlaw40_RelaxTells.j0, if_true]
  · simp only [decide_eq_false hg, Bool.false_eq_true, if_false]
    have := not_gr hg
    exact tells_j0 its lab long _ (by omega) (by omega) (fun h => by have := of_decide_eq_false h; omega)
