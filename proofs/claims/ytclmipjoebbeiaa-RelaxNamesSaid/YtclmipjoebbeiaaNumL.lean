/- Plain law for package relax: what follows of the least stable choice. -/
import Derived.Test.YtclmipjoebbeiaaNumT
import Derived.Test.YtclmipjoebbeiaaGrowLeast
import Derived.Test.YtclmipjoebbeiaaQx25
namespace Go.Proofs.Ytclmipjoebbeiaa.Q
open Go.RowKit Go.Proofs.YtclmipjoebbeiaaW.PrintWords Go.Proofs.YtclmipjoebbeiaaW.PrintLast Go.Proofs.YtclmipjoebbeiaaW.PrintMore
set_option linter.unusedVariables false
set_option linter.unusedSimpArgs false
theorem choice_of {its : List S48} {lab : List Int} {T : List Bool} (h : valid its lab = true) (hl : T.length = its.length) (hO : OnlyJ its T) : choiceS its lab T = 0 := by
  unfold choiceS
  rw [if_pos h, if_pos ⟨hl, okFrom_of its T 0 fun j hj hb => by rw [Nat.zero_add]; exact hO j (by omega) hb⟩]
theorem onlyJ_of {its : List S48} {lab : List Int} {T : List Bool} (h : choiceS its lab T = 0) : valid its lab = true ∧ T.length = its.length ∧ OnlyJ its T := by
  obtain ⟨h1, h2, h3⟩ := choice_ok h
  refine ⟨h1, h2, fun k hk hb => ?_⟩
  have := okFrom_at its T 0 k h3 (by omega) hb
  rwa [Nat.zero_add] at this
theorem stable_of {its : List S48} {lab : List Int} {T : List Bool} (h : valid its lab = true) (hl : T.length = its.length) (hO : OnlyJ its T) (hS : Stab its lab T) : stableS its lab T = (true, 0) := by
  unfold stableS
  rw [if_pos (choice_of h hl hO), decide_eq_true ((fails_iff _ _ _).2 hS)]
theorem stable_inv {its : List S48} {lab : List Int} {T : List Bool} (h : stableS its lab T = (true, 0)) : valid its lab = true ∧ T.length = its.length ∧ OnlyJ its T ∧ Stab its lab T := by
  unfold stableS at h
  by_cases c : choiceS its lab T = 0
  · rw [if_pos c] at h
    injection h with h1 h2
    obtain ⟨a, b, d⟩ := onlyJ_of c
    exact ⟨a, b, d, (fails_iff _ _ _).1 (of_decide_eq_true h1)⟩
  · rw [if_neg c] at h
    injection h with h1 h2
    cases h1
theorem solveS_cases (its : List S48) (lab : List Int) : (valid its lab = true ∧ solveS its lab = (leastOf its lab, 0) ∧ longAll its lab (leastOf its lab) its.length 0 = true) ∨ (valid its lab = true ∧ solveS its lab = ([], 24) ∧ longAll its lab (leastOf its lab) its.length 0 = false) ∨ (valid its lab = false ∧ solveS its lab = ([], 8)) := by
  unfold solveS solveOk
  cases hv : valid its lab with
  | false => exact Or.inr (Or.inr ⟨rfl, by simp⟩)
  | true =>
    cases hL : longAll its lab (leastOf its lab) its.length 0 with
    | true => exact Or.inl ⟨rfl, by simp, rfl⟩
    | false => exact Or.inr (Or.inl ⟨rfl, by simp, rfl⟩)
theorem solve_f {its : List S48} {lab : List Int} (h1 : its.length ≤ 100000) (h2 : lab.length ≤ 100000) (k : Nat) : relax_Solve.f k its lab = some (solveS its lab) := by unfold relax_Solve.f; rw [if_pos ⟨h1, h2⟩]
