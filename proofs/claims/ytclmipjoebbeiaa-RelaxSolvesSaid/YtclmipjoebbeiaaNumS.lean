/- Plain law for package relax: what the reference's Solve answers. -/
import Derived.Test.YtclmipjoebbeiaaNumR
import Derived.Test.YtclmipjoebbeiaaGrowLeast
import Derived.Test.YtclmipjoebbeiaaQx26
namespace Go.Proofs.Ytclmipjoebbeiaa.Q
open Go.RowKit Go.Proofs.YtclmipjoebbeiaaW.PrintWords Go.Proofs.YtclmipjoebbeiaaW.PrintLast Go.Proofs.YtclmipjoebbeiaaW.PrintMore
set_option linter.unusedVariables false
set_option linter.unusedSimpArgs false
theorem placesOf_length' (its : List S48) (long : List Bool) : (placesOf its long).length = its.length + 1 := by simp [placesOf]
theorem evn_refSolve_l1 {its : List S48} {lab : List Int} (h : valid its lab = true) {long : List Bool} (hl : long.length = its.length) (hO : OnlyJ its long) : ∀ (d i : Nat), i + d = its.length →
    Ev (fun k => retargetref40_Solve.l1 k long (placesOf its long) (i : Int) its lab) (if longAll its lab long d i = true then (long, 0) else ([], 24))
  | 0, i, e => by
    refine Ev.step (f := fun k => some (long, 0)) (fun k => ?_) ?_
    · simp only [retargetref40_Solve.l1]
      rw [if_neg (by omega)]
    · simp only [longAll, if_true]; exact Ev.now _
  | d + 1, i, e => by
    have hv := (valid_facts h).1
    have ih := evn_refSolve_l1 h hl hO d (i + 1) (by omega)
    have hn : wrap64 ((i : Int) + 1) = ((i + 1 : Nat) : Int) := by rw [w64 (by omega) (by omega)]; simp
    have hi : rd_T48 its (i : Int) = its.getD i z48 := by simp [rd_T48]
    have hx : rdOf false long (i : Int) = long.getD i false := by simp [rdOf]
    refine Ev.step (f := fun k => if (long.getD i false && !longOk its lab (placesOf its long) i) = true then some ([], 24) else retargetref40_Solve.l1 k long (placesOf its long) ((i + 1 : Nat) : Int) its lab) (fun k => ?_) ?_
    · simp only [retargetref40_Solve.l1]
      rw [if_pos (by omega), if_pos (by omega), if_pos (by omega), hx, hi, hn]
      cases hb : long.getD i false with
      | false => simp
      | true =>
        have hj : jumpAt its i = true := by
          have h1 := hO i (by omega) hb
          have h2 := (item_facts h (show i < its.length by omega)).2
          unfold okRest at h2
          rw [if_neg h1] at h2
          unfold jumpAt
          exact decide_eq_true h2.1.1
        rw [if_pos rfl, Distance_f h (by omega) hj (placesOf_length' _ _)]
        simp only [Option.bind_some, in_f]
        have : decide ((its.getD i z48).f5 ≤ distOf its lab (placesOf its long) i ∧ distOf its lab (placesOf its long) i ≤ (its.getD i z48).f6) = longOk its lab (placesOf its long) i := rfl
        rw [this]
        cases longOk its lab (placesOf its long) i <;> simp
    · unfold longAll
      cases (long.getD i false && !longOk its lab (placesOf its long) i) with
      | true => exact Ev.now _
      | false => simpa using ih
theorem evn_refSolve_l0 {its : List S48} {lab : List Int} (h : valid its lab = true) : ∀ (k0 : Nat) (long : List Bool), Inv its lab long → short long ≤ k0 →
    Ev (fun k => retargetref40_Solve.l0 k long (failsS its lab long) its lab) (if longAll its lab (iterL its lab k0 long) its.length 0 = true then (iterL its lab k0 long, 0) else ([], 24)) := by
  have fin : ∀ long, Inv its lab long → failsS its lab long < 0 → Ev (fun k => retargetref40_Solve.l0 k long (failsS its lab long) its lab) (if longAll its lab long its.length 0 = true then (long, 0) else ([], 24)) := fun long I hf => by
    have hv := (valid_facts h).1
    refine Ev.step (f := fun k => (retargetref40_Laid.f k its lab long).bind fun t => retargetref40_Solve.l1 k long t 0 its lab) (fun k => ?_) ?_
    · simp only [retargetref40_Solve.l0]
      rw [if_neg (by omega)]
    · exact Ev.bind (evn_Laid its lab long (by omega) I.len) (evn_refSolve_l1 h I.len I.only its.length 0 (by omega))
  intro k0
  induction k0 with
  | zero =>
    intro long I hk
    unfold iterL
    refine fin long I ?_
    rcases Classical.em (failsS its lab long < 0) with c | c
    · exact c
    · obtain ⟨i, e, hi, hj, hb, hbad⟩ := fails_bad c
      have := short_set long i (by rw [I.len]; exact hi) hb
      omega
  | succ k0 ih =>
    intro long I hk
    unfold iterL
    by_cases c : failsS its lab long < 0
    · simp only [if_pos c]
      exact fin long I c
    · simp only [if_neg c]
      obtain ⟨i, e, hi, hj, hb, hbad⟩ := fails_bad c
      have hs := short_set long i (by rw [I.len]; exact hi) hb
      have I' := I.step h hi hj hbad
      refine Ev.step (f := fun k => (retargetref40_fails.f k its lab (long.set i true)).bind fun t => retargetref40_Solve.l0 k (long.set i true) t its lab) (fun k => ?_) ?_
      · simp only [retargetref40_Solve.l0, e]
        rw [if_pos (by omega), if_pos (by omega), if_pos (by rw [I.len]; omega)]
        rfl
      · rw [e, Int.toNat_natCast]
        exact Ev.bind (evn_fails h I'.len) (ih _ I' (by omega))
theorem evn_refSolve (its : List S48) (lab : List Int) (h1 : its.length ≤ 100000) (h2 : lab.length ≤ 100000) : Ev (fun k => retargetref40_Solve.f k its lab) (solveS its lab) := by
  unfold retargetref40_Solve.f
  refine Ev.bind (evn_Right its lab h1 h2) ?_
  unfold solveS
  by_cases hv : valid its lab = true
  · simp only [if_pos hv, if_true]
    have I := Inv.start its lab
    simp only [if_pos (show 0 ≤ (its.length : Int) by omega), Int.toNat_natCast, if_pos (show its.length ≤ 281474976710656 by omega), Option.bind_some]
    exact Ev.bind (evn_fails hv I.len) (evn_refSolve_l0 hv its.length _ I (Nat.le_trans (short_le _) (by simp)))
  · simp only [if_neg hv]
    exact Ev.now _
