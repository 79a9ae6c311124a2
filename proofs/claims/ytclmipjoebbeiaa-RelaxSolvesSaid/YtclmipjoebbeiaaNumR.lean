/- Plain law for package relax: what the reference answers: valid programs, places, jumps. -/
import Derived.Test.YtclmipjoebbeiaaNum
import Derived.Test.YtclmipjoebbeiaaQx10
import Derived.Test.YtclmipjoebbeiaaQx12
import Derived.Test.YtclmipjoebbeiaaQx16
import Derived.Test.YtclmipjoebbeiaaQx17
namespace Go.Proofs.Ytclmipjoebbeiaa.Q
open Go.RowKit Go.Proofs.YtclmipjoebbeiaaW.PrintWords Go.Proofs.YtclmipjoebbeiaaW.PrintLast Go.Proofs.YtclmipjoebbeiaaW.PrintMore
set_option linter.unusedVariables false
set_option linter.unusedSimpArgs false

theorem in_f (a b c : Int) : retargetref08_In.f a b c = some (decide (b ≤ a ∧ a ≤ c)) := by
  unfold retargetref08_In.f
  by_cases h : b ≤ a
  · rw [if_pos h]; congr 1; simp [h]
  · rw [if_neg h]; congr 1; simp [h]

theorem evn_Right_l1 (its : List S48) (lab : List Int) (hi : its.length ≤ 100000) (hl : lab.length ≤ 100000) : ∀ (suf pre : List S48), its = pre ++ suf →
    Ev (fun k => retargetref40_Right.l1 k (pre.length : Int) its lab) (suf.all (okIt lab.length))
  | [], pre, e => by
    refine Ev.step (f := fun k => some true) (fun k => ?_) (Ev.now _)
    simp only [retargetref40_Right.l1]
    rw [if_neg (by rw [e]; simp)]
  | x :: suf, pre, e => by
    have ih := evn_Right_l1 its lab hi hl suf (pre ++ [x]) (by rw [e]; simp)
    have hn := next_at pre x (by rw [e] at hi; simp at hi; omega)
    have hx : rd_T48 its (pre.length : Int) = x := by rw [e]; exact rd48_at _ _ _
    have hlt : (pre.length : Int) < (its.length : Int) := by rw [e]; simp; omega
    have e1 : wrap64 ((lab.length : Int) - 1) = (lab.length : Int) - 1 := w64 (by omega) (by omega)
    have hs : ∀ k, retargetref40_Right.l1 (k + 1) (pre.length : Int) its lab = if okIt lab.length x = true then retargetref40_Right.l1 k (((pre ++ [x]).length : Nat) : Int) its lab else some false := fun k => by
      simp only [retargetref40_Right.l1, in_f, Option.bind_some, e1, decide_eq_true_eq, hx]
      rw [if_pos hlt, if_pos (by omega), hn]
      unfold okIt okRest
      by_cases c0 : 0 ≤ x.f0 ∧ x.f0 ≤ 1000
      · rw [if_pos c0, decide_eq_true c0, Bool.true_and]
        by_cases h : x.f2 = -1
        · simp only [if_pos h, decide_eq_true_eq]
          repeat' split
          all_goals first | rfl | (exfalso; omega)
        · simp only [if_neg h, decide_eq_true_eq]
          repeat' split
          all_goals first | rfl | (exfalso; omega)
      · rw [if_neg c0, decide_eq_false c0, Bool.false_and, if_neg (by decide)]
    refine Ev.step hs ?_
    rw [List.all_cons]
    cases okIt lab.length x with
    | true => exact ih
    | false => exact Ev.now _
theorem evn_Right_l0 (its : List S48) (lab : List Int) (hi : its.length ≤ 100000) (hl : lab.length ≤ 100000) : ∀ (suf pre : List Int), lab = pre ++ suf →
    Ev (fun k => retargetref40_Right.l0 k (pre.length : Int) its lab) (suf.all (okLab its.length) && its.all (okIt lab.length))
  | [], pre, e => by
    refine Ev.step (f := fun k => retargetref40_Right.l1 k 0 its lab) (fun k => ?_) (evn_Right_l1 its lab hi hl its [] rfl)
    simp only [retargetref40_Right.l0]
    rw [if_neg (by rw [e]; simp)]
  | x :: suf, pre, e => by
    have ih := evn_Right_l0 its lab hi hl suf (pre ++ [x]) (by rw [e]; simp)
    have hn := next_at pre x (by rw [e] at hl; simp at hl; omega)
    have hx : rd lab (pre.length : Int) = x := by rw [e]; exact rd_at _ _ _
    have hlt : (pre.length : Int) < (lab.length : Int) := by rw [e]; simp; omega
    refine Ev.step (f := fun k => if okLab its.length x = true then retargetref40_Right.l0 k (((pre ++ [x]).length : Nat) : Int) its lab else some false) (fun k => ?_) ?_
    · simp only [retargetref40_Right.l0, in_f, Option.bind_some, hx]
      rw [if_pos hlt, if_pos (by omega), hn]
      rfl
    · rw [List.all_cons, Bool.and_assoc]
      cases okLab its.length x with
      | true => exact ih
      | false => exact Ev.now _
theorem evn_Right (its : List S48) (lab : List Int) (hi : its.length ≤ 100000) (hl : lab.length ≤ 100000) : Ev (fun k => retargetref40_Right.f k its lab) (valid its lab) := by
  unfold retargetref40_Right.f valid
  by_cases h : its.length ≤ 500
  · simp only [if_neg (show ¬ (its.length : Int) > 500 by omega), decide_eq_true h, Bool.true_and]
    by_cases h' : lab.length ≤ 500
    · simp only [decide_eq_false (show ¬ (lab.length : Int) > 500 by omega), decide_eq_true h', Bool.true_and]
      refine Ev.step (f := fun k => retargetref40_Right.l0 k 0 its lab) (fun k => by simp only [retargetref40_Right.j0]; rfl) (evn_Right_l0 its lab hi hl lab [] rfl)
    · simp only [decide_eq_true (show (lab.length : Int) > 500 by omega), decide_eq_false h', Bool.false_and]
      exact Ev.step (f := fun k => some false) (fun k => by simp only [retargetref40_Right.j0]; rfl) (Ev.now _)
  · simp only [if_pos (show (its.length : Int) > 500 by omega), decide_eq_false h, Bool.false_and]
    exact Ev.step (f := fun k => some false) (fun k => by simp only [retargetref40_Right.j0]; rfl) (Ev.now _)


theorem evn_Laid_l0 (its : List S48) (lab : List Int) (long : List Bool) (hl : its.length ≤ 100000) (he : long.length = its.length) : ∀ (d i : Nat), i + d = its.length →
    Ev (fun k => retargetref40_Laid.l0 k long ((List.range (i + 1)).map (plAt its long)) (i : Int) its lab) (placesOf its long)
  | 0, i, e => by
    refine Ev.step (f := fun k => some (placesOf its long)) (fun k => ?_) (Ev.now _)
    simp only [retargetref40_Laid.l0]
    rw [if_neg (by omega)]
    obtain rfl : i = its.length := by omega
    rfl
  | d + 1, i, e => by
    have ih := evn_Laid_l0 its lab long hl he d (i + 1) (by omega)
    have hn : wrap64 ((i : Int) + 1) = ((i + 1 : Nat) : Int) := by rw [w64 (by omega) (by omega)]; simp
    have hi : rd_T48 its (i : Int) = its.getD i z48 := by simp [rd_T48]
    have hx : rdOf false long (i : Int) = long.getD i false := by simp [rdOf]
    have hu := upto_rd its long (i + 1) i (by omega)
    have hs : (List.range (i + 1 + 1)).map (plAt its long) = (List.range (i + 1)).map (plAt its long) ++ [wrap64 (plAt its long i + szAt its long i)] := by
      rw [List.range_succ (n := i + 1)]; simp [plAt]
    refine Ev.step (f := fun k => retargetref40_Laid.l0 k long ((List.range (i + 1 + 1)).map (plAt its long)) ((i + 1 : Nat) : Int) its lab) (fun k => ?_) ih
    simp only [retargetref40_Laid.l0]
    rw [if_pos (by omega), if_pos (by omega), if_pos (by omega), hx, hi, hn, hu, hs]
    have c1 : ((i : Nat) : Int) < ((((List.range (i + 1)).map (plAt its long)).length : Nat) : Int) := by simp; omega
    have c2 : ((List.range (i + 1)).map (plAt its long)).length < 17592186044416 := by simp; omega
    unfold szAt
    by_cases hb : long.getD i false = true
    · rw [if_pos hb, if_pos c1, if_pos c2, if_pos hb]
    · rw [if_neg hb, if_pos c1, if_pos c2, if_neg hb]
theorem evn_Laid (its : List S48) (lab : List Int) (long : List Bool) (hl : its.length ≤ 100000) (he : long.length = its.length) : Ev (fun k => retargetref40_Laid.f k its lab long) (placesOf its long) :=
  evn_Laid_l0 its lab long hl he its.length 0 (by omega)

theorem Distance_f {its : List S48} {lab at_ : List Int} (h : valid its lab = true) {i : Nat} (hi : i < its.length) (hj : jumpAt its i = true) (ha : at_.length = its.length + 1) :
    retargetref40_Distance.f its lab at_ (i : Int) = some (distOf its lab at_ i) := by
  obtain ⟨⟨h1, h2⟩, h3, h4⟩ := valid_jump h hi hj
  have hv := (valid_facts h).1
  have e1 : rd_T48 its (i : Int) = its.getD i z48 := by simp [rd_T48]
  have e2 : wrap64 ((i : Int) + 1) = (i : Int) + 1 := w64 (by omega) (by omega)
  unfold retargetref40_Distance.f
  rw [e1, e2, if_pos (by omega), if_pos (by omega), if_pos h1, if_pos h2, if_pos h3, if_pos (by omega), if_pos (by omega), if_pos (by omega)]
  rfl
theorem evn_fails_l0 {its : List S48} {lab : List Int} {long : List Bool} {at_ : List Int} (h : valid its lab = true) (he : long.length = its.length) (ha : at_.length = its.length + 1) : ∀ (d i : Nat), i + d = its.length →
    Ev (fun k => retargetref40_fails.l0 k long at_ (i : Int) its lab) (firstBad its lab long at_ d i)
  | 0, i, e => by
    refine Ev.step (f := fun k => some (-1)) (fun k => ?_) (Ev.now _)
    simp only [retargetref40_fails.l0]
    rw [if_neg (by omega)]
  | d + 1, i, e => by
    have hv := (valid_facts h).1
    have ih := evn_fails_l0 h he ha d (i + 1) (by omega)
    have hn : wrap64 ((i : Int) + 1) = ((i + 1 : Nat) : Int) := by rw [w64 (by omega) (by omega)]; simp
    have hi : rd_T48 its (i : Int) = its.getD i z48 := by simp [rd_T48]
    have hx : rdOf false long (i : Int) = long.getD i false := by simp [rdOf]
    refine Ev.step (f := fun k => if badJ its lab long at_ i = true then some (i : Int) else retargetref40_fails.l0 k long at_ ((i + 1 : Nat) : Int) its lab) (fun k => ?_) ?_
    · simp only [retargetref40_fails.l0]
      rw [if_pos (by omega), if_pos (by omega), hi, hx, hn, if_pos (show (i : Int) < (long.length : Int) by omega)]
      unfold badJ
      by_cases hj : jumpAt its i = true
      · rw [if_pos (by simpa [jumpAt] using hj), Distance_f h (by omega) hj ha, hj]
        simp only [Option.bind_some, in_f]
        cases long.getD i false with
        | true => simp
        | false =>
          have : decide ((its.getD i z48).f3 ≤ distOf its lab at_ i ∧ distOf its lab at_ i ≤ (its.getD i z48).f4) = shortOk its lab at_ i := rfl
          rw [this]
          cases shortOk its lab at_ i <;> simp
      · rw [if_neg (by simpa [jumpAt] using hj)]
        simp [hj]
    · unfold firstBad
      cases badJ its lab long at_ i with
      | true => exact Ev.now _
      | false => exact ih
theorem evn_fails {its : List S48} {lab : List Int} {long : List Bool} (h : valid its lab = true) (he : long.length = its.length) : Ev (fun k => retargetref40_fails.f k its lab long) (failsS its lab long) := by
  have hv := (valid_facts h).1
  unfold retargetref40_fails.f
  exact Ev.bind (evn_Laid its lab long (by omega) he) (evn_fails_l0 h he (placesOf_length _ _) its.length 0 (by omega))
