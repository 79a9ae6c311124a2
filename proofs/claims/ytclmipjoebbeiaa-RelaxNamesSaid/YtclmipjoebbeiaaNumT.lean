/- Plain law for package relax: what Places and Stable answer. -/
import Derived.Test.YtclmipjoebbeiaaNum
import Derived.Test.YtclmipjoebbeiaaQx8
import Derived.Test.YtclmipjoebbeiaaQx15
namespace Go.Proofs.Ytclmipjoebbeiaa.Q
open Go.RowKit Go.Proofs.YtclmipjoebbeiaaW.PrintWords Go.Proofs.YtclmipjoebbeiaaW.PrintLast Go.Proofs.YtclmipjoebbeiaaW.PrintMore
set_option linter.unusedVariables false
set_option linter.unusedSimpArgs false

theorem evn_check_l0 (its : List S48) (lab : List Int) (long : List Bool) (hl : long.length ≤ 100000) : ∀ (suf pre : List Bool) (ok : Bool), long = pre ++ suf → (ok = true → long.length = its.length) →
    Ev (fun k => relax_check.l0 k ok long (long.length : Int) (pre.length : Int) its lab) (if (ok && okFrom its pre.length suf) = true then 0 else 2)
  | [], pre, ok, e, hok => by
    refine Ev.step (f := fun k => some (if ok = true then 0 else 2)) (fun k => ?_) ?_
    · simp only [relax_check.l0]
      rw [if_neg (by rw [e]; simp)]
      cases ok <;> rfl
    · cases ok <;> exact Ev.now _
  | x :: suf, pre, ok, e, hok => by
    have ih := evn_check_l0 its lab long hl suf (pre ++ [x])
    have hn := next_at pre x (by rw [e] at hl; simp at hl; omega)
    have hx : rdOf false long (pre.length : Int) = x := by rw [e]; exact rdOf_at _ _ _
    have hlt : (pre.length : Int) < (long.length : Int) := by rw [e]; simp; omega
    have hi : rd_T48 its (pre.length : Int) = its.getD pre.length z48 := by simp [rd_T48]
    refine Ev.step (f := fun k => relax_check.l0 k (ok && okCh (its.getD pre.length z48) x) long (long.length : Int) (wrap64 ((pre.length : Int) + 1)) its lab) (fun k => ?_) ?_
    · simp only [relax_check.l0]
      rw [if_pos hlt, if_pos (by omega), if_pos hlt, hx, hi]
      cases ok with
      | false => simp
      | true =>
        have := hok rfl
        have hlt2 : (pre.length : Int) < (its.length : Int) := by omega
        simp only [if_pos rfl, if_pos hlt2]
        unfold okCh
        cases x <;> simp
    · rw [hn]
      have := ih (ok && okCh (its.getD pre.length z48) x) (by rw [e]; simp) (by intro h; rw [Bool.and_eq_true] at h; exact hok h.1)
      have e2 : okFrom its pre.length (x :: suf) = (okCh (its.getD pre.length z48) x && okFrom its (pre ++ [x]).length suf) := by simp [okFrom]
      rw [e2, ← Bool.and_assoc]
      exact this
theorem evn_check (its : List S48) (lab : List Int) (long : List Bool) (h1 : its.length ≤ 100000) (h2 : lab.length ≤ 100000) (h3 : long.length ≤ 100000) : Ev (fun k => relax_check.f k its lab long) (choiceS its lab long) := by
  unfold relax_check.f
  refine Ev.bind (evn_Check its lab h1 h2) ?_
  unfold checkS choiceS
  by_cases hv : valid its lab = true
  · simp only [if_pos hv, if_true]
    by_cases he : long.length = its.length
    · have e : ((long.length : Int) == (its.length : Int)) = true := by simp [he]
      rw [e]
      have := evn_check_l0 its lab long h3 long [] true rfl (fun _ => he)
      simpa [he] using this
    · have e : ((long.length : Int) == (its.length : Int)) = false := by simp; omega
      rw [e, if_neg (fun h => he h.1)]
      exact evn_check_l0 its lab long h3 long [] false rfl (fun h => by cases h)
  · simp only [if_neg hv]
    exact Ev.now _
theorem evn_Stable_l0 {its : List S48} {lab : List Int} {long : List Bool} {at_ : List Int} (h : valid its lab = true) (he : long.length = its.length) (ha : at_.length = its.length + 1) : ∀ (d i : Nat), i + d = its.length →
    Ev (fun k => relax_Stable.l0 k long at_ its (its.length : Int) (i : Int) its lab) (decide (firstBad its lab long at_ d i < 0), 0)
  | 0, i, e => by
    refine Ev.step (f := fun k => some (true, 0)) (fun k => ?_) (Ev.now _)
    simp only [relax_Stable.l0]
    rw [if_neg (by omega)]
  | d + 1, i, e => by
    have hv := (valid_facts h).1
    have ih := evn_Stable_l0 h he ha d (i + 1) (by omega)
    have hn : wrap64 ((i : Int) + 1) = ((i + 1 : Nat) : Int) := by rw [w64 (by omega) (by omega)]; simp
    have hi : rd_T48 its (i : Int) = its.getD i z48 := by simp [rd_T48]
    have hx : rdOf false long (i : Int) = long.getD i false := by simp [rdOf]
    refine Ev.step (f := fun k => if badJ its lab long at_ i = true then some (false, 0) else relax_Stable.l0 k long at_ its (its.length : Int) ((i + 1 : Nat) : Int) its lab) (fun k => ?_) ?_
    · simp only [relax_Stable.l0]
      rw [if_pos (by omega), if_pos (by omega), if_pos (by omega), hi, hx, hn, if_pos (show (i : Int) < (long.length : Int) by omega)]
      unfold badJ
      by_cases hj : jumpAt its i = true
      · rw [if_pos (by simpa [jumpAt] using hj), reaches_f h (by omega) hj ha, hj]
        cases long.getD i false with
        | true => simp
        | false =>
          cases shortOk its lab at_ i <;> simp
      · rw [if_neg (by simpa [jumpAt] using hj)]
        simp [hj]
    · unfold firstBad
      cases badJ its lab long at_ i with
      | true =>
        have : decide ((if true = true then (i : Int) else firstBad its lab long at_ d (i + 1)) < 0) = false := by simp
        rw [this]
        exact Ev.now _
      | false => exact ih
theorem evn_Places {its : List S48} {lab : List Int} {long : List Bool} (h1 : its.length ≤ 100000) (h2 : lab.length ≤ 100000) (h3 : long.length ≤ 100000) : Ev (fun k => relax_Places.f k its lab long) (placesS its lab long) := by
  unfold relax_Places.f
  refine Ev.bind (evn_check its lab long h1 h2 h3) ?_
  unfold placesS
  by_cases c : choiceS its lab long = 0
  · simp only [if_pos c]
    obtain ⟨hv, he, _⟩ := choice_ok c
    rw [places_f hv he]
    exact Ev.now _
  · simp only [if_neg c]
    exact Ev.now _
theorem evn_Stable {its : List S48} {lab : List Int} {long : List Bool} (h1 : its.length ≤ 100000) (h2 : lab.length ≤ 100000) (h3 : long.length ≤ 100000) : Ev (fun k => relax_Stable.f k its lab long) (stableS its lab long) := by
  unfold relax_Stable.f
  refine Ev.bind (evn_check its lab long h1 h2 h3) ?_
  unfold stableS
  by_cases c : choiceS its lab long = 0
  · simp only [if_pos c]
    obtain ⟨hv, he, _⟩ := choice_ok c
    rw [places_f hv he]
    exact evn_Stable_l0 hv he (placesOf_length _ _) its.length 0 (by omega)
  · simp only [if_neg c]
    exact Ev.now _
