/- RelaxWide: plain law: the short choice; with the greatest ranges every jump reaches. -/
import Derived.Test.YtclmipjoebbeiaaNumL
namespace Go.Proofs.Ytclmipjoebbeiaa.Q
open Go.RowKit Go.Proofs.YtclmipjoebbeiaaW.PrintWords Go.Proofs.YtclmipjoebbeiaaW.PrintLast Go.Proofs.YtclmipjoebbeiaaW.PrintMore
set_option linter.unusedVariables false
set_option linter.unusedSimpArgs false
def shortL (its : List S48) : List Bool := List.replicate its.length false
theorem shortL_at (its : List S48) (k : Nat) : (shortL its).getD k false = false := getD_replicate _ _
theorem shortL_only (its : List S48) : OnlyJ its (shortL its) := fun k _ h => by rw [shortL_at] at h; cases h
theorem shortL_len (its : List S48) : (shortL its).length = its.length := by simp [shortL]
theorem stable_short (its : List S48) (lab : List Int) : stableS its lab (shortL its) = if valid its lab = true then (decide (failsS its lab (shortL its) < 0), 0) else (false, 8) := by
  by_cases hv : valid its lab = true
  · rw [if_pos hv]
    unfold stableS
    rw [if_pos (choice_of hv (shortL_len _) (shortL_only _))]
  · rw [if_neg hv]
    have : choiceS its lab (shortL its) = 8 := by unfold choiceS; rw [if_neg hv]
    unfold stableS
    rw [this, if_neg (by decide)]
theorem least_short {its : List S48} {lab : List Int} (h : valid its lab = true) : leastOf its lab = shortL its ↔ Stab its lab (shortL its) := by
  obtain ⟨I, S⟩ := leastOf_spec h
  refine ⟨fun e => by rw [← e]; exact S, fun hs => Inv.unique I (Inv.start its lab) S hs⟩
theorem solve_short {its : List S48} {lab : List Int} (h : valid its lab = true) (hs : Stab its lab (shortL its)) : solveS its lab = (shortL its, 0) := by
  unfold solveS solveOk
  rw [if_pos h, (least_short h).2 hs, if_pos]
  rw [longAll_iff]
  intro j _ _ hb
  rw [shortL_at] at hb
  cases hb
/-- The greatest ranges. -/
def widen (x : S48) : S48 := if 0 ≤ x.f2 then ⟨x.f0, x.f1, x.f2, -16777216, 16777216, -16777216, 16777216⟩ else x
theorem valid_widen {its : List S48} {lab : List Int} (h : valid its lab = true) : valid (its.map widen) lab = true := by
  obtain ⟨h1, h2, h3, h4⟩ := valid_facts h
  simp only [valid, Bool.and_eq_true, decide_eq_true_eq, List.all_eq_true, okLab, okIt, List.length_map]
  refine ⟨h1, h2, h3, fun y hy => ?_⟩
  obtain ⟨x, hx, rfl⟩ := List.mem_map.1 hy
  obtain ⟨a, b⟩ := h4 x hx
  unfold widen
  split
  · rename_i c
    refine ⟨a, ?_⟩
    unfold okRest at b ⊢
    rw [if_neg (by omega)] at b
    show if x.f2 = -1 then _ else _
    rw [if_neg (by omega)]
    exact ⟨b.1, b.2.1, by simp, by simp, by simp, by simp, by simp, by simp⟩
  · exact ⟨a, b⟩
theorem widen_at (its : List S48) {i : Nat} (hi : i < its.length) : (its.map widen).getD i z48 = widen (its.getD i z48) := by
  rw [List.getD_eq_getElem?_getD, List.getD_eq_getElem?_getD, List.getElem?_map, List.getElem?_eq_getElem hi]; rfl
theorem stab_widen {its : List S48} {lab : List Int} (h : valid its lab = true) : Stab (its.map widen) lab (shortL (its.map widen)) := by
  intro i hi
  have hv := valid_widen h
  unfold badJ
  cases hj : jumpAt (its.map widen) i with
  | false => rfl
  | true =>
    obtain ⟨ht, ed⟩ := dist_eq hv (shortL (its.map widen)) hi hj
    have p1 := place_facts hv (shortL (its.map widen)) _ ht
    have p2 := place_facts hv (shortL (its.map widen)) (i + 1) (by omega)
    have hl := (valid_facts hv).1
    have hi' : i < its.length := by simpa using hi
    have hf : 0 ≤ (its.getD i z48).f2 := by
      unfold jumpAt at hj
      rw [widen_at its hi'] at hj
      have := of_decide_eq_true hj
      unfold widen at this
      split at this
      · assumption
      · exact this
    have hs : shortOk (its.map widen) lab (placesOf (its.map widen) (shortL (its.map widen))) i = true := by
      unfold shortOk
      have ew : widen (its.getD i z48) = ⟨(its.getD i z48).f0, (its.getD i z48).f1, (its.getD i z48).f2, -16777216, 16777216, -16777216, 16777216⟩ := by unfold widen; rw [if_pos hf]
      rw [ed, widen_at its hi', ew]
      refine decide_eq_true ⟨?_, ?_⟩
      · show (-16777216 : Int) ≤ _; omega
      · show _ ≤ (16777216 : Int); omega
    rw [hs]
    simp
theorem solve_widen {its : List S48} {lab : List Int} (h : valid its lab = true) : solveS (its.map widen) lab = (shortL (its.map widen), 0) := solve_short (valid_widen h) (stab_widen h)
