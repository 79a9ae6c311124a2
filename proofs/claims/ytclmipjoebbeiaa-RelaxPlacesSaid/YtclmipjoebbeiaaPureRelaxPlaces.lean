/- RelaxPlaces: places begin with 0 and grow by the sizes of the items; for any program and choice. No conditions. -/
import Derived.Test.YtclmipjoebbeiaaQx34
import Derived.Test.YtclmipjoebbeiaaNumL
namespace Go.Proofs.Ytclmipjoebbeiaa.Pure
open Go.RowKit Go.Proofs.Ytclmipjoebbeiaa.Q Go.Proofs.YtclmipjoebbeiaaW.PrintWords Go.Proofs.YtclmipjoebbeiaaW.PrintLast Go.Proofs.YtclmipjoebbeiaaW.PrintMore
theorem pl_rd (its : List S48) (long : List Bool) (i : Nat) (h : i ≤ its.length) : rd (placesOf its long) (i : Int) = plAt its long i := upto_rd' its long _ _ (by omega)
theorem pl_len (its : List S48) (long : List Bool) : (placesOf its long).length = its.length + 1 := by simp [placesOf]
theorem places_l0 {its : List S48} {lab : List Int} (h : valid its lab = true) (long : List Bool) (hl : long.length = its.length) : ∀ (d i : Nat), i + d = its.length → Ev (fun k => retargetlaw40_RelaxPlaces.l0 k long true (placesOf its long) (i : Int) its lab) true
  | 0, i, e => by
    refine Ev.step (f := fun k => some true) (fun k => ?_) (Ev.now _)
    simp only [retargetlaw40_RelaxPlaces.l0]
    rw [if_neg (by omega)]
  | d + 1, i, e => by
    have hv := (valid_facts h).1
    have ih := places_l0 h long hl d (i + 1) (by omega)
    have hn : wrap64 ((i : Int) + 1) = ((i + 1 : Nat) : Int) := by rw [w64 (by omega) (by omega)]; simp
    have hx : rdOf false long (i : Int) = long.getD i false := by simp [rdOf]
    have hi : rd_T48 its (i : Int) = its.getD i z48 := by simp [rd_T48]
    have e1 := pl_rd its long i (by omega)
    have e2 := pl_rd its long (i + 1) (by omega)
    have e3 := place_succ h long (show i < its.length by omega)
    have e4 := size_facts h long (show i < its.length by omega)
    have ed : wrap64 (rd (placesOf its long) ((i + 1 : Nat) : Int) - rd (placesOf its long) (i : Int)) = szAt its long i := by
      rw [e1, e2, e3, show plAt its long i + szAt its long i - plAt its long i = szAt its long i by omega]
      exact w64 (by omega) (by omega)
    refine Ev.step (f := fun k => retargetlaw40_RelaxPlaces.l0 k long true (placesOf its long) ((i + 1 : Nat) : Int) its lab) (fun k => ?_) ih
    simp only [retargetlaw40_RelaxPlaces.l0]
    rw [if_pos (by omega), if_pos (by omega), if_pos (by omega), hx, hn, hi, ed]
    have c1 : ((i + 1 : Nat) : Int) < ((placesOf its long).length : Int) := by rw [pl_len]; omega
    have c2 : (i : Int) < ((placesOf its long).length : Int) := by rw [pl_len]; omega
    unfold szAt
    cases hb : long.getD i false with
    | false => rw [if_neg (by decide), if_pos (by omega), if_pos c1, if_pos c2, if_pos (by simp)]
    | true => rw [if_pos rfl, if_pos (by omega), if_pos c1, if_pos c2, if_pos (by simp)]
theorem places_j0 (its : List S48) (lab : List Int) (long : List Bool) (b : Bool) (h1 : its.length ≤ 100000) (h2 : lab.length ≤ 100000) (h3 : b = false → long.length ≤ 100000) : Ev (fun k => retargetlaw40_RelaxPlaces.j0 k long true b its lab) true := by
  cases b with
  | true =>
    refine Ev.step (f := fun k => some true) (fun k => ?_) (Ev.now _)
    simp only [retargetlaw40_RelaxPlaces.j0, if_true]
  | false =>
    have h3 := h3 rfl
    refine Ev.step (fun k => by simp only [retargetlaw40_RelaxPlaces.j0, Bool.false_eq_true, if_false]; rfl) ?_
    refine Ev.bind (evn_Places h1 h2 h3) ?_
    unfold placesS
    by_cases c : choiceS its lab long = 0
    · obtain ⟨hv, hl, _⟩ := onlyJ_of c
      simp only [if_pos c, if_true]
      have hw : wrap64 ((its.length : Int) + 1) = (its.length : Int) + 1 := w64 (by omega) (by omega)
      have r0 : rd (placesOf its long) 0 = 0 := by have := pl_rd its long 0 (by omega); simpa [plAt] using this
      simp only [hw, pl_len, if_pos (show ((its.length + 1 : Nat) : Int) = (its.length : Int) + 1 by omega), if_pos (show (long.length : Int) = (its.length : Int) by omega), if_pos (show (0 : Int) < ((its.length + 1 : Nat) : Int) by omega), r0, bne_self_eq_false]
      refine Ev.step (f := fun k => retargetlaw40_RelaxPlaces.l0 k long true (placesOf its long) 0 its lab) (fun k => by simp only [retargetlaw40_RelaxPlaces.j1, Bool.false_eq_true, if_false]) ?_
      exact places_l0 hv long hl its.length 0 (by omega)
    · simp only [if_neg c, if_true]
      exact Ev.now _
theorem RelaxPlaces (its : List S48) (lab : List Int) (long : List Bool) : ∃ k, retargetlaw40_RelaxPlaces.f k its lab long = some true := by
  refine Ev.rounds (g := fun k => retargetlaw40_RelaxPlaces.f k its lab long) ?_
  unfold retargetlaw40_RelaxPlaces.f retargetlaw40_alive.f
  simp only [great_f, Option.bind_some]
  by_cases hg : Gr its lab
  · simp only [decide_eq_true hg, if_true]
    refine Ev.step (f := fun k => some true) (fun k => ?_) (Ev.now _)
    simp only [retargetlaw40_RelaxPlaces.j0, if_true]
  · simp only [decide_eq_false hg, Bool.false_eq_true, if_false]
    have := not_gr hg
    by_cases c : (long.length : Int) > 600
    · simp only [if_pos c]
      exact places_j0 its lab long true (by omega) (by omega) (fun h => by cases h)
    · simp only [if_neg c]
      exact places_j0 its lab long (!true) (by omega) (by omega) (fun _ => by omega)
