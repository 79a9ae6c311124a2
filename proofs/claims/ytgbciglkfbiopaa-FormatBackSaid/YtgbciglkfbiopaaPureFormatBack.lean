/- FormatBack: Field and Number are inverse, for any kind, width, scale, number and field. No conditions. -/
import Derived.Test.YtgbciglkfbiopaaQx11
import Derived.Test.YtgbciglkfbiopaaNum2
import Derived.OpenShut
namespace Go.Proofs.Ytgbciglkfbiopaa.Pure
open Go.RowKit Go.Proofs.Ytgbciglkfbiopaa.Q Go.Proofs.YtgbciglkfbiopaaW.PrintWords Go.Proofs.YtgbciglkfbiopaaW.PrintLast
theorem back_j0 (kind width scale f : Int) (hk : 0 ≤ kind ∧ kind ≤ 255) (hf : 0 ≤ f ∧ f ≤ 18446744073709551615) : Ev (fun k => retargetlaw09_FormatBack.j0 k kind width scale f true) true := by
  refine Ev.step (f := fun k => (format_Number.f k kind width scale f).bind fun b => if b.2 = 0 then (format_Field.f k kind width scale b.1).bind fun c => if c.2 = 0 then some (c.1 == f) else some false else some (b.1 == 0)) (fun k => ?_) ?_
  · simp only [retargetlaw09_FormatBack.j0, if_true]
  refine Ev.bind (evn_Number _ _ _ _ hk.1 hk.2 hf.1 hf.2) ?_
  unfold numberS
  by_cases h : okArgs kind width scale
  · have h' := h
    obtain ⟨_, hw, hs⟩ := h
    by_cases c : f < pw width
    · simp only [if_pos h', if_pos c, if_true]
      refine Ev.bind (evn_Field _ _ _ _ hk.1 hk.2) ?_
      have hb := back_bound (kind := kind) hw.1 hf.1 c
      have hd := scale_div (k := backI kind width f) hs.1 hs.2
      have hin : inS kind width scale (backI kind width f * pw scale) := ⟨hd.1, by rw [hd.2]; exact hb.1, by rw [hd.2]; exact hb.2⟩
      unfold fieldS
      simp only [if_pos h', if_pos hin, hd.2, code_back hw.1 hf.1 c, if_true, beq_self_eq_true]
      exact Ev.now _
    · simp only [if_pos h', if_neg c]
      exact Ev.now _
  · simp only [if_neg h]
    exact Ev.now _
theorem FormatBack : retargetlaw09_FormatBack.Pure := by
  intro kind width scale n f hk _ _ hn hf
  have hk := bounds_u8 hk
  have hf := bounds_u64 hf
  refine Ev.rounds (g := fun k => retargetlaw09_FormatBack.f k kind width scale n f) ?_
  unfold retargetlaw09_FormatBack.f
  refine Ev.bind evn_alive (Ev.bind (evn_Field _ _ _ _ hk.1 hk.2) ?_)
  unfold fieldS
  by_cases h : okArgs kind width scale
  · have h' := h
    obtain ⟨_, hw, hs⟩ := h
    by_cases c : inS kind width scale n
    · have hb := code_bound hw.1 c.2.1 c.2.2
      have p1 := pw32 hw.2
      simp only [if_pos h', if_pos c, if_true]
      refine Ev.bind (evn_Number _ _ _ _ hk.1 hk.2 hb.1 (by omega)) ?_
      unfold numberS
      simp only [if_pos h', if_pos hb.2, back_code hw.1 c.2.1 c.2.2, div_scale hs.1 hs.2 c.1, if_true]
      exact back_j0 _ _ _ _ hk hf
    · simp only [if_pos h', if_neg c]
      exact back_j0 _ _ _ _ hk hf
  · simp only [if_neg h]
    exact back_j0 _ _ _ _ hk hf
end Go.Proofs.Ytgbciglkfbiopaa.Pure
