/- FormatFits: a number is in a field with the width that Fit returns, in each wider one, and in no narrower one; for any kind, scale, number and width. No conditions. -/
import Derived.Test.YtgbciglkfbiopaaQx18
import Derived.Test.YtgbciglkfbiopaaNum2
import Derived.OpenShut
namespace Go.Proofs.Ytgbciglkfbiopaa.Pure
open Go.RowKit Go.Proofs.Ytgbciglkfbiopaa.Q Go.Proofs.YtgbciglkfbiopaaW.PrintWords Go.Proofs.YtgbciglkfbiopaaW.PrintLast
theorem FormatFits : retargetlaw09_FormatFits.Pure := by
  intro kind scale n width hk _ hn hw
  have hk := bounds_u8 hk
  have hn := bounds_i64 hn
  refine Ev.rounds (g := fun k => retargetlaw09_FormatFits.f k kind scale n width) ?_
  unfold retargetlaw09_FormatFits.f
  refine Ev.bind evn_alive (Ev.bind (evn_Fit _ _ _ hk.1 hk.2 hn) (Ev.bind (evn_Field _ _ _ _ hk.1 hk.2) ?_))
  unfold fitS
  by_cases h : okArgs kind 1 scale
  · have h' := h
    obtain ⟨hkk, _, hs⟩ := h
    by_cases c : inS kind 32 scale n
    · have c1 := (in_fit hkk hs hn (w := 32) (by omega)).1 c
      have c2 := fitW_one kind (n / pw scale)
      have e1 : ¬ fitW kind (n / pw scale) < 1 := by omega
      have e2 : ¬ fitW kind (n / pw scale) > 32 := by omega
      simp only [if_pos h', if_pos c, if_true, if_neg e1, if_neg e2]
      refine Ev.bind (evn_Field _ _ _ _ hk.1 hk.2) ?_
      have hok : okArgs kind (fitW kind (n / pw scale)) scale := ⟨hkk, by omega, hs⟩
      have hin : inS kind (fitW kind (n / pw scale)) scale n := (in_fit hkk hs hn (by omega)).2 ⟨c1.1, by omega⟩
      have eF : (fieldS kind (fitW kind (n / pw scale)) scale n).2 = 0 := by unfold fieldS; rw [if_pos hok, if_pos hin]
      simp only [eF, if_true]
      by_cases w1 : width < 1
      · simp only [if_pos w1]; exact Ev.now _
      · by_cases w2 : width > 32
        · simp only [if_neg w1, if_pos w2]; exact Ev.now _
        · simp only [if_neg w1, if_neg w2]
          have hok2 : okArgs kind width scale := ⟨hkk, by omega, hs⟩
          have key := in_fit hkk hs hn (w := width) (by omega)
          have : ((fieldS kind width scale n).2 == 0) = decide (width ≥ fitW kind (n / pw scale)) := by
            unfold fieldS
            rw [if_pos hok2]
            by_cases c3 : fitW kind (n / pw scale) ≤ width
            · rw [if_pos (key.2 ⟨c1.1, c3⟩), decide_eq_true c3]; rfl
            · rw [if_neg (fun hh => c3 (key.1 hh).2), decide_eq_false c3]; rfl
          rw [this]
          simp only [beq_self_eq_true]
          exact Ev.now _
    · simp only [if_pos h', if_neg c]
      have eF : (fieldS kind width scale n).2 ≠ 0 := by
        unfold fieldS
        by_cases c3 : okArgs kind width scale
        · rw [if_pos c3]
          have : ¬ inS kind width scale n := fun hh => by
            have := (in_fit hkk hs hn (w := width) c3.2.1).1 hh
            exact c ((in_fit hkk hs hn (w := 32) (by omega)).2 ⟨this.1, by have := c3.2.1; omega⟩)
          rw [if_neg this]
          decide
        · rw [if_neg c3]; decide
      have : ((fieldS kind width scale n).2 != 0) = true := by simpa using eF
      simp only [if_neg (show ¬ ((24 : Int) = 0) by decide), this, if_true]
      exact Ev.now _
  · simp only [if_neg h]
    have c3 : ¬ okArgs kind width scale := fun hh => h ⟨hh.1, by omega, hh.2.2⟩
    have : ((fieldS kind width scale n).2 != 0) = true := by unfold fieldS; rw [if_neg c3]; rfl
    simp only [if_neg (show ¬ ((2 : Int) = 0) by decide), this, if_true]
    exact Ev.now _
end Go.Proofs.Ytgbciglkfbiopaa.Pure
