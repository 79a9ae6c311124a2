/- Plain law for package format's numbers, second part: Field and Number are inverse; what the laws FormatBack, FormatOrder and FormatFits use. -/
import Derived.Test.YtgbciglkfbiopaaNum
import Derived.Test.YtgbciglkfbiopaaQx11
namespace Go.Proofs.Ytgbciglkfbiopaa.Q
open Go.RowKit Go.Proofs.YtgbciglkfbiopaaW.PrintWords Go.Proofs.YtgbciglkfbiopaaW.PrintLast Go.Proofs.YtgbciglkfbiopaaW.PrintMore
set_option linter.unusedVariables false

theorem alive_now : retargetlaw09_alive.f 50 = some true := by decide +kernel
theorem evn_alive : Ev (fun k => retargetlaw09_alive.f k) true := Ev.of retargetlaw09_alive.mono alive_now

theorem back_code {kind width k : Int} (h1 : 1 ≤ width) (ha : loI kind width ≤ k) (hb : k ≤ hiI kind width) : backI kind width (codeI width k) = k := by
  have p2 := pw_half h1
  have p4 := pw_pos (width - 1)
  unfold backI codeI
  unfold loI hiI at *
  by_cases c : kind = 3
  · simp only [if_pos c] at *
    rw [if_neg (by omega), if_neg (by omega)]
  · simp only [if_neg c] at *
    by_cases c2 : k < 0
    · rw [if_pos c2, if_pos (by omega)]; omega
    · rw [if_neg c2, if_neg (by omega)]
theorem code_back {kind width f : Int} (h1 : 1 ≤ width) (h0 : 0 ≤ f) (hf : f < pw width) : codeI width (backI kind width f) = f := by
  have p2 := pw_half h1
  have p4 := pw_pos (width - 1)
  unfold backI codeI
  unfold hiI
  by_cases c : kind = 3
  · simp only [if_pos c]
    rw [if_neg (by omega), if_neg (by omega)]
  · simp only [if_neg c]
    by_cases c2 : f > pw (width - 1) - 1
    · rw [if_pos c2, if_pos (by omega)]; omega
    · rw [if_neg c2, if_neg (by omega)]
theorem scale_div {s k : Int} (h : 0 ≤ s) (h' : s ≤ 3) : k * pw s % pw s = 0 ∧ k * pw s / pw s = k := by
  rcases pw_scale h h' with e | e | e | e <;> rw [e] <;> omega
theorem div_scale {s n : Int} (h : 0 ≤ s) (h' : s ≤ 3) (h0 : n % pw s = 0) : n / pw s * pw s = n := by
  rcases pw_scale h h' with e | e | e | e <;> rw [e] at h0 ⊢ <;> omega
theorem code_succ {kind width k : Int} (h1 : 1 ≤ width) (ha : loI kind width ≤ k) (hb : k + 1 ≤ hiI kind width) :
    codeI width (k + 1) = codeI width k + 1 ∨ (codeI width (k + 1) = 0 ∧ codeI width k = pw width - 1) := by
  unfold codeI
  by_cases c : k < 0
  · rw [if_pos c]
    by_cases c2 : k + 1 < 0
    · rw [if_pos c2]; omega
    · rw [if_neg c2]; omega
  · rw [if_neg c, if_neg (by omega)]; omega
theorem span_ends {kind width : Int} (h1 : 1 ≤ width) : hiI kind width - loI kind width = pw width - 1 := by
  have p2 := pw_half h1
  unfold hiI loI
  by_cases c : kind = 3
  · rw [if_pos c, if_pos c]; omega
  · rw [if_neg c, if_neg c]; omega
end Go.Proofs.Ytgbciglkfbiopaa.Q
