/- FormatPuts: what is put is got, the other bits stay, putting what is there changes nothing; for any size, word, pieces and field. No conditions. -/
import Derived.Test.YtgbciglkfbiopaaBit8
import Derived.Test.YtgbciglkfbiopaaNum2
import Derived.Test.YtgbciglkfbiopaaQx15
import Derived.OpenShut
namespace Go.Proofs.Ytgbciglkfbiopaa.Pure
open Go.RowKit Go.Proofs.Ytgbciglkfbiopaa.Q Go.Proofs.YtgbciglkfbiopaaW.PrintWords Go.Proofs.YtgbciglkfbiopaaW.PrintLast Go.Proofs.YtgbciglkfbiopaaW.PrintMore
set_option linter.unusedVariables false
set_option linter.unusedSimpArgs false
theorem lt_pw {x n : Int} (h0 : 0 ≤ x) (h : x < pw n) : x.toNat < 2 ^ n.toNat := by rw [pw_nat] at h; omega
theorem pw_lt {x n : Nat} {m : Int} (hm : m.toNat = n) (h : x < 2 ^ n) : (x : Int) < pw m := by rw [pw_nat, hm]; omega
theorem puts_j1 {size word : Int} {l : List S41} {field : Int} (h : chkS size l = 0) (hw0 : 0 ≤ word) (hw1 : word ≤ 18446744073709551615) (hw : word < pw size) (hf0 : 0 ≤ field) (hf1 : field ≤ 18446744073709551615) :
    Ev (fun k => retargetlaw09_FormatPuts.j1 k size word l field true ((orM (plN l) : Nat) : Int) false) true := by
  obtain ⟨hs, hl, hv⟩ := chkS_zero.1 h
  refine Ev.step (f := fun k => (format_Put.f k size word l field).bind fun b => if b.2 = 0 then (format_Get.f k size b.1 l).bind fun c => if c.2 = 0 then (if c.1 = field then some (Go.bits .andNot .u64 b.1 ((orM (plN l) : Nat) : Int) == Go.bits .andNot .u64 word ((orM (plN l) : Nat) : Int)) else some false) else some false else some (b.1 == 0)) (fun k => ?_) ?_
  · simp only [retargetlaw09_FormatPuts.j1, Bool.false_eq_true, if_false, if_true]
  refine Ev.bind (evn_Put _ _ _ _ hw0 hw1 hf0 hf1) ?_
  have hV := V_lt hv
  have h64 := V_64 hs.2 hv
  have hwN := lt_pw hw0 hw
  have hlt := putN_lt (x := field.toNat) (show size.toNat ≤ 64 by omega) hwN hV
  have hlt64 : putN word.toNat field.toNat (plN l) < 18446744073709551616 := Nat.lt_of_lt_of_le hlt (show _ ≤ 2 ^ 64 from Nat.pow_le_pow_right (by decide) (by omega))
  have hw64 : word.toNat < 18446744073709551616 := by omega
  unfold putR
  rw [if_pos h]
  by_cases hf : field < pw ((plN l).length : Int)
  · rw [if_pos ⟨hw, hf⟩]
    simp only [if_true]
    refine Ev.bind (evn_Get _ _ _ (by omega) (by omega)) ?_
    unfold getR
    rw [if_pos h, if_pos (pw_lt rfl hlt), Int.toNat_natCast, get_put hw64 h64 hv.2 (by have := lt_pw hf0 hf; rwa [Int.toNat_natCast] at this), Int.toNat_of_nonneg hf0]
    simp only [if_true]
    have e1 := u64_andNot_nat (putN word.toNat field.toNat (plN l)) (orM (plN l)) hlt64 (orM64 h64)
    have e2 := u64_andNot_nat word.toNat (orM (plN l)) hw64 (orM64 h64)
    rw [Int.toNat_of_nonneg hw0] at e2
    rw [e1, e2, put_keeps hw64 h64, beq_self_eq_true]
    exact Ev.now _
  · rw [if_neg (fun c => hf c.2)]
    exact Ev.now _
theorem puts_j0 {size word : Int} {l : List S41} {field : Int} (hw0 : 0 ≤ word) (hw1 : word ≤ 18446744073709551615) (hf0 : 0 ≤ field) (hf1 : field ≤ 18446744073709551615) : Ev (fun k => retargetlaw09_FormatPuts.j0 k size word l field true false) true := by
  refine Ev.step (f := fun k => (format_Get.f k size word l).bind fun b => if b.2 = 0 then (format_Mask.f k size l).bind fun c => (format_Put.f k size word l b.1).bind fun d => if c.2 = 0 then (if d.2 = 0 then retargetlaw09_FormatPuts.j1 k size word l field true c.1 (d.1 != word) else retargetlaw09_FormatPuts.j1 k size word l field true c.1 true) else retargetlaw09_FormatPuts.j1 k size word l field true c.1 true else some (b.1 == 0)) (fun k => ?_) ?_
  · simp only [retargetlaw09_FormatPuts.j0, Bool.false_eq_true, if_false, if_true]
  refine Ev.bind (evn_Get _ _ _ hw0 hw1) ?_
  unfold getR
  by_cases h : chkS size l = 0
  · rw [if_pos h]
    by_cases hw : word < pw size
    · obtain ⟨hs, hl, hv⟩ := chkS_zero.1 h
      have h64 := V_64 hs.2 hv
      have hw64 : word.toNat < 18446744073709551616 := by omega
      have hg := getS_lt word.toNat (plN l)
      have hg64 : getS word.toNat (plN l) < 18446744073709551616 := Nat.lt_of_lt_of_le hg (show _ ≤ 2 ^ 64 from Nat.pow_le_pow_right (by decide) (V_len hs.2 hv))
      rw [if_pos hw]
      simp only [if_true]
      refine Ev.bind (evn_Mask size l) (Ev.bind (evn_Put _ _ _ _ hw0 hw1 (by omega) (by omega)) ?_)
      unfold maskR putR
      rw [if_pos h, if_pos h, if_pos ⟨hw, pw_lt (by simp) hg⟩, Int.toNat_natCast, put_get hw64 h64 hv.2, Int.toNat_of_nonneg hw0]
      simp only [if_true, bne_self_eq_false]
      exact puts_j1 h hw0 hw1 hw hf0 hf1
    · rw [if_neg hw]; exact Ev.now _
  · rw [if_neg h]
    simp only [if_neg h]
    exact Ev.now _
theorem FormatPuts (size word : Int) (l : List S41) (field : Int) (hw : (Lit.int .u64 word).wf = true) (hf : (Lit.int .u64 field).wf = true) : ∃ k, retargetlaw09_FormatPuts.f k size word l field = some true := by
  have hw := bounds_u64 hw
  have hf := bounds_u64 hf
  refine Ev.rounds (g := fun k => retargetlaw09_FormatPuts.f k size word l field) ?_
  unfold retargetlaw09_FormatPuts.f
  refine Ev.bind evn_alive ?_
  by_cases h50 : (l.length : Int) > 50
  · simp only [if_pos h50]
    exact Ev.step (f := fun k => some true) (fun k => by simp only [retargetlaw09_FormatPuts.j0]; rfl) (Ev.now _)
  · simp only [if_neg h50, Bool.not_true]
    exact puts_j0 hw.1 hw.2 hf.1 hf.2
end Go.Proofs.Ytgbciglkfbiopaa.Pure
