/- FormatOrder: the numbers in a field are exactly the multiples of 2^scale from its least to its greatest number, and a number's successor has the next field, or the field 0 after the last one; for any kind, width, scale and number. No conditions. -/
import Derived.Test.YtgbciglkfbiopaaQx17
import Derived.Test.YtgbciglkfbiopaaNum2
import Derived.OpenShut
namespace Go.Proofs.Ytgbciglkfbiopaa.Pure
open Go.RowKit Go.Proofs.Ytgbciglkfbiopaa.Q Go.Proofs.YtgbciglkfbiopaaW.PrintWords Go.Proofs.YtgbciglkfbiopaaW.PrintLast Go.Proofs.YtgbciglkfbiopaaW.PrintMore
theorem shlu {y : Int} (h : 0 ≤ y) (h' : y ≤ 40) : shl .u64 1 y = pw y := by
  unfold shl
  have h1 := pw_pos y
  have h2 : pw y ≤ 1099511627776 := pw_le (m := 40) h'
  rw [show min y.toNat IntKind.u64.bits = y.toNat from Nat.min_eq_left (by show y.toNat ≤ 64; omega), IntKind.wrap_u64, Int.one_mul]
  show pw y % _ = _
  omega
theorem order_j2 (kind width scale n : Int) (hk : 0 ≤ kind ∧ kind ≤ 255) (hok : okArgs kind width scale) (hn : -9223372036854775808 ≤ n ∧ n ≤ 9223372036854775807) :
    Ev (fun k => retargetlaw09_FormatOrder.j2 k kind width scale n true (pw scale * hiI kind width) (fieldS kind width scale n).1 (pw scale) (decide (inS kind width scale n)) false) true := by
  have hok' := hok
  obtain ⟨_, hw, hs⟩ := hok
  have hb := ends_bound (kind := kind) hw.1 hw.2
  have hsc := pw_scale hs.1 hs.2
  have eh : wrap64 (pw scale * hiI kind width - pw scale) = pw scale * hiI kind width - pw scale := by
    rcases hsc with e | e | e | e <;> rw [e] <;> unfold wrap64 <;> omega
  by_cases c : inS kind width scale n
  · by_cases c2 : n > pw scale * hiI kind width - pw scale
    · refine Ev.step (f := fun k => some true) (fun k => ?_) (Ev.now _)
      simp only [retargetlaw09_FormatOrder.j2, decide_eq_true c, if_true, eh, if_pos c2, Bool.false_eq_true, if_false]
    · have hc1 : n + pw scale = (n / pw scale + 1) * pw scale := by
        have := c.1
        rcases hsc with e | e | e | e <;> rw [e] at this ⊢ <;> omega
      have hle : n / pw scale + 1 ≤ hiI kind width := by
        have := c.1
        rcases hsc with e | e | e | e <;> rw [e] at this c2 ⊢ <;> omega
      have ew : wrap64 (n + pw scale) = n + pw scale := by
        have := c.2
        rcases hsc with e | e | e | e <;> rw [e] at this ⊢ <;> unfold wrap64 <;> omega
      rw [hc1] at ew
      have eu : IntKind.u64.wrap width = width := by rw [IntKind.wrap_u64]; omega
      refine Ev.step (f := fun k => (format_Field.f k kind width scale ((n / pw scale + 1) * pw scale)).bind fun b => if b.2 = 0 then (if b.1 = IntKind.u64.wrap ((fieldS kind width scale n).1 + 1) then some true else if b.1 = 0 then some ((fieldS kind width scale n).1 == pw width - 1) else some false) else some false) (fun k => ?_) ?_
      · simp only [retargetlaw09_FormatOrder.j2, decide_eq_true c, if_true, eh, if_neg c2, Bool.false_eq_true, if_false, ew, hc1, eu, if_pos (show 0 ≤ width by omega), shlu (show 0 ≤ width by omega) (show width ≤ 40 by omega)]
        have p1 := pw32 hw.2
        have p4 := pw_pos width
        have e2 : IntKind.u64.wrap (pw width - 1) = pw width - 1 := by rw [IntKind.wrap_u64]; omega
        simp only [e2]
      · refine Ev.bind (evn_Field _ _ _ _ hk.1 hk.2) ?_
        have hd := scale_div (k := n / pw scale + 1) hs.1 hs.2
        have hin : inS kind width scale ((n / pw scale + 1) * pw scale) := ⟨hd.1, by rw [hd.2]; have := c.2.1; omega, by rw [hd.2]; exact hle⟩
        have eF : fieldS kind width scale ((n / pw scale + 1) * pw scale) = (codeI width (n / pw scale + 1), 0) := by unfold fieldS; rw [if_pos hok', if_pos hin, hd.2]
        have eG : fieldS kind width scale n = (codeI width (n / pw scale), 0) := by unfold fieldS; rw [if_pos hok', if_pos c]
        have hcb := code_bound hw.1 c.2.1 c.2.2
        have p1 := pw32 hw.2
        have eu2 : IntKind.u64.wrap (codeI width (n / pw scale) + 1) = codeI width (n / pw scale) + 1 := by rw [IntKind.wrap_u64]; omega
        simp only [eF, eG, eu2, if_true]
        rcases code_succ hw.1 c.2.1 hle with h1 | ⟨h1, h2⟩
        · simp only [if_pos h1]; exact Ev.now _
        · rw [h1, h2]
          rw [if_neg (by have := pw_pos width; omega)]
          simp only [if_true, beq_self_eq_true]
          exact Ev.now _
  · refine Ev.step (f := fun k => some true) (fun k => ?_) (Ev.now _)
    simp only [retargetlaw09_FormatOrder.j2, decide_eq_false c, Bool.false_eq_true, if_false]
theorem FormatOrder : retargetlaw09_FormatOrder.Pure := by
  intro kind width scale n hk _ _ hn
  have hk := bounds_u8 hk
  have hn := bounds_i64 hn
  refine Ev.rounds (g := fun k => retargetlaw09_FormatOrder.f k kind width scale n) ?_
  unfold retargetlaw09_FormatOrder.f
  refine Ev.bind evn_alive (Ev.bind (evn_Range _ _ _ hk.1 hk.2) (Ev.bind (evn_Field _ _ _ _ hk.1 hk.2) ?_))
  by_cases h : okArgs kind width scale
  · have h' := h
    obtain ⟨_, hw, hs⟩ := h
    have hb := ends_bound (kind := kind) hw.1 hw.2
    have hsc := pw_scale hs.1 hs.2
    have eR : rangeS kind width scale = (pw scale * loI kind width, pw scale * hiI kind width, 0) := by unfold rangeS; rw [if_pos h']
    have d1 : ¬ pw scale * loI kind width > 0 := by rcases hsc with e | e | e | e <;> rw [e] <;> omega
    have d2 : ¬ pw scale * hiI kind width < 0 := by rcases hsc with e | e | e | e <;> rw [e] <;> omega
    simp only [eR, if_true, if_neg (show ¬ scale < 0 by omega), if_neg (show ¬ scale > 3 by omega), if_neg (show ¬ width < 1 by omega), if_neg (show ¬ width > 32 by omega), if_neg d1, decide_eq_false d2]
    have eu : IntKind.u64.wrap scale = scale := by rw [IntKind.wrap_u64]; omega
    have euw : IntKind.u64.wrap width = width := by rw [IntKind.wrap_u64]; omega
    have es : shl .i64 1 scale = pw scale := by
      have := pw_pos scale
      rw [shl64 hs.1 (by omega) (by omega) (by omega)]; omega
    have ew : shl .i64 1 width = pw width := by
      have := pw_pos width
      have := pw32 hw.2
      rw [shl64 (by omega) (by omega) (by omega) (by omega)]; omega
    have hne : ¬ pw scale = 0 := by omega
    have hin : inS kind width scale n ↔ (n ≥ pw scale * loI kind width ∧ n ≤ pw scale * hiI kind width) ∧ n % pw scale = 0 := by
      unfold inS
      rcases hsc with e | e | e | e <;> rw [e] <;> omega
    refine Ev.step (f := fun k => retargetlaw09_FormatOrder.j1 k kind width scale n true (pw scale * loI kind width) (pw scale * hiI kind width) (fieldS kind width scale n).1 (fieldS kind width scale n).2 (pw scale) (decide (inS kind width scale n))) (fun k => ?_) ?_
    · simp only [retargetlaw09_FormatOrder.j0, Bool.false_eq_true, if_false, eu, if_pos hs.1, es, if_neg hne]
      by_cases c1 : n ≥ pw scale * loI kind width
      · by_cases c2 : n ≤ pw scale * hiI kind width
        · simp only [if_pos c1, if_pos c2]
          congr 1
          by_cases c3 : n % pw scale = 0
          · rw [decide_eq_true (hin.2 ⟨⟨c1, c2⟩, c3⟩), (tmod_zero _ _).2 c3]; rfl
          · rw [decide_eq_false (fun hh => c3 (hin.1 hh).2)]
            have := mt (tmod_zero n (pw scale)).1 c3
            simpa using this
        · simp only [if_pos c1, if_neg c2, decide_eq_false (fun hh => c2 (hin.1 hh).1.2)]
      · simp only [if_neg c1, decide_eq_false (fun hh => c1 (hin.1 hh).1.1)]
    · have l1 := scale_div (k := loI kind width) hs.1 hs.2
      have l2 := scale_div (k := hiI kind width) hs.1 hs.2
      rw [Int.mul_comm] at l1 l2
      have hspan := span_ends (kind := kind) hw.1
      have i1 : inS kind width scale (pw scale * loI kind width) := ⟨l1.1, by rw [l1.2]; omega, by rw [l1.2]; omega⟩
      have i2 : inS kind width scale (pw scale * hiI kind width) := ⟨l2.1, by rw [l2.2]; omega, by rw [l2.2]; omega⟩
      have e1 : (fieldS kind width scale (pw scale * loI kind width)).2 = 0 := by unfold fieldS; rw [if_pos h', if_pos i1]
      have e2 : (fieldS kind width scale (pw scale * hiI kind width)).2 = 0 := by unfold fieldS; rw [if_pos h', if_pos i2]
      have e3 : wrap64 (Int.tdiv (wrap64 (pw scale * hiI kind width - pw scale * loI kind width)) (pw scale)) = pw width - 1 := by
        have p1 := pw32 hw.2
        have e4 : wrap64 (pw scale * hiI kind width - pw scale * loI kind width) = (pw width - 1) * pw scale := by
          rw [← hspan]
          rcases hsc with e | e | e | e <;> rw [e] <;> unfold wrap64 <;> omega
        have := scale_div (k := pw width - 1) hs.1 hs.2
        rw [e4, tdiv_of this.1, this.2]
        have := pw_pos width
        unfold wrap64; omega
      have e5 : wrap64 (pw width - 1) = pw width - 1 := by
        have := pw_pos width
        have := pw32 hw.2
        unfold wrap64; omega
      refine Ev.step (f := fun k => (format_Field.f k kind width scale (pw scale * loI kind width)).bind fun b => (format_Field.f k kind width scale (pw scale * hiI kind width)).bind fun c => if b.2 = 0 then (if c.2 = 0 then retargetlaw09_FormatOrder.j2 k kind width scale n true (pw scale * hiI kind width) (fieldS kind width scale n).1 (pw scale) (decide (inS kind width scale n)) false else retargetlaw09_FormatOrder.j2 k kind width scale n true (pw scale * hiI kind width) (fieldS kind width scale n).1 (pw scale) (decide (inS kind width scale n)) true) else retargetlaw09_FormatOrder.j2 k kind width scale n true (pw scale * hiI kind width) (fieldS kind width scale n).1 (pw scale) (decide (inS kind width scale n)) true) (fun k => ?_) ?_
      · simp only [retargetlaw09_FormatOrder.j1, euw, ew, e3, e5, if_neg hne, if_pos (show 0 ≤ width by omega), bne_self_eq_false]
        by_cases c : inS kind width scale n
        · have eG : (fieldS kind width scale n).2 = 0 := by unfold fieldS; rw [if_pos h', if_pos c]
          simp only [decide_eq_true c, eG, beq_self_eq_true, bne_self_eq_false, Bool.false_eq_true, if_false, if_true]
        · have eG : (fieldS kind width scale n).2 = 24 := by unfold fieldS; rw [if_pos h', if_neg c]
          have : ((false != ((24 : Int) == 0)) = true) = False := by decide
          simp only [decide_eq_false c, eG, this, Bool.false_eq_true, if_false, if_true]
      · refine Ev.bind (evn_Field _ _ _ _ hk.1 hk.2) (Ev.bind (evn_Field _ _ _ _ hk.1 hk.2) ?_)
        simp only [e1, e2, if_true]
        exact order_j2 kind width scale n hk h' hn
  · have eR : rangeS kind width scale = (0, 0, 2) := by unfold rangeS; rw [if_neg h]
    have eF : fieldS kind width scale n = (0, 2) := by unfold fieldS; rw [if_neg h]
    simp only [eR, eF, if_neg (show ¬ ((2 : Int) = 0) by decide), if_true, beq_self_eq_true]
    exact Ev.now _
end Go.Proofs.Ytgbciglkfbiopaa.Pure
