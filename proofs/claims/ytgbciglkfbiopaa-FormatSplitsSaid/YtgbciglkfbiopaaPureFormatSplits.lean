/- FormatSplits: a piece divided into two has the same field, and a field is put together from those of its pieces; for any size, word, pieces, index and number of bits. No conditions. -/
import Derived.Test.YtgbciglkfbiopaaBit8
import Derived.Test.YtgbciglkfbiopaaNum2
import Derived.Test.YtgbciglkfbiopaaQx16
import Derived.OpenShut
namespace Go.Proofs.Ytgbciglkfbiopaa.Pure
open Go.RowKit Go.Proofs.Ytgbciglkfbiopaa.Q Go.Proofs.YtgbciglkfbiopaaW.PrintWords Go.Proofs.YtgbciglkfbiopaaW.PrintLast Go.Proofs.YtgbciglkfbiopaaW.PrintMore
set_option linter.unusedVariables false
set_option linter.unusedSimpArgs false
theorem rd41_at (l : List S41) (i : Nat) : rd_T41 l (i : Int) = l.getD i z41 := by simp [rd_T41]
theorem and63 : ∀ x : Fin 64, IntKind.u64.wrap (Go.bits .and .i64 (x.val : Int) 63) = (x.val : Int) := by decide +kernel
theorem V_one {size : Int} {p : S41} (h : inWord size p) : V size [p] := ⟨fun q hq => by rw [List.mem_singleton] at hq; rw [hq]; exact h, by rw [plN_one]; exact List.nodup_range'⟩
/-- Piece i divided. -/
def cutP (l : List S41) (i : Nat) (many : Int) : List S41 := l.take i ++ [⟨(l.getD i z41).f0, many⟩, ⟨(l.getD i z41).f0 + many, (l.getD i z41).f1 - many⟩] ++ l.drop (i + 1)
theorem cut_plN {size : Int} {l : List S41} (hv : V size l) {i : Nat} (hi : i < l.length) {many : Int} (h1 : 1 ≤ many) (h2 : many < (l.getD i z41).f1) : plN (cutP l i many) = plN l := by
  have hm : l.getD i z41 ∈ l := by rw [List.getD_eq_getElem?_getD, List.getElem?_eq_getElem hi]; exact List.getElem_mem hi
  obtain ⟨⟨a1, a2⟩, a3, a4⟩ := hv.1 _ hm
  have e : l = l.take i ++ [l.getD i z41] ++ l.drop (i + 1) := by rw [← take_snoc hi, List.take_append_drop]
  conv => rhs; rw [e]
  unfold cutP
  rw [plN_app, plN_app, plN_app, plN_app, plN_cons, plN_one, plN_one]
  congr 2
  unfold rngP
  rw [show ((l.getD i z41).f0 + many).toNat = (l.getD i z41).f0.toNat + many.toNat by omega, List.range'_append_1]
  congr 1
  show many.toNat + ((l.getD i z41).f1 - many).toNat = (l.getD i z41).f1.toNat
  omega
theorem cut_V {size : Int} {l : List S41} (hv : V size l) {i : Nat} (hi : i < l.length) {many : Int} (h1 : 1 ≤ many) (h2 : many < (l.getD i z41).f1) : V size (cutP l i many) := by
  have hm : l.getD i z41 ∈ l := by rw [List.getD_eq_getElem?_getD, List.getElem?_eq_getElem hi]; exact List.getElem_mem hi
  have hp := hv.1 _ hm
  refine ⟨fun p h => ?_, by rw [cut_plN hv hi h1 h2]; exact hv.2⟩
  obtain ⟨⟨a1, a2⟩, a3, a4⟩ := hp
  unfold cutP at h
  rcases List.mem_append.1 h with h | h
  · rcases List.mem_append.1 h with h | h
    · exact hv.1 p ((List.take_sublist _ _).subset h)
    · simp only [List.mem_cons, List.not_mem_nil, or_false] at h
      rcases h with rfl | rfl
      · exact ⟨⟨h1, by show many ≤ size; omega⟩, a3, by show (l.getD i z41).f0 ≤ size - many; omega⟩
      · refine ⟨⟨?_, ?_⟩, ?_, ?_⟩
        · show 1 ≤ (l.getD i z41).f1 - many; omega
        · show (l.getD i z41).f1 - many ≤ size; omega
        · show 0 ≤ (l.getD i z41).f0 + many; omega
        · show (l.getD i z41).f0 + many ≤ size - ((l.getD i z41).f1 - many); omega
  · exact hv.1 p ((List.drop_sublist _ _).subset h)
theorem splits_end {size word : Int} {l : List S41} (h : chkS size l = 0) (hl3 : l.length ≤ 3) (hw0 : 0 ≤ word) (hw1 : word ≤ 18446744073709551615) (hw : word < pw size) (which many at_ : Int) :
    Ev (fun k => retargetlaw09_FormatSplits.l0 k size word l which many true ((getS word.toNat (plN l) : Nat) : Int) ((getS word.toNat (plN l) : Nat) : Int) at_ (l.length : Int)) true := by
  obtain ⟨hs, hl, hv⟩ := chkS_zero.1 h
  by_cases c : 0 ≤ which ∧ which < (l.length : Int) ∧ 1 ≤ many ∧ many < (l.getD which.toNat z41).f1
  · obtain ⟨c1, c2, c3, c4⟩ := c
    have hi : which.toNat < l.length := by omega
    have hcV := cut_V hv hi c3 c4
    have hcp := cut_plN hv hi c3 c4
    have hclen : (cutP l which.toNat many).length ≤ 4 := by unfold cutP; simp; omega
    have hc : chkS size (cutP l which.toNat many) = 0 := chkS_zero.2 ⟨hs, hclen, hcV⟩
    have hm : l.getD which.toNat z41 ∈ l := by rw [List.getD_eq_getElem?_getD, List.getElem?_eq_getElem hi]; exact List.getElem_mem hi
    obtain ⟨⟨a1, a2⟩, a3, a4⟩ := hv.1 _ hm
    refine Ev.step (f := fun k => (format_Get.f k size word (cutP l which.toNat many)).bind fun b => if b.2 = 0 then some (b.1 == ((getS word.toNat (plN l) : Nat) : Int)) else some false) (fun k => ?_) ?_
    · simp only [retargetlaw09_FormatSplits.l0]
      rw [if_neg (by omega), if_pos trivial, if_neg (by omega), if_neg (by omega), if_neg (by omega), if_pos c1, if_pos c2]
      have er : rd_T41 l which = l.getD which.toNat z41 := rfl
      rw [er, if_neg (by omega), if_pos (by omega), w64m (x := which + 1) (by omega) (by omega), w64m (x := (l.getD which.toNat z41).f0 + many) (by omega) (by omega), w64m (x := (l.getD which.toNat z41).f1 - many) (by omega) (by omega)]
      simp only [Option.bind_some, List.length_nil, List.nil_append, Nat.zero_add]
      have ht : (l.take which.toNat).length ≤ 3 := by rw [List.length_take]; omega
      have hd : (l.drop (which + 1).toNat).length ≤ 3 := by rw [List.length_drop]; omega
      rw [if_pos (show (l.take which.toNat).length < 8796093022208 by omega)]
      have e2 : ([⟨(l.getD which.toNat z41).f0, many⟩, ⟨(l.getD which.toNat z41).f0 + many, (l.getD which.toNat z41).f1 - many⟩] : List S41).length = 2 := rfl
      rw [e2, if_pos (show (l.take which.toNat).length + 2 < 8796093022208 by omega), if_pos (show 0 ≤ which + 1 by omega), if_pos (show which + 1 ≤ (l.length : Int) by omega), List.length_append, e2, if_pos (show (l.take which.toNat).length + 2 + (l.drop (which + 1).toNat).length < 8796093022208 by omega)]
      rw [show (which + 1).toNat = which.toNat + 1 by omega]
      simp only [if_true]
      rfl
    · refine Ev.bind (evn_Get _ _ _ hw0 hw1) ?_
      unfold getR
      rw [if_pos hc, if_pos hw, hcp]
      simp only [if_true, beq_self_eq_true]
      exact Ev.now _
  · refine Ev.step (f := fun k => some true) (fun k => ?_) (Ev.now _)
    simp only [retargetlaw09_FormatSplits.l0]
    rw [if_neg (by omega), if_pos trivial]
    by_cases c1 : which < 0
    · rw [if_pos c1]
    · rw [if_neg c1]
      by_cases c2 : which ≥ (l.length : Int)
      · rw [if_pos c2]
      · rw [if_neg c2]
        by_cases c3 : many < 1
        · rw [if_pos c3]
        · rw [if_neg c3, if_pos (by omega), if_pos (by omega)]
          have er : rd_T41 l which = l.getD which.toNat z41 := rfl
          rw [er, if_pos (by
            by_cases c4 : many ≥ (l.getD which.toNat z41).f1
            · exact c4
            · exact (c ⟨by omega, by omega, by omega, by omega⟩).elim)]
theorem splits_l0 {size word : Int} {l : List S41} (h : chkS size l = 0) (hl3 : l.length ≤ 3) (hw0 : 0 ≤ word) (hw1 : word ≤ 18446744073709551615) (hw : word < pw size) (which many : Int) : ∀ (n i : Nat), i + n = l.length →
    Ev (fun k => retargetlaw09_FormatSplits.l0 k size word l which many true ((getS word.toNat (plN l) : Nat) : Int) ((getS word.toNat (plN (l.take i)) : Nat) : Int) (((plN (l.take i)).length : Nat) : Int) (i : Int)) true
  | 0, i, e => by
    obtain rfl : i = l.length := by omega
    rw [List.take_of_length_le (Nat.le_refl _)]
    exact splits_end h hl3 hw0 hw1 hw which many _
  | n + 1, i, e => by
    have ih := splits_l0 h hl3 hw0 hw1 hw which many n (i + 1) (by omega)
    obtain ⟨hs, hl, hv⟩ := chkS_zero.1 h
    have hi : i < l.length := by omega
    obtain ⟨p, hpe⟩ : ∃ p, p = l.getD i z41 := ⟨_, rfl⟩
    have hm : p ∈ l := by rw [hpe, List.getD_eq_getElem?_getD, List.getElem?_eq_getElem hi]; exact List.getElem_mem hi
    have hp := hv.1 _ hm
    have hc : chkS size [p] = 0 := chkS_zero.2 ⟨hs, by simp, V_one hp⟩
    have hvp : V size (l.take (i + 1)) := V_pre (b := l.drop (i + 1)) (by rw [List.take_append_drop]; exact hv)
    have hlen := V_len hs.2 hvp
    have et : plN (l.take (i + 1)) = plN (l.take i) ++ rngP p := by rw [take_snoc hi, ← hpe, plN_app, plN_one]
    rw [et, List.length_append, rngP_len hp] at hlen
    have hsl : (l.take (i + 1)).drop i = [p] := by
      rw [take_snoc hi, ← hpe, List.drop_left' (by rw [List.length_take]; omega)]
    have hp' := hp
    obtain ⟨⟨a1, a2⟩, a3, a4⟩ := hp'
    have hw64 : word.toNat < 18446744073709551616 := by omega
    obtain ⟨at_, hat⟩ : ∃ a, a = (plN (l.take i)).length := ⟨_, rfl⟩
    rw [et, getS_app, ← hat, List.length_append, ← hat, rngP_len hp] at ih
    rw [← hat] at hlen ⊢
    have hgl := getS_lt word.toNat (rngP p)
    rw [rngP_len hp] at hgl
    have hvl : getS word.toNat (rngP p) * 2 ^ at_ < 18446744073709551616 := by
      have a1 : getS word.toNat (rngP p) * 2 ^ at_ < 2 ^ p.f1.toNat * 2 ^ at_ := Nat.mul_lt_mul_of_pos_right hgl (Nat.two_pow_pos _)
      rw [← Nat.pow_add] at a1
      exact Nat.lt_of_lt_of_le a1 (show _ ≤ 2 ^ 64 from Nat.pow_le_pow_right (by decide) (by omega))
    have hsum : getS word.toNat (plN (l.take i)) + 2 ^ at_ * getS word.toNat (rngP p) < 18446744073709551616 := by
      have a2 := getS_lt word.toNat (plN (l.take i) ++ rngP p)
      rw [getS_app, ← hat, List.length_append, ← hat, rngP_len hp] at a2
      exact Nat.lt_of_lt_of_le a2 (show _ ≤ 2 ^ 64 from Nat.pow_le_pow_right (by decide) (by omega))
    have h63 := and63 ⟨at_, by omega⟩
    simp only at h63
    refine Ev.step (f := fun k => (format_Get.f k size word [p]).bind fun b => if b.2 = 0 then (retargetlaw09_FormatSplits.l0 k size word l which many true ((getS word.toNat (plN l) : Nat) : Int) (IntKind.u64.wrap (((getS word.toNat (plN (l.take i)) : Nat) : Int) + shl .u64 b.1 (at_ : Int))) ((at_ + p.f1.toNat : Nat) : Int) ((i + 1 : Nat) : Int)) else some false) (fun k => ?_) ?_
    · simp only [retargetlaw09_FormatSplits.l0]
      rw [if_pos (by omega), if_pos (by omega), w64m (x := (i : Int) + 1) (by omega) (by omega), if_pos (by omega), if_pos (by omega), h63, show ((i : Int) + 1).toNat = i + 1 by omega, Int.toNat_natCast, hsl, rd41_at, ← hpe, w64m (by omega) (by omega), show (at_ : Int) + p.f1 = ((at_ + p.f1.toNat : Nat) : Int) by omega]
      simp only [if_pos (show (0 : Int) ≤ (at_ : Int) by omega)]
      rfl
    · refine Ev.bind (evn_Get _ _ _ hw0 hw1) ?_
      unfold getR
      rw [if_pos hc, if_pos hw, plN_one]
      simp only [if_true]
      rw [shl_nat rfl (by omega) hvl, ← Int.natCast_add, Nat.mul_comm, w_u64 hsum]
      exact ih
theorem FormatSplits (size word : Int) (l : List S41) (which many : Int) (hw : (Lit.int .u64 word).wf = true) : ∃ k, retargetlaw09_FormatSplits.f k size word l which many = some true := by
  have hw := bounds_u64 hw
  refine Ev.rounds (g := fun k => retargetlaw09_FormatSplits.f k size word l which many) ?_
  unfold retargetlaw09_FormatSplits.f
  refine Ev.bind evn_alive ?_
  by_cases h3 : (l.length : Int) > 3
  · simp only [if_pos h3]
    exact Ev.step (f := fun k => some true) (fun k => by simp only [retargetlaw09_FormatSplits.j0]; rfl) (Ev.now _)
  · simp only [if_neg h3, Bool.not_true]
    refine Ev.step (fun k => by simp only [retargetlaw09_FormatSplits.j0, Bool.false_eq_true, if_false]; rfl) ?_
    refine Ev.bind (evn_Get _ _ _ hw.1 hw.2) ?_
    unfold getR
    by_cases h : chkS size l = 0
    · rw [if_pos h]
      by_cases hlt : word < pw size
      · rw [if_pos hlt]
        simp only [if_true]
        have := splits_l0 h (by omega) hw.1 hw.2 hlt which many l.length 0 (by omega)
        simpa [plN, getS] using this
      · rw [if_neg hlt]; exact Ev.now _
    · rw [if_neg h]
      simp only [if_neg h]
      exact Ev.now _
end Go.Proofs.Ytgbciglkfbiopaa.Pure
