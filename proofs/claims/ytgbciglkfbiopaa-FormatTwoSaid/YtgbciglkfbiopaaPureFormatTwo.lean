/- FormatTwo: layouts without a common bit don't disturb each other; for any size, word, two layouts and fields. No conditions. -/
import Derived.Test.YtgbciglkfbiopaaBit8
import Derived.Test.YtgbciglkfbiopaaNum2
import Derived.Test.YtgbciglkfbiopaaQx15
import Derived.OpenShut
namespace Go.Proofs.Ytgbciglkfbiopaa.Pure
open Go.RowKit Go.Proofs.Ytgbciglkfbiopaa.Q Go.Proofs.YtgbciglkfbiopaaW.PrintWords Go.Proofs.YtgbciglkfbiopaaW.PrintLast Go.Proofs.YtgbciglkfbiopaaW.PrintMore
set_option linter.unusedVariables false
set_option linter.unusedSimpArgs false
theorem lt_pw2 {x n : Int} (h0 : 0 ≤ x) (h : x < pw n) : x.toNat < 2 ^ n.toNat := by rw [pw_nat] at h; omega
theorem pw_lt2 {x n : Nat} {m : Int} (hm : m.toNat = n) (h : x < 2 ^ n) : (x : Int) < pw m := by rw [pw_nat, hm]; omega
theorem two_end (size word : Int) (l m : List S41) (x y : Int) (a b : Int) : Ev (fun k => retargetlaw09_FormatTwo.j2 k size l m x y true a b true) true :=
  Ev.step (f := fun k => some true) (fun k => by simp only [retargetlaw09_FormatTwo.j2]; rfl) (Ev.now _)
theorem two_j2 {size word : Int} {l m : List S41} {x y : Int} (h : chkS size l = 0) (h' : chkS size m = 0) (hd : ∀ j ∈ plN l, j ∉ plN m) (hw0 : 0 ≤ word) (hw1 : word ≤ 18446744073709551615) (hw : word < pw size)
    (hx0 : 0 ≤ x) (hx1 : x ≤ 18446744073709551615) (hx : x < pw ((plN l).length : Int)) (hy0 : 0 ≤ y) (hy1 : y ≤ 18446744073709551615) (hy : y < pw ((plN m).length : Int)) :
    Ev (fun k => retargetlaw09_FormatTwo.j2 k size l m x y true ((putN word.toNat x.toNat (plN l) : Nat) : Int) ((putN word.toNat y.toNat (plN m) : Nat) : Int) false) true := by
  obtain ⟨hs, hl, hv⟩ := chkS_zero.1 h
  obtain ⟨_, hm, hv'⟩ := chkS_zero.1 h'
  have hwN := lt_pw2 hw0 hw
  have hw64 : word.toNat < 18446744073709551616 := by omega
  have l64 := V_64 hs.2 hv
  have m64 := V_64 hs.2 hv'
  have big : ∀ {n : Nat}, n < 2 ^ size.toNat → n < 18446744073709551616 := fun h => Nat.lt_of_lt_of_le h (show _ ≤ 2 ^ 64 from Nat.pow_le_pow_right (by decide) (by omega))
  have p1 := putN_lt (x := x.toNat) (show size.toNat ≤ 64 by omega) hwN (V_lt hv)
  have p2 := putN_lt (x := y.toNat) (show size.toNat ≤ 64 by omega) hwN (V_lt hv')
  have p3 := putN_lt (x := y.toNat) (show size.toNat ≤ 64 by omega) p1 (V_lt hv')
  have q1 := big p1
  have q2 := big p2
  have q3 := big p3
  have hd' : ∀ j ∈ plN m, j ∉ plN l := fun j hj hl => hd j hl hj
  have hxN := lt_pw2 hx0 hx
  have hyN := lt_pw2 hy0 hy
  rw [Int.toNat_natCast] at hxN hyN
  refine Ev.step (f := fun k => (format_Put.f k size ((putN word.toNat x.toNat (plN l) : Nat) : Int) m y).bind fun b1 => (format_Put.f k size ((putN word.toNat y.toNat (plN m) : Nat) : Int) l x).bind fun b2 => (format_Get.f k size b1.1 l).bind fun b3 => (format_Get.f k size b1.1 m).bind fun b4 => if b1.2 = 0 then (if b2.2 = 0 then (if b1.1 = b2.1 then (if b3.2 = 0 then (if b4.2 = 0 then (if b3.1 = x then some (b4.1 == y) else some false) else some false) else some false) else some false) else some false) else some false) (fun k => ?_) ?_
  · simp only [retargetlaw09_FormatTwo.j2, Bool.false_eq_true, if_false, if_true]
  refine Ev.bind (evn_Put _ _ _ _ (by omega) (by omega) hy0 hy1) (Ev.bind (evn_Put _ _ _ _ (by omega) (by omega) hx0 hx1) ?_)
  have e1 : putR size ((putN word.toNat x.toNat (plN l) : Nat) : Int) m y = (((putN (putN word.toNat x.toNat (plN l)) y.toNat (plN m) : Nat) : Int), 0) := by
    unfold putR
    rw [if_pos h', if_pos ⟨pw_lt2 rfl p1, hy⟩, Int.toNat_natCast]
  have e2 : putR size ((putN word.toNat y.toNat (plN m) : Nat) : Int) l x = (((putN (putN word.toNat x.toNat (plN l)) y.toNat (plN m) : Nat) : Int), 0) := by
    unfold putR
    rw [if_pos h, if_pos ⟨pw_lt2 rfl p2, hx⟩, Int.toNat_natCast, put_two hw64 l64 m64 hd]
  rw [e1, e2]
  simp only
  refine Ev.bind (evn_Get _ _ _ (by omega) (by omega)) (Ev.bind (evn_Get _ _ _ (by omega) (by omega)) ?_)
  have e3 : getR size ((putN (putN word.toNat x.toNat (plN l)) y.toNat (plN m) : Nat) : Int) l = (x, 0) := by
    unfold getR
    rw [if_pos h, if_pos (pw_lt2 rfl p3), Int.toNat_natCast, get_other q1 m64 hd, get_put hw64 l64 hv.2 hxN, Int.toNat_of_nonneg hx0]
  have e4 : getR size ((putN (putN word.toNat x.toNat (plN l)) y.toNat (plN m) : Nat) : Int) m = (y, 0) := by
    unfold getR
    rw [if_pos h', if_pos (pw_lt2 rfl p3), Int.toNat_natCast, get_put q1 m64 hv'.2 hyN, Int.toNat_of_nonneg hy0]
  rw [e3, e4]
  simp only [if_true, beq_self_eq_true]
  exact Ev.now _
theorem two_j1_end (size word : Int) (l m : List S41) (x y : Int) : Ev (fun k => retargetlaw09_FormatTwo.j1 k size word l m x y true true) true :=
  Ev.step (f := fun k => some true) (fun k => by simp only [retargetlaw09_FormatTwo.j1]; rfl) (Ev.now _)
theorem two_j0 {size word : Int} {l m : List S41} {x y : Int} (hw0 : 0 ≤ word) (hw1 : word ≤ 18446744073709551615) (hx0 : 0 ≤ x) (hx1 : x ≤ 18446744073709551615) (hy0 : 0 ≤ y) (hy1 : y ≤ 18446744073709551615) :
    Ev (fun k => retargetlaw09_FormatTwo.j0 k size word l m x y true false) true := by
  refine Ev.step (fun k => by simp only [retargetlaw09_FormatTwo.j0, Bool.false_eq_true, if_false]; rfl) ?_
  refine Ev.bind (evn_Mask size l) (Ev.bind (evn_Mask size m) ?_)
  unfold maskR
  by_cases h : chkS size l = 0
  · rw [if_pos h]
    by_cases h' : chkS size m = 0
    · rw [if_pos h']
      simp only [if_true]
      obtain ⟨hs, hl, hv⟩ := chkS_zero.1 h
      obtain ⟨_, hm, hv'⟩ := chkS_zero.1 h'
      rw [u64_and_nat _ _ (orM64 (V_64 hs.2 hv)) (orM64 (V_64 hs.2 hv'))]
      by_cases hd : ∀ j ∈ plN l, j ∉ plN m
      · rw [orM_and.2 hd, show (((0 : Nat) : Int) != 0) = false from rfl]
        refine Ev.step (fun k => by simp only [retargetlaw09_FormatTwo.j1, Bool.false_eq_true, if_false]; rfl) ?_
        refine Ev.bind (evn_Put _ _ _ _ hw0 hw1 hx0 hx1) (Ev.bind (evn_Put _ _ _ _ hw0 hw1 hy0 hy1) ?_)
        unfold putR
        rw [if_pos h, if_pos h']
        by_cases c : word < pw size ∧ x < pw ((plN l).length : Int)
        · rw [if_pos c]
          by_cases c' : word < pw size ∧ y < pw ((plN m).length : Int)
          · rw [if_pos c']
            simp only [if_true, bne_self_eq_false]
            exact two_j2 h h' hd hw0 hw1 c.1 hx0 hx1 c.2 hy0 hy1 c'.2
          · rw [if_neg c']
            exact two_end _ word _ _ _ _ _ _
        · rw [if_neg c]
          exact two_end _ word _ _ _ _ _ _
      · rw [show ((((orM (plN l) &&& orM (plN m) : Nat)) : Int) != 0) = true from by
          rw [bne_iff_ne]; exact fun h0 => hd (orM_and.1 (by exact_mod_cast h0))]
        exact two_j1_end _ _ _ _ _ _
    · rw [if_neg h']
      simp only [if_neg h', if_true]
      exact two_j1_end _ _ _ _ _ _
  · rw [if_neg h]
    simp only [if_neg h]
    exact two_j1_end _ _ _ _ _ _
theorem FormatTwo (size word : Int) (l m : List S41) (x y : Int) (hw : (Lit.int .u64 word).wf = true) (hx : (Lit.int .u64 x).wf = true) (hy : (Lit.int .u64 y).wf = true) : ∃ k, retargetlaw09_FormatTwo.f k size word l m x y = some true := by
  have hw := bounds_u64 hw
  have hx := bounds_u64 hx
  have hy := bounds_u64 hy
  refine Ev.rounds (g := fun k => retargetlaw09_FormatTwo.f k size word l m x y) ?_
  unfold retargetlaw09_FormatTwo.f
  refine Ev.bind evn_alive ?_
  have fin : Ev (fun k => retargetlaw09_FormatTwo.j0 k size word l m x y true true) true := Ev.step (f := fun k => some true) (fun k => by simp only [retargetlaw09_FormatTwo.j0]; rfl) (Ev.now _)
  by_cases h50 : (l.length : Int) > 50
  · simp only [if_pos h50]; exact fin
  · simp only [if_neg h50, Bool.not_true]
    by_cases g50 : (m.length : Int) > 50
    · simp only [if_pos g50]; exact fin
    · simp only [if_neg g50]
      exact two_j0 hw.1 hw.2 hx.1 hx.2 hy.1 hy.2
end Go.Proofs.Ytgbciglkfbiopaa.Pure
