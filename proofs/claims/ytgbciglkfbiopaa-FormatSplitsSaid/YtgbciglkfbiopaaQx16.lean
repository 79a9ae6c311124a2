-- Written by wip/tools/given.py (own program over the kit's print.py) out of the translation. Not trusted: Lean checks it.
import Derived.Test.YtgbciglkfbiopaaQx0
import Derived.Test.YtgbciglkfbiopaaQx8
import Derived.Test.YtgbciglkfbiopaaQx11
namespace Go.Proofs.Ytgbciglkfbiopaa.Q
open Go.RowKit Go.Proofs.YtgbciglkfbiopaaW.PrintWords Go.Proofs.YtgbciglkfbiopaaW.PrintLast Go.Proofs.YtgbciglkfbiopaaW.PrintMore
attribute [local go_sem] max2_int min2_int max_two min_two max_three min_three max_four min_four   -- for this text's walks alone
set_option linter.unusedVariables false
set_option linter.unusedSimpArgs false

/-! ### retargetlaw09_FormatSplits: function 9 -/
mutual
def retargetlaw09_FormatSplits.j0 : Nat → Int → Int → List (S41) → Int → Int → Bool → Bool → Option (Bool)
  | 0, _, _, _, _, _, _, _ => none
  | k + 1, x0, x1, x2, x3, x4, x11, x30 => if x30 = true then (some x11) else ((format_Get.f k x0 x1 x2).bind fun bt400 => (if bt400.2 = 0 then (retargetlaw09_FormatSplits.l0 k x0 x1 x2 x3 x4 x11 bt400.1 0 0 0) else (some x11)))
def retargetlaw09_FormatSplits.l0 : Nat → Int → Int → List (S41) → Int → Int → Bool → Int → Int → Int → Int → Option (Bool)
  | 0, _, _, _, _, _, _, _, _, _, _ => none
  | k + 1, x0, x1, x2, x3, x4, x11, x12, x14, x15, x16 => if x16 < (x2.length : Int) then (if 0 ≤ x16 then (if x16 ≤ (wrap64 (x16 + 1)) then (if (wrap64 (x16 + 1)) ≤ (x2.length : Int) then ((format_Get.f k x0 x1 ((x2.take ((wrap64 (x16 + 1)) : Int).toNat).drop (x16 : Int).toNat)).bind fun bt406 => (if bt406.2 = 0 then (if 0 ≤ (IntKind.u64.wrap (Go.bits .and .i64 x15 63)) then (retargetlaw09_FormatSplits.l0 k x0 x1 x2 x3 x4 x11 x12 (IntKind.u64.wrap (x14 + (shl .u64 bt406.1 (IntKind.u64.wrap (Go.bits .and .i64 x15 63))))) (wrap64 (x15 + ((rd_T41 x2 x16).f1))) (wrap64 (x16 + 1))) else (none)) else (some false))) else (none)) else (none)) else (none)) else (if x14 = x12 then (if x3 < 0 then (some x11) else (if x3 ≥ (x2.length : Int) then (some x11) else (if x4 < 1 then (some x11) else (if 0 ≤ x3 then (if x3 < (x2.length : Int) then (if x4 ≥ ((rd_T41 x2 x3).f1) then (some x11) else (if x3 ≤ (x2.length : Int) then ((some (x2.take (x3 : Int).toNat : List (S41))).bind fun y412 => (if ([] : List (S41)).length + y412.length < 8796093022208 then ((some (([] : List (S41)) ++ y412 : List (S41))).bind fun y416 => ((some (([(⟨(rd_T41 x2 x3).f0, x4⟩ : S41), (⟨wrap64 (((rd_T41 x2 x3).f0) + x4), wrap64 (((rd_T41 x2 x3).f1) - x4)⟩ : S41)] : List (S41)) : List (S41))).bind fun y419 => (if y416.length + y419.length < 8796093022208 then ((some (y416 ++ y419 : List (S41))).bind fun y422 => (if 0 ≤ (wrap64 (x3 + 1)) then (if (wrap64 (x3 + 1)) ≤ (x2.length : Int) then ((some (x2.drop ((wrap64 (x3 + 1)) : Int).toNat : List (S41))).bind fun y425 => (if y422.length + y425.length < 8796093022208 then ((format_Get.f k x0 x1 (y422 ++ y425)).bind fun bt432 => (if x11 = true then (if bt432.2 = 0 then (some (bt432.1 == x12)) else (some false)) else (some false))) else (none))) else (none)) else (none))) else (none)))) else (none))) else (none))) else (none)) else (none))))) else (some false))
end
def retargetlaw09_FormatSplits.f (k : Nat) (a0 : Int) (a1 : Int) (l2 : List (S41)) (a3 : Int) (a4 : Int) : Option (Bool) := (retargetlaw09_alive.f k).bind fun t399 => (if (l2.length : Int) > 3 then (retargetlaw09_FormatSplits.j0 k a0 a1 l2 a3 a4 t399 true) else (retargetlaw09_FormatSplits.j0 k a0 a1 l2 a3 a4 t399 (!t399)))
theorem retargetlaw09_FormatSplits.mono_l : ∀ k, (∀ y0 y1 y2 y3 y4 y5 y6, LeO (retargetlaw09_FormatSplits.j0 k y0 y1 y2 y3 y4 y5 y6) (retargetlaw09_FormatSplits.j0 (k + 1) y0 y1 y2 y3 y4 y5 y6)) ∧ (∀ y0 y1 y2 y3 y4 y5 y6 y7 y8 y9, LeO (retargetlaw09_FormatSplits.l0 k y0 y1 y2 y3 y4 y5 y6 y7 y8 y9) (retargetlaw09_FormatSplits.l0 (k + 1) y0 y1 y2 y3 y4 y5 y6 y7 y8 y9))
  | 0 => ⟨fun _ _ _ _ _ _ _ r h => by simp [retargetlaw09_FormatSplits.j0] at h, fun _ _ _ _ _ _ _ _ _ _ r h => by simp [retargetlaw09_FormatSplits.l0] at h⟩
  | k + 1 => by
    obtain ⟨ih0, ih1⟩ := retargetlaw09_FormatSplits.mono_l k
    refine ⟨?_, ?_⟩
    · intro y0 y1 y2 y3 y4 y5 y6
      unfold retargetlaw09_FormatSplits.j0
      repeat' first
      | (with_reducible exact ih0 _ _ _ _ _ _ _)
      | (with_reducible exact ih1 _ _ _ _ _ _ _ _ _ _)
      | (with_reducible exact format_Get.mono _ _ _ _)
      | (with_reducible exact retargetlaw09_alive.mono _)
      | (with_reducible exact LeO.refl _)
      | (with_reducible exact LeO.none _)
      | (with_reducible refine LeO.ite ?_ ?_)
      | (with_reducible refine LeO.bind ?_ (fun _ => ?_))
      | exact ih0 _ _ _ _ _ _ _
      | exact ih1 _ _ _ _ _ _ _ _ _ _
      | exact format_Get.mono _ _ _ _
      | exact retargetlaw09_alive.mono _
      | exact LeO.none _
      | refine LeO.ite ?_ ?_
      | refine LeO.bind ?_ (fun _ => ?_)
    · intro y0 y1 y2 y3 y4 y5 y6 y7 y8 y9
      unfold retargetlaw09_FormatSplits.l0
      repeat' first
      | (with_reducible exact ih0 _ _ _ _ _ _ _)
      | (with_reducible exact ih1 _ _ _ _ _ _ _ _ _ _)
      | (with_reducible exact format_Get.mono _ _ _ _)
      | (with_reducible exact retargetlaw09_alive.mono _)
      | (with_reducible exact LeO.refl _)
      | (with_reducible exact LeO.none _)
      | (with_reducible refine LeO.ite ?_ ?_)
      | (with_reducible refine LeO.bind ?_ (fun _ => ?_))
      | exact ih0 _ _ _ _ _ _ _
      | exact ih1 _ _ _ _ _ _ _ _ _ _
      | exact format_Get.mono _ _ _ _
      | exact retargetlaw09_alive.mono _
      | exact LeO.none _
      | refine LeO.ite ?_ ?_
      | refine LeO.bind ?_ (fun _ => ?_)
theorem retargetlaw09_FormatSplits.mono : ∀ a0 a1 a2 a3 a4 k, LeO (retargetlaw09_FormatSplits.f k a0 a1 a2 a3 a4) (retargetlaw09_FormatSplits.f (k + 1) a0 a1 a2 a3 a4) := by
  intro a0 a1 a2 a3 a4 k
  obtain ⟨ih0, ih1⟩ := retargetlaw09_FormatSplits.mono_l k
  unfold retargetlaw09_FormatSplits.f
  repeat' first
      | (with_reducible exact ih0 _ _ _ _ _ _ _)
      | (with_reducible exact ih1 _ _ _ _ _ _ _ _ _ _)
      | (with_reducible exact format_Get.mono _ _ _ _)
      | (with_reducible exact retargetlaw09_alive.mono _)
      | (with_reducible exact LeO.refl _)
      | (with_reducible exact LeO.none _)
      | (with_reducible refine LeO.ite ?_ ?_)
      | (with_reducible refine LeO.bind ?_ (fun _ => ?_))
      | exact ih0 _ _ _ _ _ _ _
      | exact ih1 _ _ _ _ _ _ _ _ _ _
      | exact format_Get.mono _ _ _ _
      | exact retargetlaw09_alive.mono _
      | exact LeO.none _
      | refine LeO.ite ?_ ?_
      | refine LeO.bind ?_ (fun _ => ?_)
set_option maxHeartbeats 8000000 in
set_option maxRecDepth 100000 in
theorem retargetlaw09_FormatSplits.calls (k : Nat) (a0 : Int) (a1 : Int) (A2 : Option Addr) (c2 : Nat) (l2 : List (S41)) (a3 : Int) (a4 : Int) (r : Bool) (w : World) (hr2 : Kd.C k41 w A2 l2.length l2) (hc2 : l2.length ≤ c2) (h : retargetlaw09_FormatSplits.f k a0 a1 l2 a3 a4 = some r) :
    Calls Try.prog 9 #[.int .i64 a0, .int .u64 a1, .slice A2 l2.length c2, .int .i64 a3, .int .i64 a4] w fun e w' => e = .returned (.bool r) ∧ Below w.heap.size w w' := by
  have hu41 := Try.underlying41
  have HR2 := Aside0.mk hr2
  have HC2 := Aside0.mk hc2
  clear hr2 hc2
  have HB := Aside0.mk (Below.refl w.heap.size w)
  have H : ((retargetlaw09_alive.f k).bind fun t399 => (if (l2.length : Int) > 3 then (retargetlaw09_FormatSplits.j0 k a0 a1 l2 a3 a4 t399 true) else (retargetlaw09_FormatSplits.j0 k a0 a1 l2 a3 a4 t399 (!t399)))) = some r := h
  clear h
  replace H := Option.bind_eq_some_iff.mp H
  obtain ⟨t399, A60, H⟩ := H
  replace H : (if (l2.length : Int) > 3 then (retargetlaw09_FormatSplits.j0 k a0 a1 l2 a3 a4 t399 true) else (retargetlaw09_FormatSplits.j0 k a0 a1 l2 a3 a4 t399 (!t399))) = some r := H
  have A6 := Aside0.mk A60
  clear A60
  have HC7 := Aside0.mk H
  clear H
  go_enter Try.func9, Try.ntmps9
  go_upto_region 2 with (first | ((with_reducible refine gate_callee (f := 24) rfl ?_); refine goesL_ (some 23) rfl rfl Try.func24 (by kernel_rfl) rfl #[] rfl (by (try simp only [List.map_toArray, List.map_cons, List.map_nil]); first | done | rfl | (simp only [List.length_drop, List.length_take]; rfl)) ?_; (with_reducible refine (retargetlaw09_alive.calls k  t399 _ A6.out).mono ?_); rintro e w8 ⟨rfl, hb⟩; refine ⟨_, rfl, ?_⟩; have n0_ := Aside0.mk (below_step (by repeat (first | (with_reducible first | exact HB.out | apply below_alloc | apply pw_below_drewN | apply below_drew1) | exact HB.out)) hb); clear HB; have HB := n0_; clear n0_; (try clear hb); (try clear hb2); (try clear hk); (try clear hi)))
  (try simp only [Act.put, List.setIfInBounds_toArray, List.set_cons_zero, List.set_cons_succ])
  go_cut [30] (fun v30 wc => ∃ (kq : Nat) (x30_6 : Bool), v30 = .bool x30_6 ∧ Aside0 (retargetlaw09_FormatSplits.j0 kq a0 a1 l2 a3 a4 t399 x30_6 = some r) ∧ Aside0 (kq ≤ k) ∧ Aside0 (Below w.heap.size w wc))
  case first =>
    have H := HC7.out
    clear HC7
    by_cases c9 : (l2.length : Int) > 3
    · rw [if_pos c9] at H
      have c9b0 : decide (3 < (l2.length : Int)) = true := decide_eq_true c9
      have c9b1 : decide (3 < l2.length) = true := decide_eq_true (by omega)
      clear c9
      (first | rw [c9b0] | (simp only [i64_w, i32_w]; rw [c9b0]) | skip)
      have H' := Aside0.mk H
      clear H
      go_wp2
      go_meet
      case rel => exact ⟨_, (true), (by first | rfl | (simp; done) | (simp [*]; done)), H', ⟨by first | omega | exact Nat.le_refl _⟩, ⟨by repeat (first | (with_reducible first | exact HB.out | apply below_alloc | apply pw_below_drewN | apply below_drew1) | exact HB.out)⟩⟩
    · rw [if_neg c9] at H
      have c9b0 : decide (3 < (l2.length : Int)) = false := decide_eq_false c9
      have c9b1 : decide (3 < l2.length) = false := decide_eq_false (by omega)
      clear c9
      (first | rw [c9b0] | (simp only [i64_w, i32_w]; rw [c9b0]) | skip)
      have H' := Aside0.mk H
      clear H
      go_wp2
      go_meet
      case rel => exact ⟨_, (!t399), (by first | rfl | (simp; done) | (simp [*]; done)), H', ⟨by first | omega | exact Nat.le_refl _⟩, ⟨by repeat (first | (with_reducible first | exact HB.out | apply below_alloc | apply pw_below_drewN | apply below_drew1) | exact HB.out)⟩⟩
  case rest =>
    clear HC7
    try clear c2
    try clear p2
    try clear c9
    try clear c9b0
    try clear c9b1
    obtain ⟨kq, x30_6, rfl, HA, HJ6, HB⟩ := hcut
    cases kq with
    | zero => exact absurd HA.out (by simp [retargetlaw09_FormatSplits.j0])
    | succ kj6 =>
      have H := HA.out
      clear HA
      simp only [retargetlaw09_FormatSplits.j0] at H
      by_cases c10 : x30_6 = true
      · subst c10
        have H1 : (some t399) = some r := by rw [if_pos rfl] at H; exact H
        clear H
        have H := H1
        clear H1
        obtain rfl := Option.some.inj H
        go_wp2
        go_ret
        exact ⟨by first | rfl | (simp [errW_none, errW_some] <;> rfl) | (simp [*, errW_none, errW_some] <;> rfl), by repeat (first | (with_reducible first | exact HB.out | apply below_alloc | apply pw_below_drewN | apply below_drew1) | exact HB.out)⟩
      · replace c10 := Bool.eq_false_iff.mpr c10
        subst c10
        have H1 : ((format_Get.f kj6 a0 a1 l2).bind fun bt400 => (if bt400.2 = 0 then (retargetlaw09_FormatSplits.l0 kj6 a0 a1 l2 a3 a4 t399 bt400.1 0 0 0) else (some t399))) = some r := by rw [if_neg (show ¬ (false = true) by decide)] at H; exact H
        clear H
        have H := H1
        clear H1
        replace H := Option.bind_eq_some_iff.mp H
        obtain ⟨⟨t400, t401⟩, A110, H⟩ := H
        replace H : (if t401 = 0 then (retargetlaw09_FormatSplits.l0 kj6 a0 a1 l2 a3 a4 t399 t400 0 0 0) else (some t399)) = some r := H
        have A11 := Aside0.mk A110
        clear A110
        by_cases c12 : t401 = 0
        · rw [if_pos c12] at H
          have c12b0 : (t401 == 0) = true := beq_iff_eq.mpr c12
          have c12b1 : (t401 != 0) = false := bne_eq_false_iff_eq.mpr c12
          clear c12
          have H' := Aside0.mk H
          clear H
          go_wp2_with (first | ((with_reducible refine gate_callee (f := 21) rfl ?_); refine goesL_ (some 36) rfl rfl Try.func21 (by kernel_rfl) rfl #[.int .i64 a0, .int .u64 a1, .slice A2 l2.length c2] rfl (by (try simp only [List.map_toArray, List.map_cons, List.map_nil]); first | done | rfl | (simp only [List.length_drop, List.length_take]; rfl)) ?_; (with_reducible refine (format_Get.calls kj6 a0 a1 _ _ l2 t400 t401 _ ?side1 ?side2 A11.out).mono ?_); (case side1 => repeat (first | exact (Kd.C_below HR2.out HB.out) | (with_reducible refine Kd.C_alloc ?_ _) | (with_reducible refine Kd.C_drewN ?_ _) | (with_reducible refine Kd.C_drew ?_))); (case side2 => exact HC2.out); rintro e w13 ⟨rfl, hb⟩; refine ⟨_, rfl, ?_⟩; have n0_ := Aside0.mk (below_step (by repeat (first | (with_reducible first | exact HB.out | apply below_alloc | apply pw_below_drewN | apply below_drew1) | exact HB.out)) hb); clear HB; have HB := n0_; clear n0_; (try clear hb); (try clear hb2); (try clear hk); (try clear hi)))
          go_loopg [14, 15, 16] kj6 (fun kq v14 v15 v16 w' => ∃ (x14_2 : Int) (x15_2 : Int) (x16_2 : Int), v14 = .int .u64 x14_2 ∧ v15 = .int .i64 x15_2 ∧ v16 = .int .i64 x16_2 ∧ Aside0 (retargetlaw09_FormatSplits.l0 kq a0 a1 l2 a3 a4 t399 t400 x14_2 x15_2 x16_2 = some r) ∧ Aside0 (kq ≤ kj6) ∧ Aside0 (Below w.heap.size w w'))
          case atStart => exact ⟨(0), (0), (0), (by first | rfl | (simp; done) | (simp [*]; done)), (by first | rfl | (simp; done) | (simp [*]; done)), (by first | rfl | (simp; done) | (simp [*]; done)), H', ⟨Nat.le_refl _⟩, ⟨by repeat (first | (with_reducible first | exact HB.out | apply below_alloc | apply pw_below_drewN | apply below_drew1) | exact HB.out)⟩⟩
          case round =>
            clear H'
            try clear c1
            try clear c2
            try clear p2
            try clear c9
            try clear c9b0
            try clear c9b1
            try clear c10
            try clear c12
            try clear c12b0
            try clear c12b1
            try clear p2
            obtain ⟨x14_2, x15_2, x16_2, rfl, rfl, rfl, HA, HK2, HB⟩ := hrel
            cases gk with
            | zero => exact absurd HA.out (by simp [retargetlaw09_FormatSplits.l0])
            | succ k2 =>
              have H := HA.out
              clear HA
              simp only [retargetlaw09_FormatSplits.l0] at H
              by_cases c14 : x16_2 < (l2.length : Int)
              · rw [if_pos c14] at H
                have c14b0 : decide (x16_2 < (l2.length : Int)) = true := decide_eq_true c14
                clear c14
                by_cases c15 : 0 ≤ x16_2
                · rw [if_pos c15] at H
                  have c15b0 := eq_true c15
                  have c15b1 : decide (0 ≤ x16_2) = true := decide_eq_true c15
                  clear c15
                  by_cases c16 : x16_2 ≤ (wrap64 (x16_2 + 1))
                  · rw [if_pos c16] at H
                    have c16b0 := eq_true c16
                    have c16b1 : decide (x16_2 ≤ (wrap64 (x16_2 + 1))) = true := decide_eq_true c16
                    by_cases c17 : (wrap64 (x16_2 + 1)) ≤ (l2.length : Int)
                    · rw [if_pos c17] at H
                      have c17b0 := eq_true c17
                      have c17b1 : decide ((wrap64 (x16_2 + 1)) ≤ (l2.length : Int)) = true := decide_eq_true c17
                      obtain ⟨y402, hy402⟩ : ∃ y_ : List (S41), y_ = ((l2.take ((wrap64 (x16_2 + 1)) : Int).toNat).drop (x16_2 : Int).toNat) := ⟨_, rfl⟩
                      replace H : ((format_Get.f k2 a0 a1 y402).bind fun bt406 => (if bt406.2 = 0 then (if 0 ≤ (IntKind.u64.wrap (Go.bits .and .i64 x15_2 63)) then (retargetlaw09_FormatSplits.l0 k2 a0 a1 l2 a3 a4 t399 t400 (IntKind.u64.wrap (x14_2 + (shl .u64 bt406.1 (IntKind.u64.wrap (Go.bits .and .i64 x15_2 63))))) (wrap64 (x15_2 + ((rd_T41 l2 x16_2).f1))) (wrap64 (x16_2 + 1))) else (none)) else (some false))) = some r := by first | (rw [hy402]; with_reducible exact H) | (have H2_ := (Option.bind_some _ _).symm.trans H; rw [hy402]; with_reducible exact H2_) | (have H2_ := (Option.bind_some _ _).symm.trans H; with_reducible exact H2_) | with_reducible exact H | (rw [hy402]; exact H) | exact H
                      have Ny402 := Aside0.mk hy402
                      clear hy402
                      replace H := Option.bind_eq_some_iff.mp H
                      obtain ⟨⟨t406, t407⟩, A180, H⟩ := H
                      replace H : (if t407 = 0 then (if 0 ≤ (IntKind.u64.wrap (Go.bits .and .i64 x15_2 63)) then (retargetlaw09_FormatSplits.l0 k2 a0 a1 l2 a3 a4 t399 t400 (IntKind.u64.wrap (x14_2 + (shl .u64 t406 (IntKind.u64.wrap (Go.bits .and .i64 x15_2 63))))) (wrap64 (x15_2 + ((rd_T41 l2 x16_2).f1))) (wrap64 (x16_2 + 1))) else (none)) else (some false)) = some r := H
                      have A18 := Aside0.mk A180
                      clear A180
                      by_cases c19 : t407 = 0
                      · rw [if_pos c19] at H
                        have c19b0 : (t407 == 0) = true := beq_iff_eq.mpr c19
                        have c19b1 : (t407 != 0) = false := bne_eq_false_iff_eq.mpr c19
                        clear c19
                        obtain ⟨ji20, hji20⟩ : ∃ j_ : Int, (IntKind.u64.wrap (Go.bits .and .i64 x15_2 63)) = j_ := ⟨_, rfl⟩
                        replace H : (if 0 ≤ (ji20) then (retargetlaw09_FormatSplits.l0 k2 a0 a1 l2 a3 a4 t399 t400 (IntKind.u64.wrap (x14_2 + (shl .u64 t406 (ji20)))) (wrap64 (x15_2 + ((rd_T41 l2 x16_2).f1))) (wrap64 (x16_2 + 1))) else (none)) = some r := by first | (rw [hji20] at H; exact H) | (simp only [hji20] at H ⊢; exact H)
                        (try rw [hji20] at A18)
                        by_cases c21 : 0 ≤ (ji20)
                        · rw [if_pos c21] at H
                          have c21b0 := eq_true c21
                          have c21b1 : decide (0 ≤ (ji20)) = true := decide_eq_true c21
                          clear c21
                          obtain ⟨ji22, hji22⟩ : ∃ j_ : Int, (shl .u64 t406 (ji20)) = j_ := ⟨_, rfl⟩
                          replace H : (retargetlaw09_FormatSplits.l0 k2 a0 a1 l2 a3 a4 t399 t400 (IntKind.u64.wrap (x14_2 + (ji22))) (wrap64 (x15_2 + ((rd_T41 l2 x16_2).f1))) (wrap64 (x16_2 + 1))) = some r := by first | (rw [hji22] at H; exact H) | (simp only [hji22] at H ⊢; exact H)
                          (try rw [hji22] at A18)
                          have hji22_ : (IntKind.u64.wrap (t406 * 2 ^ min (ji20).toNat 64)) = ji22 := hji22
                          have hji22z : (ji20) ≤ 64 → (IntKind.u64.wrap (t406 * 2 ^ (ji20).toNat)) = ji22 := shl_small hji22
                          have H' := Aside0.mk H
                          clear H
                          have q23 : ((wrap64 (x16_2 + 1)) : Int) ≤ ((l2.length : Int) : Int) := of_decide_eq_true (by first | (with_reducible assumption) | assumption)
                          obtain ⟨i023, hi023, _, hsz23, _⟩ := info_parts info41
                          have hroom23 : l2.length ≤ c2 := HC2.out
                          have hC23 : Kd.C k41 _ A2 l2.length l2 := HR2.out
                          have ql23 : (x16_2 : Int) ≤ ((wrap64 (x16_2 + 1)) : Int) := of_decide_eq_true (by first | (with_reducible assumption) | assumption)
                          have q023 : (0 : Int) ≤ (x16_2 : Int) := of_decide_eq_true (by first | (with_reducible assumption) | assumption)
                          have hcut23 := cut_mid (P := Try.prog) 42 41 .i64 .i64 Try.underlying42 hi023 2 hsz23 A2 l2.length c2 x16_2 (wrap64 (x16_2 + 1)) q023 ql23 q23 hroom23
                          have hr23 := Kd.C_mid (lo := (x16_2 : Int).toNat) (hi := ((wrap64 (x16_2 + 1)) : Int).toNat) (c := c2) hC23 (by omega) (by omega) hroom23
                          obtain ⟨A23, hA23⟩ : ∃ A1, A1 = (if c2 = (x16_2 : Int).toNat then A2 else (A2 : Option Addr).map (·.add ((x16_2 : Int).toNat * 2))) := ⟨_, rfl⟩
                          obtain ⟨c23, hc23⟩ : ∃ c1, c1 = c2 - (x16_2 : Int).toNat := ⟨_, rfl⟩
                          have hy23 : y402.length = ((wrap64 (x16_2 + 1)) : Int).toNat - (x16_2 : Int).toNat := (by rw [Ny402.out, List.length_drop, List.length_take] <;> omega)
                          rw [show ((l2).take ((wrap64 (x16_2 + 1)) : Int).toNat).drop (x16_2 : Int).toNat = y402 from Ny402.out.symm] at hr23
                          replace hr23 : Kd.C k41 _ A23 y402.length y402 := (by rw [hA23]; exact hr23)
                          rw [← hy23, ← hA23, ← hc23] at hcut23
                          have HR405 := Aside0.mk hr23
                          have HC405 := Aside0.mk (show y402.length ≤ c23 from by rw [hy23, hc23]; exact Nat.sub_le_sub_right (Nat.le_trans (by omega) hroom23) _)
                          clear hr23 hC23 hroom23 hi023 hsz23 hc23
                          have KY23 := Aside0.mk hy23
                          have KA23 := Aside0.mk hA23
                          clear hy23 hA23
                          replace q23 := eq_true q23
                          go_wp2_with (first | ((with_reducible refine gate_callee (f := 21) rfl ?_); refine goesL_ (some 56) rfl rfl Try.func21 (by kernel_rfl) rfl #[.int .i64 a0, .int .u64 a1, .slice A23 y402.length c23] rfl (by (try simp only [List.map_toArray, List.map_cons, List.map_nil]); first | done | rfl | (simp only [List.length_drop, List.length_take]; rfl)) ?_; (with_reducible refine (format_Get.calls k2 a0 a1 _ _ y402 t406 t407 _ ?side1 ?side2 A18.out).mono ?_); (case side1 => repeat (first | exact (Kd.C_below HR405.out HB.out) | (with_reducible refine Kd.C_alloc ?_ _) | (with_reducible refine Kd.C_drewN ?_ _) | (with_reducible refine Kd.C_drew ?_))); (case side2 => exact HC405.out); rintro e w24 ⟨rfl, hb⟩; refine ⟨_, rfl, ?_⟩; have n0_ := Aside0.mk (below_step (by repeat (first | (with_reducible first | exact HB.out | apply below_alloc | apply pw_below_drewN | apply below_drew1) | exact HB.out)) hb); clear HB; have HB := n0_; clear n0_; (try clear hb); (try clear hb2); (try clear hk); (try clear hi); have p408 : 0 ≤ (x16_2 : Int) := of_decide_eq_true (by first | (with_reducible assumption) | assumption); have q408 : x16_2 < (l2.length : Int) := of_decide_eq_true (by first | (with_reducible assumption) | assumption); obtain ⟨ad408, e408, hx408_0, hx408_1⟩ := at_T41 HR2.out x16_2 p408 q408; cases e408; replace hx408_0 := (HB.out.cell (World.block_lt_of_cell? w _ hx408_0)).trans hx408_0; replace hx408_1 := (HB.out.cell (World.block_lt_of_cell? w _ hx408_1)).trans hx408_1; replace p408 := eq_true p408; replace q408 := eq_true q408))
                          go_roundg k2
                          case measure => have := HJ6.out; have := HK2.out; omega
                          case rel => exact ⟨(IntKind.u64.wrap (x14_2 + (ji22))), (wrap64 (x15_2 + ((rd_T41 l2 x16_2).f1))), (wrap64 (x16_2 + 1)), (by first | rfl | (simp; done) | (simp only [← hji22] <;> (first | rfl | simp)) | (simp [*]; done)), (by first | rfl | (simp; done) | (simp [*]; done)), (by first | rfl | (simp; done) | (simp [*]; done)), H', ⟨by have := HJ6.out; have := HK2.out; omega⟩, ⟨by repeat (first | (with_reducible first | exact HB.out | apply below_alloc | apply pw_below_drewN | apply below_drew1) | exact HB.out)⟩⟩
                        · rw [if_neg c21] at H
                          exact absurd H (by simp)
                      · rw [if_neg c19] at H
                        have c19b0 : (t407 == 0) = false := beq_eq_false_iff_ne.mpr c19
                        have c19b1 : (t407 != 0) = true := bne_iff_ne.mpr c19
                        obtain rfl := Option.some.inj H
                        have q25 : ((wrap64 (x16_2 + 1)) : Int) ≤ ((l2.length : Int) : Int) := of_decide_eq_true (by first | (with_reducible assumption) | assumption)
                        obtain ⟨i025, hi025, _, hsz25, _⟩ := info_parts info41
                        have hroom25 : l2.length ≤ c2 := HC2.out
                        have hC25 : Kd.C k41 _ A2 l2.length l2 := HR2.out
                        have ql25 : (x16_2 : Int) ≤ ((wrap64 (x16_2 + 1)) : Int) := of_decide_eq_true (by first | (with_reducible assumption) | assumption)
                        have q025 : (0 : Int) ≤ (x16_2 : Int) := of_decide_eq_true (by first | (with_reducible assumption) | assumption)
                        have hcut25 := cut_mid (P := Try.prog) 42 41 .i64 .i64 Try.underlying42 hi025 2 hsz25 A2 l2.length c2 x16_2 (wrap64 (x16_2 + 1)) q025 ql25 q25 hroom25
                        have hr25 := Kd.C_mid (lo := (x16_2 : Int).toNat) (hi := ((wrap64 (x16_2 + 1)) : Int).toNat) (c := c2) hC25 (by omega) (by omega) hroom25
                        obtain ⟨A25, hA25⟩ : ∃ A1, A1 = (if c2 = (x16_2 : Int).toNat then A2 else (A2 : Option Addr).map (·.add ((x16_2 : Int).toNat * 2))) := ⟨_, rfl⟩
                        obtain ⟨c25, hc25⟩ : ∃ c1, c1 = c2 - (x16_2 : Int).toNat := ⟨_, rfl⟩
                        have hy25 : y402.length = ((wrap64 (x16_2 + 1)) : Int).toNat - (x16_2 : Int).toNat := (by rw [Ny402.out, List.length_drop, List.length_take] <;> omega)
                        rw [show ((l2).take ((wrap64 (x16_2 + 1)) : Int).toNat).drop (x16_2 : Int).toNat = y402 from Ny402.out.symm] at hr25
                        replace hr25 : Kd.C k41 _ A25 y402.length y402 := (by rw [hA25]; exact hr25)
                        rw [← hy25, ← hA25, ← hc25] at hcut25
                        have HR405 := Aside0.mk hr25
                        have HC405 := Aside0.mk (show y402.length ≤ c25 from by rw [hy25, hc25]; exact Nat.sub_le_sub_right (Nat.le_trans (by omega) hroom25) _)
                        clear hr25 hC25 hroom25 hi025 hsz25 hc25
                        have KY25 := Aside0.mk hy25
                        have KA25 := Aside0.mk hA25
                        clear hy25 hA25
                        replace q25 := eq_true q25
                        go_wp2_with (first | ((with_reducible refine gate_callee (f := 21) rfl ?_); refine goesL_ (some 56) rfl rfl Try.func21 (by kernel_rfl) rfl #[.int .i64 a0, .int .u64 a1, .slice A25 y402.length c25] rfl (by (try simp only [List.map_toArray, List.map_cons, List.map_nil]); first | done | rfl | (simp only [List.length_drop, List.length_take]; rfl)) ?_; (with_reducible refine (format_Get.calls k2 a0 a1 _ _ y402 t406 t407 _ ?side1 ?side2 A18.out).mono ?_); (case side1 => repeat (first | exact (Kd.C_below HR405.out HB.out) | (with_reducible refine Kd.C_alloc ?_ _) | (with_reducible refine Kd.C_drewN ?_ _) | (with_reducible refine Kd.C_drew ?_))); (case side2 => exact HC405.out); rintro e w26 ⟨rfl, hb⟩; refine ⟨_, rfl, ?_⟩; have n0_ := Aside0.mk (below_step (by repeat (first | (with_reducible first | exact HB.out | apply below_alloc | apply pw_below_drewN | apply below_drew1) | exact HB.out)) hb); clear HB; have HB := n0_; clear n0_; (try clear hb); (try clear hb2); (try clear hk); (try clear hi)))
                        go_ret
                        exact ⟨by first | rfl | (simp [errW_none, errW_some] <;> rfl) | (simp [*, errW_none, errW_some] <;> rfl), by repeat (first | (with_reducible first | exact HB.out | apply below_alloc | apply pw_below_drewN | apply below_drew1) | exact HB.out)⟩
                    · rw [if_neg c17] at H
                      exact absurd H (by simp)
                  · rw [if_neg c16] at H
                    exact absurd H (by simp)
                · rw [if_neg c15] at H
                  exact absurd H (by simp)
              · rw [if_neg c14] at H
                have c14b0 : decide (x16_2 < (l2.length : Int)) = false := decide_eq_false c14
                clear c14
                by_cases c27 : x14_2 = t400
                · rw [if_pos c27] at H
                  have c27b0 : (x14_2 == t400) = true := beq_iff_eq.mpr c27
                  have c27b1 : (x14_2 != t400) = false := bne_eq_false_iff_eq.mpr c27
                  clear c27
                  by_cases c28 : a3 < 0
                  · rw [if_pos c28] at H
                    have c28b0 : decide (a3 < 0) = true := decide_eq_true c28
                    clear c28
                    obtain rfl := Option.some.inj H
                    go_wp2
                    go_ret
                    exact ⟨by first | rfl | (simp [errW_none, errW_some] <;> rfl) | (simp [*, errW_none, errW_some] <;> rfl), by repeat (first | (with_reducible first | exact HB.out | apply below_alloc | apply pw_below_drewN | apply below_drew1) | exact HB.out)⟩
                  · rw [if_neg c28] at H
                    have c28b0 : decide (a3 < 0) = false := decide_eq_false c28
                    clear c28
                    by_cases c29 : a3 ≥ (l2.length : Int)
                    · rw [if_pos c29] at H
                      have c29b0 : decide ((l2.length : Int) ≤ a3) = true := decide_eq_true c29
                      clear c29
                      obtain rfl := Option.some.inj H
                      go_wp2
                      go_ret
                      exact ⟨by first | rfl | (simp [errW_none, errW_some] <;> rfl) | (simp [*, errW_none, errW_some] <;> rfl), by repeat (first | (with_reducible first | exact HB.out | apply below_alloc | apply pw_below_drewN | apply below_drew1) | exact HB.out)⟩
                    · rw [if_neg c29] at H
                      have c29b0 : decide ((l2.length : Int) ≤ a3) = false := decide_eq_false c29
                      clear c29
                      by_cases c30 : a4 < 1
                      · rw [if_pos c30] at H
                        have c30b0 : decide (a4 < 1) = true := decide_eq_true c30
                        clear c30
                        obtain rfl := Option.some.inj H
                        go_wp2
                        go_ret
                        exact ⟨by first | rfl | (simp [errW_none, errW_some] <;> rfl) | (simp [*, errW_none, errW_some] <;> rfl), by repeat (first | (with_reducible first | exact HB.out | apply below_alloc | apply pw_below_drewN | apply below_drew1) | exact HB.out)⟩
                      · rw [if_neg c30] at H
                        have c30b0 : decide (a4 < 1) = false := decide_eq_false c30
                        clear c30
                        by_cases c31 : 0 ≤ a3
                        · rw [if_pos c31] at H
                          have c31b0 : decide (0 ≤ a3) = true := decide_eq_true c31
                          clear c31
                          by_cases c32 : a3 < (l2.length : Int)
                          · rw [if_pos c32] at H
                            have c32b0 : decide (a3 < (l2.length : Int)) = true := decide_eq_true c32
                            clear c32
                            by_cases c33 : a4 ≥ ((rd_T41 l2 a3).f1)
                            · rw [if_pos c33] at H
                              have c33b0 : decide (((rd_T41 l2 a3).f1) ≤ a4) = true := decide_eq_true c33
                              clear c33
                              obtain rfl := Option.some.inj H
                              have p409 : 0 ≤ (a3 : Int) := of_decide_eq_true (by first | (with_reducible assumption) | assumption)
                              have q409 : a3 < (l2.length : Int) := of_decide_eq_true (by first | (with_reducible assumption) | assumption)
                              obtain ⟨ad409, e409, hx409_0, hx409_1⟩ := at_T41 HR2.out a3 p409 q409
                              cases e409
                              replace hx409_0 := (HB.out.cell (World.block_lt_of_cell? w _ hx409_0)).trans hx409_0
                              replace hx409_1 := (HB.out.cell (World.block_lt_of_cell? w _ hx409_1)).trans hx409_1
                              replace p409 := eq_true p409
                              replace q409 := eq_true q409
                              go_wp2
                              go_ret
                              exact ⟨by first | rfl | (simp [errW_none, errW_some] <;> rfl) | (simp [*, errW_none, errW_some] <;> rfl), by repeat (first | (with_reducible first | exact HB.out | apply below_alloc | apply pw_below_drewN | apply below_drew1) | exact HB.out)⟩
                            · rw [if_neg c33] at H
                              have c33b0 : decide (((rd_T41 l2 a3).f1) ≤ a4) = false := decide_eq_false c33
                              clear c33
                              have c34b0 := eq_true (of_decide_eq_true (by first | (with_reducible assumption) | assumption) : 0 ≤ a3)
                              by_cases c35 : a3 ≤ (l2.length : Int)
                              · rw [if_pos c35] at H
                                have c35b0 := eq_true c35
                                have c35b1 : decide (a3 ≤ (l2.length : Int)) = true := decide_eq_true c35
                                clear c35
                                obtain ⟨y412, hy412⟩ : ∃ y_ : List (S41), y_ = (l2.take (a3 : Int).toNat) := ⟨_, rfl⟩
                                replace H : (if ([] : List (S41)).length + y412.length < 8796093022208 then ((some (([] : List (S41)) ++ y412 : List (S41))).bind fun y416 => ((some (([(⟨(rd_T41 l2 a3).f0, a4⟩ : S41), (⟨wrap64 (((rd_T41 l2 a3).f0) + a4), wrap64 (((rd_T41 l2 a3).f1) - a4)⟩ : S41)] : List (S41)) : List (S41))).bind fun y419 => (if y416.length + y419.length < 8796093022208 then ((some (y416 ++ y419 : List (S41))).bind fun y422 => (if 0 ≤ (wrap64 (a3 + 1)) then (if (wrap64 (a3 + 1)) ≤ (l2.length : Int) then ((some (l2.drop ((wrap64 (a3 + 1)) : Int).toNat : List (S41))).bind fun y425 => (if y422.length + y425.length < 8796093022208 then ((format_Get.f k2 a0 a1 (y422 ++ y425)).bind fun bt432 => (if t399 = true then (if bt432.2 = 0 then (some (bt432.1 == t400)) else (some false)) else (some false))) else (none))) else (none)) else (none))) else (none)))) else (none)) = some r := by first | (rw [hy412]; with_reducible exact H) | (have H2_ := (Option.bind_some _ _).symm.trans H; rw [hy412]; with_reducible exact H2_) | (have H2_ := (Option.bind_some _ _).symm.trans H; with_reducible exact H2_) | with_reducible exact H | (rw [hy412]; exact H) | exact H
                                have Ny412 := Aside0.mk hy412
                                clear hy412
                                by_cases c36 : ([] : List (S41)).length + y412.length < 8796093022208
                                · rw [if_pos c36] at H
                                  have LMc36 := Aside0.mk c36
                                  clear c36
                                  obtain ⟨y416, hy416⟩ : ∃ y_ : List (S41), y_ = (([] : List (S41)) ++ y412) := ⟨_, rfl⟩
                                  replace H : ((some (([(⟨(rd_T41 l2 a3).f0, a4⟩ : S41), (⟨wrap64 (((rd_T41 l2 a3).f0) + a4), wrap64 (((rd_T41 l2 a3).f1) - a4)⟩ : S41)] : List (S41)) : List (S41))).bind fun y419 => (if y416.length + y419.length < 8796093022208 then ((some (y416 ++ y419 : List (S41))).bind fun y422 => (if 0 ≤ (wrap64 (a3 + 1)) then (if (wrap64 (a3 + 1)) ≤ (l2.length : Int) then ((some (l2.drop ((wrap64 (a3 + 1)) : Int).toNat : List (S41))).bind fun y425 => (if y422.length + y425.length < 8796093022208 then ((format_Get.f k2 a0 a1 (y422 ++ y425)).bind fun bt432 => (if t399 = true then (if bt432.2 = 0 then (some (bt432.1 == t400)) else (some false)) else (some false))) else (none))) else (none)) else (none))) else (none))) = some r := by first | (rw [hy416]; with_reducible exact H) | (have H2_ := (Option.bind_some _ _).symm.trans H; rw [hy416]; with_reducible exact H2_) | (have H2_ := (Option.bind_some _ _).symm.trans H; with_reducible exact H2_) | with_reducible exact H | (rw [hy416]; exact H) | exact H
                                  have Ny416 := Aside0.mk hy416
                                  clear hy416
                                  obtain ⟨y419, hy419⟩ : ∃ y_ : List (S41), y_ = (([(⟨(rd_T41 l2 a3).f0, a4⟩ : S41), (⟨wrap64 (((rd_T41 l2 a3).f0) + a4), wrap64 (((rd_T41 l2 a3).f1) - a4)⟩ : S41)] : List (S41))) := ⟨_, rfl⟩
                                  replace H : (if y416.length + y419.length < 8796093022208 then ((some (y416 ++ y419 : List (S41))).bind fun y422 => (if 0 ≤ (wrap64 (a3 + 1)) then (if (wrap64 (a3 + 1)) ≤ (l2.length : Int) then ((some (l2.drop ((wrap64 (a3 + 1)) : Int).toNat : List (S41))).bind fun y425 => (if y422.length + y425.length < 8796093022208 then ((format_Get.f k2 a0 a1 (y422 ++ y425)).bind fun bt432 => (if t399 = true then (if bt432.2 = 0 then (some (bt432.1 == t400)) else (some false)) else (some false))) else (none))) else (none)) else (none))) else (none)) = some r := by first | (rw [hy419]; with_reducible exact H) | (have H2_ := (Option.bind_some _ _).symm.trans H; rw [hy419]; with_reducible exact H2_) | (have H2_ := (Option.bind_some _ _).symm.trans H; with_reducible exact H2_) | with_reducible exact H | (rw [hy419]; exact H) | exact H
                                  have Ny419 := Aside0.mk hy419
                                  clear hy419
                                  by_cases c37 : y416.length + y419.length < 8796093022208
                                  · rw [if_pos c37] at H
                                    have LMc37 := Aside0.mk c37
                                    clear c37
                                    obtain ⟨y422, hy422⟩ : ∃ y_ : List (S41), y_ = (y416 ++ y419) := ⟨_, rfl⟩
                                    replace H : (if 0 ≤ (wrap64 (a3 + 1)) then (if (wrap64 (a3 + 1)) ≤ (l2.length : Int) then ((some (l2.drop ((wrap64 (a3 + 1)) : Int).toNat : List (S41))).bind fun y425 => (if y422.length + y425.length < 8796093022208 then ((format_Get.f k2 a0 a1 (y422 ++ y425)).bind fun bt432 => (if t399 = true then (if bt432.2 = 0 then (some (bt432.1 == t400)) else (some false)) else (some false))) else (none))) else (none)) else (none)) = some r := by first | (rw [hy422]; with_reducible exact H) | (have H2_ := (Option.bind_some _ _).symm.trans H; rw [hy422]; with_reducible exact H2_) | (have H2_ := (Option.bind_some _ _).symm.trans H; with_reducible exact H2_) | with_reducible exact H | (rw [hy422]; exact H) | exact H
                                    have Ny422 := Aside0.mk hy422
                                    clear hy422
                                    obtain ⟨ji38, hji38⟩ : ∃ j_ : Int, (wrap64 (a3 + 1)) = j_ := ⟨_, rfl⟩
                                    replace H : (if 0 ≤ (ji38) then (if (ji38) ≤ (l2.length : Int) then ((some (l2.drop ((ji38) : Int).toNat : List (S41))).bind fun y425 => (if y422.length + y425.length < 8796093022208 then ((format_Get.f k2 a0 a1 (y422 ++ y425)).bind fun bt432 => (if t399 = true then (if bt432.2 = 0 then (some (bt432.1 == t400)) else (some false)) else (some false))) else (none))) else (none)) else (none)) = some r := by first | (rw [hji38] at H; exact H) | (simp only [hji38] at H ⊢; exact H)
                                    have hji38w : (IntKind.i64.wrap (a3 + 1)) = ji38 := (i64_w _).trans hji38
                                    by_cases c39 : 0 ≤ (ji38)
                                    · rw [if_pos c39] at H
                                      have c39b0 := eq_true c39
                                      have c39b1 : decide (0 ≤ (ji38)) = true := decide_eq_true c39
                                      clear c39
                                      by_cases c40 : (ji38) ≤ (l2.length : Int)
                                      · rw [if_pos c40] at H
                                        have c40b0 := eq_true c40
                                        have c40b1 : decide ((ji38) ≤ (l2.length : Int)) = true := decide_eq_true c40
                                        clear c40
                                        obtain ⟨y425, hy425⟩ : ∃ y_ : List (S41), y_ = (l2.drop ((ji38) : Int).toNat) := ⟨_, rfl⟩
                                        replace H : (if y422.length + y425.length < 8796093022208 then ((format_Get.f k2 a0 a1 (y422 ++ y425)).bind fun bt432 => (if t399 = true then (if bt432.2 = 0 then (some (bt432.1 == t400)) else (some false)) else (some false))) else (none)) = some r := by first | (rw [hy425]; with_reducible exact H) | (have H2_ := (Option.bind_some _ _).symm.trans H; rw [hy425]; with_reducible exact H2_) | (have H2_ := (Option.bind_some _ _).symm.trans H; with_reducible exact H2_) | with_reducible exact H | (rw [hy425]; exact H) | exact H
                                        have Ny425 := Aside0.mk hy425
                                        clear hy425
                                        by_cases c41 : y422.length + y425.length < 8796093022208
                                        · rw [if_pos c41] at H
                                          have LMc41 := Aside0.mk c41
                                          clear c41
                                          obtain ⟨y429, hy429⟩ : ∃ y_ : List (S41), y_ = (y422 ++ y425) := ⟨_, rfl⟩
                                          replace H : ((format_Get.f k2 a0 a1 y429).bind fun bt432 => (if t399 = true then (if bt432.2 = 0 then (some (bt432.1 == t400)) else (some false)) else (some false))) = some r := by first | (rw [hy429]; with_reducible exact H) | (have H2_ := (Option.bind_some _ _).symm.trans H; rw [hy429]; with_reducible exact H2_) | (have H2_ := (Option.bind_some _ _).symm.trans H; with_reducible exact H2_) | with_reducible exact H | (rw [hy429]; exact H) | exact H
                                          have Ny429 := Aside0.mk hy429
                                          clear hy429
                                          replace H := Option.bind_eq_some_iff.mp H
                                          obtain ⟨⟨t432, t433⟩, A420, H⟩ := H
                                          replace H : (if t399 = true then (if t433 = 0 then (some (t432 == t400)) else (some false)) else (some false)) = some r := H
                                          have A42 := Aside0.mk A420
                                          clear A420
                                          by_cases c43 : t399 = true
                                          · subst c43
                                            have H1 : (if t433 = 0 then (some (t432 == t400)) else (some false)) = some r := by rw [if_pos rfl] at H; exact H
                                            clear H
                                            have H := H1
                                            clear H1
                                            by_cases c44 : t433 = 0
                                            · rw [if_pos c44] at H
                                              have c44b0 : (t433 == 0) = true := beq_iff_eq.mpr c44
                                              have c44b1 : (t433 != 0) = false := bne_eq_false_iff_eq.mpr c44
                                              clear c44
                                              obtain rfl := Option.some.inj H
                                              have p409 : 0 ≤ (a3 : Int) := of_decide_eq_true (by first | (with_reducible assumption) | assumption)
                                              have q409 : a3 < (l2.length : Int) := of_decide_eq_true (by first | (with_reducible assumption) | assumption)
                                              obtain ⟨ad409, e409, hx409_0, hx409_1⟩ := at_T41 HR2.out a3 p409 q409
                                              cases e409
                                              replace hx409_0 := (HB.out.cell (World.block_lt_of_cell? w _ hx409_0)).trans hx409_0
                                              replace hx409_1 := (HB.out.cell (World.block_lt_of_cell? w _ hx409_1)).trans hx409_1
                                              replace p409 := eq_true p409
                                              replace q409 := eq_true q409
                                              have p410 : 0 ≤ (a3 : Int) := of_decide_eq_true (by first | (with_reducible assumption) | assumption)
                                              have q410 : a3 < (l2.length : Int) := of_decide_eq_true (by first | (with_reducible assumption) | assumption)
                                              obtain ⟨ad410, e410, hx410_0, hx410_1⟩ := at_T41 HR2.out a3 p410 q410
                                              obtain rfl : ad409 = ad410 := (by injection e410)
                                              replace hx410_0 := (HB.out.cell (World.block_lt_of_cell? w _ hx410_0)).trans hx410_0
                                              replace hx410_1 := (HB.out.cell (World.block_lt_of_cell? w _ hx410_1)).trans hx410_1
                                              replace p410 := eq_true p410
                                              replace q410 := eq_true q410
                                              go_wp2_with (first | ((with_reducible refine gate_dst (N := 19) rfl ?_); (try (refine gate_guard (by rfl) ?_; dsimp only)); refine box_event ?hg (N := 19) ?hd (cs := #[.int .i64 0, .int .i64 0]) (t := 41) ?hr ?_; (case hd => rfl); (case hg => rfl); (case hr => first | (go_simp; done) | (go_simp; rfl)); intro gb411 hg w45 hbox hb; have n0_ := Aside0.mk (below_step (by repeat (first | (with_reducible first | exact HB.out | apply below_alloc | apply pw_below_drewN | apply below_drew1) | exact HB.out)) hb); have n1_ := Aside0.mk (hbox); have n2_ := Aside0.mk ((by rw [hg]; exact (below_size (by repeat (first | (with_reducible first | exact HB.out | apply below_alloc | apply pw_below_drewN | apply below_drew1) | exact HB.out))) : w.heap.size ≤ gb411)); have n3_ := Aside0.mk ((by rw [hg]; exact (below_size (by repeat (first | (with_reducible first | exact HB.out | apply below_alloc | apply pw_below_drewN | apply below_drew1) | exact HB.out))) : w.heap.size ≤ gb411)); clear HB; have HB := n0_; have BK411 := n1_; have GW411 := n2_; have GE411 := n3_; clear n0_ n1_ n2_ n3_; clear hb hbox hg; have hcz46_0 : w45.cell? ⟨gb411, 0, none⟩ = some (.int .i64 0) := (blk_cell BK411.out 0).trans rfl; have hcz46_1 : w45.cell? ⟨gb411, 1, none⟩ = some (.int .i64 0) := (blk_cell BK411.out 1).trans rfl; have hfz46_0 := blk_frozen BK411.out 0; have hfz46_1 := blk_frozen BK411.out 1) | ((with_reducible refine gate_store (t := 41) (p := 19) rfl ?_); refine store_event (t := 41) (p := 19) (v := ?vo_w47) (w1 := ((w45.setCell ⟨gb411, 0, none⟩ (.int .i64 ((rd_T41 l2 a3).f0))).setCell ⟨gb411, 1, none⟩ (.int .i64 ((rd_T41 l2 a3).f1)))) ?hg ?ho ?hn ?hr ?_; (case ho => rfl); (case hg => rfl); (case hn => rfl); (case hr => first | (go_simp; done) | (go_simp; rfl)); intro w47 hw; have n0_ : Aside0 (w47.heap[gb411]? = some (.cells #[.int .i64 ((rd_T41 l2 a3).f0), .int .i64 ((rd_T41 l2 a3).f1)] 41 (0, 0))) := ⟨(by rw [hw]; exact (by (with_reducible repeat (first | refine blk_drewN ?_ _ | refine blk_drew ?_ | refine blk_alloc ?_ _)); refine blk_put (cs := #[.int .i64 ((rd_T41 l2 a3).f0), .int .i64 0]) ?_ 1 _ rfl; (with_reducible repeat (first | refine blk_drewN ?_ _ | refine blk_drew ?_ | refine blk_alloc ?_ _)); refine blk_put (cs := #[.int .i64 0, .int .i64 0]) ?_ 0 _ rfl; (with_reducible repeat (first | refine blk_drewN ?_ _ | refine blk_drew ?_ | refine blk_alloc ?_ _)); exact BK411.out))⟩; have n1_ : Aside0 (Below w.heap.size w w47) := ⟨(by rw [hw]; exact (by repeat (first | (with_reducible first | exact HB.out | apply below_alloc | apply pw_below_drewN | apply below_drew1 | refine below_set ?_ GE411.out) | exact HB.out)))⟩; clear hw; clear BK411; clear HB; have BK411 := n0_; have HB := n1_; clear n0_ n1_; have q48 : (a3 : Int) ≤ ((l2.length : Int) : Int) := of_decide_eq_true (by first | (with_reducible assumption) | assumption); obtain ⟨i048, hi048, _, hsz48, _⟩ := info_parts info41; have hroom48 : l2.length ≤ c2 := HC2.out; have hC48 : Kd.C k41 _ (some ad409) l2.length l2 := HR2.out; have hcut48 := cut_to (P := Try.prog) 42 41 .i64 Try.underlying42 hi048 (some ad409) l2.length c2 a3 (of_decide_eq_true (by first | (with_reducible assumption) | assumption)) q48 hroom48; have hr48 := Kd.C_take (m := (a3 : Int).toNat) hC48 (by omega); have hy48 : y412.length = (a3 : Int).toNat := (by rw [Ny412.out, List.length_take]; omega); rw [← Ny412.out] at hr48; rw [← hy48] at hcut48; have HR415 := Aside0.mk hr48; have HC415 := Aside0.mk (show y412.length ≤ c2 from by omega); clear hr48 hC48 hroom48 hi048 hsz48; have KY48 := Aside0.mk hy48; clear hy48; replace q48 := eq_true q48) | ((with_reducible refine gate_builtin (b := .append) (xs := #[.tmp 104, .tmp 107]) rfl ?_); (try (refine gate_guard (by rfl) ?_; dsimp only)); at_builtin; refine Kd.R_append_rows k41 (w0 := w) w.heap.size rfl (.tmp 104) (.tmp 107) 42 41 (.agg #[(.int .i64 0), (.int .i64 0)]) 16 rfl Try.underlying42 info41 rfl (by decide) (by omega) (.slice none 0 0) ([] : List (S41)) y412 _ _ _ (fun k_ => k_ ≠ gb411) (fun _ => False) rfl rfl ?aO ?aR (fun _ _ h => h) (fun _ h => h.elim) ?aF ?aB ?aS ?aL ?_; (case aR => repeat (first | exact (Kd.C_below HR415.out HB.out) | (with_reducible refine Kd.C_alloc ?_ _) | (with_reducible refine Kd.C_drewN ?_ _) | (with_reducible refine Kd.C_drew ?_))); (case aB => exact (by repeat (first | (with_reducible first | exact HB.out | apply below_alloc | apply pw_below_drewN | apply below_drew1 | refine below_set ?_ GE411.out) | exact HB.out))); (case aF => exact (fun k_ hk => Kd.freshB (g := gb411) (o := .cells #[.int .i64 ((rd_T41 l2 a3).f0), .int .i64 ((rd_T41 l2 a3).f1)] 41 (0, 0)) (by (with_reducible repeat (first | refine blk_drewN ?_ _ | refine blk_drew ?_ | refine blk_alloc ?_ _)); exact BK411.out) k_ hk)); (case aO => exact ((Kd.R_nil _ _ _ _ (fun k_ => k_ ≠ gb411)))); (case aS => exact (below_size (by repeat (first | (with_reducible first | exact HB.out | apply below_alloc | apply pw_below_drewN | apply below_drew1 | refine below_set ?_ GE411.out) | exact HB.out)))); (case aL => have := LMc36.out; omega); intro v417 w49 ho hb hg hat; rw [← Ny416.out] at ho; have n0_ := Aside0.mk (blk_grown (g := gb411) (o := .cells #[.int .i64 ((rd_T41 l2 a3).f0), .int .i64 ((rd_T41 l2 a3).f1)] 41 (0, 0)) (by (with_reducible repeat (first | refine blk_drewN ?_ _ | refine blk_drew ?_ | refine blk_alloc ?_ _)); exact BK411.out) hg (by simp [Value.ownBlock])); have n1_ := Aside0.mk (hb); have n2_ := Aside0.mk (ho); clear BK411; clear HB; have BK411 := n0_; have HB := n1_; have HO418 := n2_; clear n0_ n1_ n2_; clear ho hb hg hat; have hcz50_0 : w49.cell? ⟨gb411, 0, none⟩ = some (.int .i64 ((rd_T41 l2 a3).f0)) := (blk_cell BK411.out 0).trans rfl; have hcz50_1 : w49.cell? ⟨gb411, 1, none⟩ = some (.int .i64 ((rd_T41 l2 a3).f1)) := (blk_cell BK411.out 1).trans rfl; have hfz50_0 := blk_frozen BK411.out 0; have hfz50_1 := blk_frozen BK411.out 1) | ((with_reducible refine gate_dst (N := 123) rfl ?_); (try (refine gate_guard (by rfl) ?_; dsimp only)); refine Kd.R_lit k41 _ 41 ?hg (N := 123) ?hd (xs := ([(⟨(rd_T41 l2 a3).f0, a4⟩ : S41), (⟨wrap64 (((rd_T41 l2 a3).f0) + a4), wrap64 (((rd_T41 l2 a3).f1) - a4)⟩ : S41)] : List (S41))) (inner := [.int .i64 ((rd_T41 l2 a3).f0), .int .i64 a4, .int .i64 (wrap64 (((rd_T41 l2 a3).f0) + a4)), .int .i64 (wrap64 (((rd_T41 l2 a3).f1) - a4))]) (ok := fun _ => True) (okp := fun _ => True) ?hr ?hp (fun _ hk => hk) trivial (Below.refl _ _) (Nat.le_refl _) (by simp) ?_; (case hd => rfl); (case hg => rfl); (case hr => first | (go_simp; done) | (go_simp; rfl)); (case hp => exact (Reps.c2 (show Kd.M k41 _ _ _ (⟨(rd_T41 l2 a3).f0, a4⟩ : S41) [.int .i64 ((rd_T41 l2 a3).f0), .int .i64 a4] from (k41_mkM _ _ _ (⟨(rd_T41 l2 a3).f0, a4⟩ : S41) )) (Reps.c2 (show Kd.M k41 _ _ _ (⟨wrap64 (((rd_T41 l2 a3).f0) + a4), wrap64 (((rd_T41 l2 a3).f1) - a4)⟩ : S41) [.int .i64 (wrap64 (((rd_T41 l2 a3).f0) + a4)), .int .i64 (wrap64 (((rd_T41 l2 a3).f1) - a4))] from (k41_mkM _ _ _ (⟨wrap64 (((rd_T41 l2 a3).f0) + a4), wrap64 (((rd_T41 l2 a3).f1) - a4)⟩ : S41) )) (Reps.none _ _)))); intro v420 w51 ho52 hb hg_ hnew_; clear hg_ hnew_; (first | rw [← Ny419.out] at ho52 | (simp only [Int.reduceToNat] at ho52; rw [← Ny419.out] at ho52)); have n0_ := Aside0.mk (Kd.R_elder' (by (with_reducible repeat (first | apply Kd.R_alloc | apply Kd.R_drewN | apply Kd.R_drew)); exact HO418.out) (Kd.R_base ho52) hb); have n1_ := Aside0.mk (Kd.R_lower (Kd.R_newB (Kd.R_new' ho52 (Kd.R_lt (by (with_reducible repeat (first | apply Kd.R_alloc | apply Kd.R_drewN | apply Kd.R_drew)); exact HO418.out))) (g := gb411) (o := .cells #[.int .i64 ((rd_T41 l2 a3).f0), .int .i64 ((rd_T41 l2 a3).f1)] 41 (0, 0)) (by (with_reducible repeat (first | refine blk_drewN ?_ _ | refine blk_drew ?_ | refine blk_alloc ?_ _)); exact BK411.out)) (below_size (by repeat (first | (with_reducible first | exact HB.out | apply below_alloc | apply pw_below_drewN | apply below_drew1 | refine below_set ?_ GE411.out) | exact HB.out)))); have n2_ := Aside0.mk (blk_below (g := gb411) (o := .cells #[.int .i64 ((rd_T41 l2 a3).f0), .int .i64 ((rd_T41 l2 a3).f1)] 41 (0, 0)) (by (with_reducible repeat (first | refine blk_drewN ?_ _ | refine blk_drew ?_ | refine blk_alloc ?_ _)); exact BK411.out) hb); have n3_ := Aside0.mk (below_step (by repeat (first | (with_reducible first | exact HB.out | apply below_alloc | apply pw_below_drewN | apply below_drew1 | refine below_set ?_ GE411.out) | exact HB.out)) hb); clear HO418; clear BK411; clear HB; have HO418 := n0_; have HO421 := n1_; have BK411 := n2_; have HB := n3_; clear n0_ n1_ n2_ n3_; clear hb ho52; obtain ⟨Ao54, co54, eo54⟩ := Kd.R_slice HO421.out; subst eo54) | ((with_reducible refine gate_builtin (b := .append) (xs := #[.tmp 109, .tmp 123]) rfl ?_); (try (refine gate_guard (by rfl) ?_; dsimp only)); at_builtin; refine Kd.R_append_rows k41 (w0 := w) w.heap.size rfl (.tmp 109) (.tmp 123) 42 41 (.agg #[(.int .i64 0), (.int .i64 0)]) 16 rfl Try.underlying42 info41 rfl (by decide) (by omega) v417 y416 y419 _ _ _ (fun k_ => some k_ ≠ (.slice Ao54 y419.length co54 : Value).ownBlock ∧ k_ ≠ gb411) (fun _ => False) rfl rfl ?aO ?aR (fun _ _ h => h) (fun _ h => h.elim) ?aF ?aB ?aS ?aL ?_; (case aR => repeat (first | exact (Kd.R_reads' HO421.out).2.2 | (with_reducible refine Kd.C_alloc ?_ _) | (with_reducible refine Kd.C_drewN ?_ _) | (with_reducible refine Kd.C_drew ?_))); (case aB => exact (by repeat (first | (with_reducible first | exact HB.out | apply below_alloc | apply pw_below_drewN | apply below_drew1 | refine below_set ?_ GE411.out) | exact HB.out))); (case aF => exact (fun k_ hk => ⟨Kd.fresh' (Kd.R_lt (by (with_reducible repeat (first | apply Kd.R_alloc | apply Kd.R_drewN | apply Kd.R_drew)); exact HO421.out)) k_ hk, Kd.freshB (g := gb411) (o := .cells #[.int .i64 ((rd_T41 l2 a3).f0), .int .i64 ((rd_T41 l2 a3).f1)] 41 (0, 0)) (by (with_reducible repeat (first | refine blk_drewN ?_ _ | refine blk_drew ?_ | refine blk_alloc ?_ _)); exact BK411.out) k_ hk⟩)); (case aO => exact (by (with_reducible repeat (first | apply Kd.R_alloc | apply Kd.R_drewN | apply Kd.R_drew)); exact Kd.R_mono HO418.out (fun _ hk => ⟨hk.2, hk.1⟩))); (case aS => exact (below_size (by repeat (first | (with_reducible first | exact HB.out | apply below_alloc | apply pw_below_drewN | apply below_drew1 | refine below_set ?_ GE411.out) | exact HB.out)))); (case aL => have := LMc37.out; omega); intro v423 w53 ho hb hg hat; rw [← Ny422.out] at ho; have n0_ := Aside0.mk (blk_grown (g := gb411) (o := .cells #[.int .i64 ((rd_T41 l2 a3).f0), .int .i64 ((rd_T41 l2 a3).f1)] 41 (0, 0)) (by (with_reducible repeat (first | refine blk_drewN ?_ _ | refine blk_drew ?_ | refine blk_alloc ?_ _)); exact BK411.out) hg (Kd.R_away HO418.out (fun _ hk => hk.1))); have n1_ := Aside0.mk (Kd.R_after (ok := (fun k_ => k_ ≠ gb411)) (by (with_reducible repeat (first | apply Kd.R_alloc | apply Kd.R_drewN | apply Kd.R_drew)); exact Kd.R_mono HO421.out (fun _ hk => ⟨hk.2, hk.1.2⟩)) hg hat); have n2_ := Aside0.mk (hb); have n3_ := Aside0.mk (ho); clear BK411; clear HO421; clear HB; clear HO418; have BK411 := n0_; have HO421 := n1_; have HB := n2_; have HO424 := n3_; clear n0_ n1_ n2_ n3_; clear ho hb hg hat; have q55 : ((ji38) : Int) ≤ ((l2.length : Int) : Int) := of_decide_eq_true (by first | (with_reducible assumption) | assumption); obtain ⟨i055, hi055, _, hsz55, _⟩ := info_parts info41; have hroom55 : l2.length ≤ c2 := HC2.out; have hC55 : Kd.C k41 _ (some ad409) l2.length l2 := HR2.out; have q055 : (0 : Int) ≤ ((ji38) : Int) := of_decide_eq_true (by first | (with_reducible assumption) | assumption); have hcut55 := cut_from (P := Try.prog) 42 41 .i64 Try.underlying42 hi055 2 hsz55 (some ad409) l2.length c2 (ji38) q055 q55; have hr55 := Kd.C_drop (m := ((ji38) : Int).toNat) (c := c2) hC55 (by omega) hroom55; obtain ⟨A55, hA55⟩ : ∃ A1, A1 = (if c2 = ((ji38) : Int).toNat then (some ad409) else ((some ad409) : Option Addr).map (·.add (((ji38) : Int).toNat * 2))) := ⟨_, rfl⟩; obtain ⟨c55, hc55⟩ : ∃ c1, c1 = c2 - ((ji38) : Int).toNat := ⟨_, rfl⟩; have hy55 : y425.length = l2.length - ((ji38) : Int).toNat := (by rw [Ny425.out, List.length_drop] <;> omega); rw [show (l2).drop ((ji38) : Int).toNat = y425 from Ny425.out.symm] at hr55; replace hr55 : Kd.C k41 _ A55 y425.length y425 := (by rw [hA55]; exact hr55); rw [← hy55, ← hA55, ← hc55] at hcut55; have HR428 := Aside0.mk hr55; have HC428 := Aside0.mk (show y425.length ≤ c55 from by rw [hy55, hc55]; exact Nat.sub_le_sub_right hroom55 _); clear hr55 hC55 hroom55 hi055 hsz55 hc55; have KY55 := Aside0.mk hy55; have KA55 := Aside0.mk hA55; clear hy55 hA55; replace q55 := eq_true q55) | ((with_reducible refine gate_builtin (b := .append) (xs := #[.tmp 125, .tmp 129]) rfl ?_); (try (refine gate_guard (by rfl) ?_; dsimp only)); at_builtin; refine Kd.R_append_rows k41 (w0 := w) w.heap.size rfl (.tmp 125) (.tmp 129) 42 41 (.agg #[(.int .i64 0), (.int .i64 0)]) 16 rfl Try.underlying42 info41 rfl (by decide) (by omega) v423 y422 y425 _ _ _ (fun k_ => some k_ ≠ (.slice Ao54 y419.length co54 : Value).ownBlock ∧ k_ ≠ gb411) (fun _ => False) rfl rfl ?aO ?aR (fun _ _ h => h) (fun _ h => h.elim) ?aF ?aB ?aS ?aL ?_; (case aR => repeat (first | exact (Kd.C_below HR428.out HB.out) | (with_reducible refine Kd.C_alloc ?_ _) | (with_reducible refine Kd.C_drewN ?_ _) | (with_reducible refine Kd.C_drew ?_))); (case aB => exact (by repeat (first | (with_reducible first | exact HB.out | apply below_alloc | apply pw_below_drewN | apply below_drew1 | refine below_set ?_ GE411.out) | exact HB.out))); (case aF => exact (fun k_ hk => ⟨Kd.fresh' (Kd.R_lt (by (with_reducible repeat (first | apply Kd.R_alloc | apply Kd.R_drewN | apply Kd.R_drew)); exact HO421.out)) k_ hk, Kd.freshB (g := gb411) (o := .cells #[.int .i64 ((rd_T41 l2 a3).f0), .int .i64 ((rd_T41 l2 a3).f1)] 41 (0, 0)) (by (with_reducible repeat (first | refine blk_drewN ?_ _ | refine blk_drew ?_ | refine blk_alloc ?_ _)); exact BK411.out) k_ hk⟩)); (case aO => exact (by (with_reducible repeat (first | apply Kd.R_alloc | apply Kd.R_drewN | apply Kd.R_drew)); exact HO424.out)); (case aS => exact (below_size (by repeat (first | (with_reducible first | exact HB.out | apply below_alloc | apply pw_below_drewN | apply below_drew1 | refine below_set ?_ GE411.out) | exact HB.out)))); (case aL => have := LMc41.out; omega); intro v430 w56 ho hb hg hat; rw [← Ny429.out] at ho; have n0_ := Aside0.mk (blk_grown (g := gb411) (o := .cells #[.int .i64 ((rd_T41 l2 a3).f0), .int .i64 ((rd_T41 l2 a3).f1)] 41 (0, 0)) (by (with_reducible repeat (first | refine blk_drewN ?_ _ | refine blk_drew ?_ | refine blk_alloc ?_ _)); exact BK411.out) hg (Kd.R_away HO424.out (fun _ hk => hk.2))); have n1_ := Aside0.mk (Kd.R_after (ok := (fun k_ => k_ ≠ gb411)) (by (with_reducible repeat (first | apply Kd.R_alloc | apply Kd.R_drewN | apply Kd.R_drew)); exact HO421.out) hg hat); have n2_ := Aside0.mk (hb); have n3_ := Aside0.mk (ho); clear BK411; clear HO421; clear HB; clear HO424; have BK411 := n0_; have HO421 := n1_; have HB := n2_; have HO431 := n3_; clear n0_ n1_ n2_ n3_; clear ho hb hg hat; obtain ⟨Ao57, co57, eo57⟩ := Kd.R_slice HO431.out; subst eo57) | ((with_reducible refine gate_callee (f := 21) rfl ?_); refine goesL_ (some 135) rfl rfl Try.func21 (by kernel_rfl) rfl #[.int .i64 a0, .int .u64 a1, .slice Ao57 y429.length co57] rfl (by (try simp only [List.map_toArray, List.map_cons, List.map_nil]); first | done | rfl | (simp only [List.length_drop, List.length_take]; rfl)) ?_; (with_reducible refine (format_Get.calls k2 a0 a1 _ _ y429 t432 t433 _ ?side1 ?side2 A42.out).mono ?_); (case side1 => repeat (first | exact (Kd.R_reads' HO431.out).2.2 | (with_reducible refine Kd.C_alloc ?_ _) | (with_reducible refine Kd.C_drewN ?_ _) | (with_reducible refine Kd.C_drew ?_))); (case side2 => exact (Kd.R_reads' HO431.out).2.1); rintro e w58 ⟨rfl, hb⟩; refine ⟨_, rfl, ?_⟩; have n0_ := Aside0.mk (Kd.R_below (by (with_reducible repeat (first | apply Kd.R_alloc | apply Kd.R_drewN | apply Kd.R_drew)); exact HO421.out) hb); have n1_ := Aside0.mk (Kd.R_below (by (with_reducible repeat (first | apply Kd.R_alloc | apply Kd.R_drewN | apply Kd.R_drew)); exact HO431.out) hb); have n2_ := Aside0.mk (blk_below (g := gb411) (o := .cells #[.int .i64 ((rd_T41 l2 a3).f0), .int .i64 ((rd_T41 l2 a3).f1)] 41 (0, 0)) (by (with_reducible repeat (first | refine blk_drewN ?_ _ | refine blk_drew ?_ | refine blk_alloc ?_ _)); exact BK411.out) hb); have n3_ := Aside0.mk (below_step (by repeat (first | (with_reducible first | exact HB.out | apply below_alloc | apply pw_below_drewN | apply below_drew1 | refine below_set ?_ GE411.out) | exact HB.out)) hb); clear HO421; clear HO431; clear BK411; clear HB; have HO421 := n0_; have HO431 := n1_; have BK411 := n2_; have HB := n3_; clear n0_ n1_ n2_ n3_; (try clear hb); (try clear hb2); (try clear hk); (try clear hi)))
                                              go_ret
                                              exact ⟨by first | rfl | (simp [errW_none, errW_some] <;> rfl) | (simp only [← hji38]; first | rfl | (simp [errW_none, errW_some] <;> rfl)) | (simp [*, errW_none, errW_some] <;> rfl), by repeat (first | (with_reducible first | exact HB.out | apply below_alloc | apply pw_below_drewN | apply below_drew1 | refine below_set ?_ GE411.out) | exact HB.out)⟩
                                            · rw [if_neg c44] at H
                                              have c44b0 : (t433 == 0) = false := beq_eq_false_iff_ne.mpr c44
                                              have c44b1 : (t433 != 0) = true := bne_iff_ne.mpr c44
                                              obtain rfl := Option.some.inj H
                                              have p409 : 0 ≤ (a3 : Int) := of_decide_eq_true (by first | (with_reducible assumption) | assumption)
                                              have q409 : a3 < (l2.length : Int) := of_decide_eq_true (by first | (with_reducible assumption) | assumption)
                                              obtain ⟨ad409, e409, hx409_0, hx409_1⟩ := at_T41 HR2.out a3 p409 q409
                                              cases e409
                                              replace hx409_0 := (HB.out.cell (World.block_lt_of_cell? w _ hx409_0)).trans hx409_0
                                              replace hx409_1 := (HB.out.cell (World.block_lt_of_cell? w _ hx409_1)).trans hx409_1
                                              replace p409 := eq_true p409
                                              replace q409 := eq_true q409
                                              have p410 : 0 ≤ (a3 : Int) := of_decide_eq_true (by first | (with_reducible assumption) | assumption)
                                              have q410 : a3 < (l2.length : Int) := of_decide_eq_true (by first | (with_reducible assumption) | assumption)
                                              obtain ⟨ad410, e410, hx410_0, hx410_1⟩ := at_T41 HR2.out a3 p410 q410
                                              obtain rfl : ad409 = ad410 := (by injection e410)
                                              replace hx410_0 := (HB.out.cell (World.block_lt_of_cell? w _ hx410_0)).trans hx410_0
                                              replace hx410_1 := (HB.out.cell (World.block_lt_of_cell? w _ hx410_1)).trans hx410_1
                                              replace p410 := eq_true p410
                                              replace q410 := eq_true q410
                                              go_wp2_with (first | ((with_reducible refine gate_dst (N := 19) rfl ?_); (try (refine gate_guard (by rfl) ?_; dsimp only)); refine box_event ?hg (N := 19) ?hd (cs := #[.int .i64 0, .int .i64 0]) (t := 41) ?hr ?_; (case hd => rfl); (case hg => rfl); (case hr => first | (go_simp; done) | (go_simp; rfl)); intro gb411 hg w59 hbox hb; have n0_ := Aside0.mk (below_step (by repeat (first | (with_reducible first | exact HB.out | apply below_alloc | apply pw_below_drewN | apply below_drew1) | exact HB.out)) hb); have n1_ := Aside0.mk (hbox); have n2_ := Aside0.mk ((by rw [hg]; exact (below_size (by repeat (first | (with_reducible first | exact HB.out | apply below_alloc | apply pw_below_drewN | apply below_drew1) | exact HB.out))) : w.heap.size ≤ gb411)); have n3_ := Aside0.mk ((by rw [hg]; exact (below_size (by repeat (first | (with_reducible first | exact HB.out | apply below_alloc | apply pw_below_drewN | apply below_drew1) | exact HB.out))) : w.heap.size ≤ gb411)); clear HB; have HB := n0_; have BK411 := n1_; have GW411 := n2_; have GE411 := n3_; clear n0_ n1_ n2_ n3_; clear hb hbox hg; have hcz60_0 : w59.cell? ⟨gb411, 0, none⟩ = some (.int .i64 0) := (blk_cell BK411.out 0).trans rfl; have hcz60_1 : w59.cell? ⟨gb411, 1, none⟩ = some (.int .i64 0) := (blk_cell BK411.out 1).trans rfl; have hfz60_0 := blk_frozen BK411.out 0; have hfz60_1 := blk_frozen BK411.out 1) | ((with_reducible refine gate_store (t := 41) (p := 19) rfl ?_); refine store_event (t := 41) (p := 19) (v := ?vo_w61) (w1 := ((w59.setCell ⟨gb411, 0, none⟩ (.int .i64 ((rd_T41 l2 a3).f0))).setCell ⟨gb411, 1, none⟩ (.int .i64 ((rd_T41 l2 a3).f1)))) ?hg ?ho ?hn ?hr ?_; (case ho => rfl); (case hg => rfl); (case hn => rfl); (case hr => first | (go_simp; done) | (go_simp; rfl)); intro w61 hw; have n0_ : Aside0 (w61.heap[gb411]? = some (.cells #[.int .i64 ((rd_T41 l2 a3).f0), .int .i64 ((rd_T41 l2 a3).f1)] 41 (0, 0))) := ⟨(by rw [hw]; exact (by (with_reducible repeat (first | refine blk_drewN ?_ _ | refine blk_drew ?_ | refine blk_alloc ?_ _)); refine blk_put (cs := #[.int .i64 ((rd_T41 l2 a3).f0), .int .i64 0]) ?_ 1 _ rfl; (with_reducible repeat (first | refine blk_drewN ?_ _ | refine blk_drew ?_ | refine blk_alloc ?_ _)); refine blk_put (cs := #[.int .i64 0, .int .i64 0]) ?_ 0 _ rfl; (with_reducible repeat (first | refine blk_drewN ?_ _ | refine blk_drew ?_ | refine blk_alloc ?_ _)); exact BK411.out))⟩; have n1_ : Aside0 (Below w.heap.size w w61) := ⟨(by rw [hw]; exact (by repeat (first | (with_reducible first | exact HB.out | apply below_alloc | apply pw_below_drewN | apply below_drew1 | refine below_set ?_ GE411.out) | exact HB.out)))⟩; clear hw; clear BK411; clear HB; have BK411 := n0_; have HB := n1_; clear n0_ n1_; have q62 : (a3 : Int) ≤ ((l2.length : Int) : Int) := of_decide_eq_true (by first | (with_reducible assumption) | assumption); obtain ⟨i062, hi062, _, hsz62, _⟩ := info_parts info41; have hroom62 : l2.length ≤ c2 := HC2.out; have hC62 : Kd.C k41 _ (some ad409) l2.length l2 := HR2.out; have hcut62 := cut_to (P := Try.prog) 42 41 .i64 Try.underlying42 hi062 (some ad409) l2.length c2 a3 (of_decide_eq_true (by first | (with_reducible assumption) | assumption)) q62 hroom62; have hr62 := Kd.C_take (m := (a3 : Int).toNat) hC62 (by omega); have hy62 : y412.length = (a3 : Int).toNat := (by rw [Ny412.out, List.length_take]; omega); rw [← Ny412.out] at hr62; rw [← hy62] at hcut62; have HR415 := Aside0.mk hr62; have HC415 := Aside0.mk (show y412.length ≤ c2 from by omega); clear hr62 hC62 hroom62 hi062 hsz62; have KY62 := Aside0.mk hy62; clear hy62; replace q62 := eq_true q62) | ((with_reducible refine gate_builtin (b := .append) (xs := #[.tmp 104, .tmp 107]) rfl ?_); (try (refine gate_guard (by rfl) ?_; dsimp only)); at_builtin; refine Kd.R_append_rows k41 (w0 := w) w.heap.size rfl (.tmp 104) (.tmp 107) 42 41 (.agg #[(.int .i64 0), (.int .i64 0)]) 16 rfl Try.underlying42 info41 rfl (by decide) (by omega) (.slice none 0 0) ([] : List (S41)) y412 _ _ _ (fun k_ => k_ ≠ gb411) (fun _ => False) rfl rfl ?aO ?aR (fun _ _ h => h) (fun _ h => h.elim) ?aF ?aB ?aS ?aL ?_; (case aR => repeat (first | exact (Kd.C_below HR415.out HB.out) | (with_reducible refine Kd.C_alloc ?_ _) | (with_reducible refine Kd.C_drewN ?_ _) | (with_reducible refine Kd.C_drew ?_))); (case aB => exact (by repeat (first | (with_reducible first | exact HB.out | apply below_alloc | apply pw_below_drewN | apply below_drew1 | refine below_set ?_ GE411.out) | exact HB.out))); (case aF => exact (fun k_ hk => Kd.freshB (g := gb411) (o := .cells #[.int .i64 ((rd_T41 l2 a3).f0), .int .i64 ((rd_T41 l2 a3).f1)] 41 (0, 0)) (by (with_reducible repeat (first | refine blk_drewN ?_ _ | refine blk_drew ?_ | refine blk_alloc ?_ _)); exact BK411.out) k_ hk)); (case aO => exact ((Kd.R_nil _ _ _ _ (fun k_ => k_ ≠ gb411)))); (case aS => exact (below_size (by repeat (first | (with_reducible first | exact HB.out | apply below_alloc | apply pw_below_drewN | apply below_drew1 | refine below_set ?_ GE411.out) | exact HB.out)))); (case aL => have := LMc36.out; omega); intro v417 w63 ho hb hg hat; rw [← Ny416.out] at ho; have n0_ := Aside0.mk (blk_grown (g := gb411) (o := .cells #[.int .i64 ((rd_T41 l2 a3).f0), .int .i64 ((rd_T41 l2 a3).f1)] 41 (0, 0)) (by (with_reducible repeat (first | refine blk_drewN ?_ _ | refine blk_drew ?_ | refine blk_alloc ?_ _)); exact BK411.out) hg (by simp [Value.ownBlock])); have n1_ := Aside0.mk (hb); have n2_ := Aside0.mk (ho); clear BK411; clear HB; have BK411 := n0_; have HB := n1_; have HO418 := n2_; clear n0_ n1_ n2_; clear ho hb hg hat; have hcz64_0 : w63.cell? ⟨gb411, 0, none⟩ = some (.int .i64 ((rd_T41 l2 a3).f0)) := (blk_cell BK411.out 0).trans rfl; have hcz64_1 : w63.cell? ⟨gb411, 1, none⟩ = some (.int .i64 ((rd_T41 l2 a3).f1)) := (blk_cell BK411.out 1).trans rfl; have hfz64_0 := blk_frozen BK411.out 0; have hfz64_1 := blk_frozen BK411.out 1) | ((with_reducible refine gate_dst (N := 123) rfl ?_); (try (refine gate_guard (by rfl) ?_; dsimp only)); refine Kd.R_lit k41 _ 41 ?hg (N := 123) ?hd (xs := ([(⟨(rd_T41 l2 a3).f0, a4⟩ : S41), (⟨wrap64 (((rd_T41 l2 a3).f0) + a4), wrap64 (((rd_T41 l2 a3).f1) - a4)⟩ : S41)] : List (S41))) (inner := [.int .i64 ((rd_T41 l2 a3).f0), .int .i64 a4, .int .i64 (wrap64 (((rd_T41 l2 a3).f0) + a4)), .int .i64 (wrap64 (((rd_T41 l2 a3).f1) - a4))]) (ok := fun _ => True) (okp := fun _ => True) ?hr ?hp (fun _ hk => hk) trivial (Below.refl _ _) (Nat.le_refl _) (by simp) ?_; (case hd => rfl); (case hg => rfl); (case hr => first | (go_simp; done) | (go_simp; rfl)); (case hp => exact (Reps.c2 (show Kd.M k41 _ _ _ (⟨(rd_T41 l2 a3).f0, a4⟩ : S41) [.int .i64 ((rd_T41 l2 a3).f0), .int .i64 a4] from (k41_mkM _ _ _ (⟨(rd_T41 l2 a3).f0, a4⟩ : S41) )) (Reps.c2 (show Kd.M k41 _ _ _ (⟨wrap64 (((rd_T41 l2 a3).f0) + a4), wrap64 (((rd_T41 l2 a3).f1) - a4)⟩ : S41) [.int .i64 (wrap64 (((rd_T41 l2 a3).f0) + a4)), .int .i64 (wrap64 (((rd_T41 l2 a3).f1) - a4))] from (k41_mkM _ _ _ (⟨wrap64 (((rd_T41 l2 a3).f0) + a4), wrap64 (((rd_T41 l2 a3).f1) - a4)⟩ : S41) )) (Reps.none _ _)))); intro v420 w65 ho66 hb hg_ hnew_; clear hg_ hnew_; (first | rw [← Ny419.out] at ho66 | (simp only [Int.reduceToNat] at ho66; rw [← Ny419.out] at ho66)); have n0_ := Aside0.mk (Kd.R_elder' (by (with_reducible repeat (first | apply Kd.R_alloc | apply Kd.R_drewN | apply Kd.R_drew)); exact HO418.out) (Kd.R_base ho66) hb); have n1_ := Aside0.mk (Kd.R_lower (Kd.R_newB (Kd.R_new' ho66 (Kd.R_lt (by (with_reducible repeat (first | apply Kd.R_alloc | apply Kd.R_drewN | apply Kd.R_drew)); exact HO418.out))) (g := gb411) (o := .cells #[.int .i64 ((rd_T41 l2 a3).f0), .int .i64 ((rd_T41 l2 a3).f1)] 41 (0, 0)) (by (with_reducible repeat (first | refine blk_drewN ?_ _ | refine blk_drew ?_ | refine blk_alloc ?_ _)); exact BK411.out)) (below_size (by repeat (first | (with_reducible first | exact HB.out | apply below_alloc | apply pw_below_drewN | apply below_drew1 | refine below_set ?_ GE411.out) | exact HB.out)))); have n2_ := Aside0.mk (blk_below (g := gb411) (o := .cells #[.int .i64 ((rd_T41 l2 a3).f0), .int .i64 ((rd_T41 l2 a3).f1)] 41 (0, 0)) (by (with_reducible repeat (first | refine blk_drewN ?_ _ | refine blk_drew ?_ | refine blk_alloc ?_ _)); exact BK411.out) hb); have n3_ := Aside0.mk (below_step (by repeat (first | (with_reducible first | exact HB.out | apply below_alloc | apply pw_below_drewN | apply below_drew1 | refine below_set ?_ GE411.out) | exact HB.out)) hb); clear HO418; clear BK411; clear HB; have HO418 := n0_; have HO421 := n1_; have BK411 := n2_; have HB := n3_; clear n0_ n1_ n2_ n3_; clear hb ho66; obtain ⟨Ao68, co68, eo68⟩ := Kd.R_slice HO421.out; subst eo68) | ((with_reducible refine gate_builtin (b := .append) (xs := #[.tmp 109, .tmp 123]) rfl ?_); (try (refine gate_guard (by rfl) ?_; dsimp only)); at_builtin; refine Kd.R_append_rows k41 (w0 := w) w.heap.size rfl (.tmp 109) (.tmp 123) 42 41 (.agg #[(.int .i64 0), (.int .i64 0)]) 16 rfl Try.underlying42 info41 rfl (by decide) (by omega) v417 y416 y419 _ _ _ (fun k_ => some k_ ≠ (.slice Ao68 y419.length co68 : Value).ownBlock ∧ k_ ≠ gb411) (fun _ => False) rfl rfl ?aO ?aR (fun _ _ h => h) (fun _ h => h.elim) ?aF ?aB ?aS ?aL ?_; (case aR => repeat (first | exact (Kd.R_reads' HO421.out).2.2 | (with_reducible refine Kd.C_alloc ?_ _) | (with_reducible refine Kd.C_drewN ?_ _) | (with_reducible refine Kd.C_drew ?_))); (case aB => exact (by repeat (first | (with_reducible first | exact HB.out | apply below_alloc | apply pw_below_drewN | apply below_drew1 | refine below_set ?_ GE411.out) | exact HB.out))); (case aF => exact (fun k_ hk => ⟨Kd.fresh' (Kd.R_lt (by (with_reducible repeat (first | apply Kd.R_alloc | apply Kd.R_drewN | apply Kd.R_drew)); exact HO421.out)) k_ hk, Kd.freshB (g := gb411) (o := .cells #[.int .i64 ((rd_T41 l2 a3).f0), .int .i64 ((rd_T41 l2 a3).f1)] 41 (0, 0)) (by (with_reducible repeat (first | refine blk_drewN ?_ _ | refine blk_drew ?_ | refine blk_alloc ?_ _)); exact BK411.out) k_ hk⟩)); (case aO => exact (by (with_reducible repeat (first | apply Kd.R_alloc | apply Kd.R_drewN | apply Kd.R_drew)); exact Kd.R_mono HO418.out (fun _ hk => ⟨hk.2, hk.1⟩))); (case aS => exact (below_size (by repeat (first | (with_reducible first | exact HB.out | apply below_alloc | apply pw_below_drewN | apply below_drew1 | refine below_set ?_ GE411.out) | exact HB.out)))); (case aL => have := LMc37.out; omega); intro v423 w67 ho hb hg hat; rw [← Ny422.out] at ho; have n0_ := Aside0.mk (blk_grown (g := gb411) (o := .cells #[.int .i64 ((rd_T41 l2 a3).f0), .int .i64 ((rd_T41 l2 a3).f1)] 41 (0, 0)) (by (with_reducible repeat (first | refine blk_drewN ?_ _ | refine blk_drew ?_ | refine blk_alloc ?_ _)); exact BK411.out) hg (Kd.R_away HO418.out (fun _ hk => hk.1))); have n1_ := Aside0.mk (Kd.R_after (ok := (fun k_ => k_ ≠ gb411)) (by (with_reducible repeat (first | apply Kd.R_alloc | apply Kd.R_drewN | apply Kd.R_drew)); exact Kd.R_mono HO421.out (fun _ hk => ⟨hk.2, hk.1.2⟩)) hg hat); have n2_ := Aside0.mk (hb); have n3_ := Aside0.mk (ho); clear BK411; clear HO421; clear HB; clear HO418; have BK411 := n0_; have HO421 := n1_; have HB := n2_; have HO424 := n3_; clear n0_ n1_ n2_ n3_; clear ho hb hg hat; have q69 : ((ji38) : Int) ≤ ((l2.length : Int) : Int) := of_decide_eq_true (by first | (with_reducible assumption) | assumption); obtain ⟨i069, hi069, _, hsz69, _⟩ := info_parts info41; have hroom69 : l2.length ≤ c2 := HC2.out; have hC69 : Kd.C k41 _ (some ad409) l2.length l2 := HR2.out; have q069 : (0 : Int) ≤ ((ji38) : Int) := of_decide_eq_true (by first | (with_reducible assumption) | assumption); have hcut69 := cut_from (P := Try.prog) 42 41 .i64 Try.underlying42 hi069 2 hsz69 (some ad409) l2.length c2 (ji38) q069 q69; have hr69 := Kd.C_drop (m := ((ji38) : Int).toNat) (c := c2) hC69 (by omega) hroom69; obtain ⟨A69, hA69⟩ : ∃ A1, A1 = (if c2 = ((ji38) : Int).toNat then (some ad409) else ((some ad409) : Option Addr).map (·.add (((ji38) : Int).toNat * 2))) := ⟨_, rfl⟩; obtain ⟨c69, hc69⟩ : ∃ c1, c1 = c2 - ((ji38) : Int).toNat := ⟨_, rfl⟩; have hy69 : y425.length = l2.length - ((ji38) : Int).toNat := (by rw [Ny425.out, List.length_drop] <;> omega); rw [show (l2).drop ((ji38) : Int).toNat = y425 from Ny425.out.symm] at hr69; replace hr69 : Kd.C k41 _ A69 y425.length y425 := (by rw [hA69]; exact hr69); rw [← hy69, ← hA69, ← hc69] at hcut69; have HR428 := Aside0.mk hr69; have HC428 := Aside0.mk (show y425.length ≤ c69 from by rw [hy69, hc69]; exact Nat.sub_le_sub_right hroom69 _); clear hr69 hC69 hroom69 hi069 hsz69 hc69; have KY69 := Aside0.mk hy69; have KA69 := Aside0.mk hA69; clear hy69 hA69; replace q69 := eq_true q69) | ((with_reducible refine gate_builtin (b := .append) (xs := #[.tmp 125, .tmp 129]) rfl ?_); (try (refine gate_guard (by rfl) ?_; dsimp only)); at_builtin; refine Kd.R_append_rows k41 (w0 := w) w.heap.size rfl (.tmp 125) (.tmp 129) 42 41 (.agg #[(.int .i64 0), (.int .i64 0)]) 16 rfl Try.underlying42 info41 rfl (by decide) (by omega) v423 y422 y425 _ _ _ (fun k_ => some k_ ≠ (.slice Ao68 y419.length co68 : Value).ownBlock ∧ k_ ≠ gb411) (fun _ => False) rfl rfl ?aO ?aR (fun _ _ h => h) (fun _ h => h.elim) ?aF ?aB ?aS ?aL ?_; (case aR => repeat (first | exact (Kd.C_below HR428.out HB.out) | (with_reducible refine Kd.C_alloc ?_ _) | (with_reducible refine Kd.C_drewN ?_ _) | (with_reducible refine Kd.C_drew ?_))); (case aB => exact (by repeat (first | (with_reducible first | exact HB.out | apply below_alloc | apply pw_below_drewN | apply below_drew1 | refine below_set ?_ GE411.out) | exact HB.out))); (case aF => exact (fun k_ hk => ⟨Kd.fresh' (Kd.R_lt (by (with_reducible repeat (first | apply Kd.R_alloc | apply Kd.R_drewN | apply Kd.R_drew)); exact HO421.out)) k_ hk, Kd.freshB (g := gb411) (o := .cells #[.int .i64 ((rd_T41 l2 a3).f0), .int .i64 ((rd_T41 l2 a3).f1)] 41 (0, 0)) (by (with_reducible repeat (first | refine blk_drewN ?_ _ | refine blk_drew ?_ | refine blk_alloc ?_ _)); exact BK411.out) k_ hk⟩)); (case aO => exact (by (with_reducible repeat (first | apply Kd.R_alloc | apply Kd.R_drewN | apply Kd.R_drew)); exact HO424.out)); (case aS => exact (below_size (by repeat (first | (with_reducible first | exact HB.out | apply below_alloc | apply pw_below_drewN | apply below_drew1 | refine below_set ?_ GE411.out) | exact HB.out)))); (case aL => have := LMc41.out; omega); intro v430 w70 ho hb hg hat; rw [← Ny429.out] at ho; have n0_ := Aside0.mk (blk_grown (g := gb411) (o := .cells #[.int .i64 ((rd_T41 l2 a3).f0), .int .i64 ((rd_T41 l2 a3).f1)] 41 (0, 0)) (by (with_reducible repeat (first | refine blk_drewN ?_ _ | refine blk_drew ?_ | refine blk_alloc ?_ _)); exact BK411.out) hg (Kd.R_away HO424.out (fun _ hk => hk.2))); have n1_ := Aside0.mk (Kd.R_after (ok := (fun k_ => k_ ≠ gb411)) (by (with_reducible repeat (first | apply Kd.R_alloc | apply Kd.R_drewN | apply Kd.R_drew)); exact HO421.out) hg hat); have n2_ := Aside0.mk (hb); have n3_ := Aside0.mk (ho); clear BK411; clear HO421; clear HB; clear HO424; have BK411 := n0_; have HO421 := n1_; have HB := n2_; have HO431 := n3_; clear n0_ n1_ n2_ n3_; clear ho hb hg hat; obtain ⟨Ao71, co71, eo71⟩ := Kd.R_slice HO431.out; subst eo71) | ((with_reducible refine gate_callee (f := 21) rfl ?_); refine goesL_ (some 135) rfl rfl Try.func21 (by kernel_rfl) rfl #[.int .i64 a0, .int .u64 a1, .slice Ao71 y429.length co71] rfl (by (try simp only [List.map_toArray, List.map_cons, List.map_nil]); first | done | rfl | (simp only [List.length_drop, List.length_take]; rfl)) ?_; (with_reducible refine (format_Get.calls k2 a0 a1 _ _ y429 t432 t433 _ ?side1 ?side2 A42.out).mono ?_); (case side1 => repeat (first | exact (Kd.R_reads' HO431.out).2.2 | (with_reducible refine Kd.C_alloc ?_ _) | (with_reducible refine Kd.C_drewN ?_ _) | (with_reducible refine Kd.C_drew ?_))); (case side2 => exact (Kd.R_reads' HO431.out).2.1); rintro e w72 ⟨rfl, hb⟩; refine ⟨_, rfl, ?_⟩; have n0_ := Aside0.mk (Kd.R_below (by (with_reducible repeat (first | apply Kd.R_alloc | apply Kd.R_drewN | apply Kd.R_drew)); exact HO421.out) hb); have n1_ := Aside0.mk (Kd.R_below (by (with_reducible repeat (first | apply Kd.R_alloc | apply Kd.R_drewN | apply Kd.R_drew)); exact HO431.out) hb); have n2_ := Aside0.mk (blk_below (g := gb411) (o := .cells #[.int .i64 ((rd_T41 l2 a3).f0), .int .i64 ((rd_T41 l2 a3).f1)] 41 (0, 0)) (by (with_reducible repeat (first | refine blk_drewN ?_ _ | refine blk_drew ?_ | refine blk_alloc ?_ _)); exact BK411.out) hb); have n3_ := Aside0.mk (below_step (by repeat (first | (with_reducible first | exact HB.out | apply below_alloc | apply pw_below_drewN | apply below_drew1 | refine below_set ?_ GE411.out) | exact HB.out)) hb); clear HO421; clear HO431; clear BK411; clear HB; have HO421 := n0_; have HO431 := n1_; have BK411 := n2_; have HB := n3_; clear n0_ n1_ n2_ n3_; (try clear hb); (try clear hb2); (try clear hk); (try clear hi)))
                                              go_ret
                                              exact ⟨by first | rfl | (simp [errW_none, errW_some] <;> rfl) | (simp only [← hji38]; first | rfl | (simp [errW_none, errW_some] <;> rfl)) | (simp [*, errW_none, errW_some] <;> rfl), by repeat (first | (with_reducible first | exact HB.out | apply below_alloc | apply pw_below_drewN | apply below_drew1 | refine below_set ?_ GE411.out) | exact HB.out)⟩
                                          · replace c43 := Bool.eq_false_iff.mpr c43
                                            subst c43
                                            have H1 : (some false) = some r := by rw [if_neg (show ¬ (false = true) by decide)] at H; exact H
                                            clear H
                                            have H := H1
                                            clear H1
                                            obtain rfl := Option.some.inj H
                                            have p409 : 0 ≤ (a3 : Int) := of_decide_eq_true (by first | (with_reducible assumption) | assumption)
                                            have q409 : a3 < (l2.length : Int) := of_decide_eq_true (by first | (with_reducible assumption) | assumption)
                                            obtain ⟨ad409, e409, hx409_0, hx409_1⟩ := at_T41 HR2.out a3 p409 q409
                                            cases e409
                                            replace hx409_0 := (HB.out.cell (World.block_lt_of_cell? w _ hx409_0)).trans hx409_0
                                            replace hx409_1 := (HB.out.cell (World.block_lt_of_cell? w _ hx409_1)).trans hx409_1
                                            replace p409 := eq_true p409
                                            replace q409 := eq_true q409
                                            have p410 : 0 ≤ (a3 : Int) := of_decide_eq_true (by first | (with_reducible assumption) | assumption)
                                            have q410 : a3 < (l2.length : Int) := of_decide_eq_true (by first | (with_reducible assumption) | assumption)
                                            obtain ⟨ad410, e410, hx410_0, hx410_1⟩ := at_T41 HR2.out a3 p410 q410
                                            obtain rfl : ad409 = ad410 := (by injection e410)
                                            replace hx410_0 := (HB.out.cell (World.block_lt_of_cell? w _ hx410_0)).trans hx410_0
                                            replace hx410_1 := (HB.out.cell (World.block_lt_of_cell? w _ hx410_1)).trans hx410_1
                                            replace p410 := eq_true p410
                                            replace q410 := eq_true q410
                                            go_wp2_with (first | ((with_reducible refine gate_dst (N := 19) rfl ?_); (try (refine gate_guard (by rfl) ?_; dsimp only)); refine box_event ?hg (N := 19) ?hd (cs := #[.int .i64 0, .int .i64 0]) (t := 41) ?hr ?_; (case hd => rfl); (case hg => rfl); (case hr => first | (go_simp; done) | (go_simp; rfl)); intro gb411 hg w73 hbox hb; have n0_ := Aside0.mk (below_step (by repeat (first | (with_reducible first | exact HB.out | apply below_alloc | apply pw_below_drewN | apply below_drew1) | exact HB.out)) hb); have n1_ := Aside0.mk (hbox); have n2_ := Aside0.mk ((by rw [hg]; exact (below_size (by repeat (first | (with_reducible first | exact HB.out | apply below_alloc | apply pw_below_drewN | apply below_drew1) | exact HB.out))) : w.heap.size ≤ gb411)); have n3_ := Aside0.mk ((by rw [hg]; exact (below_size (by repeat (first | (with_reducible first | exact HB.out | apply below_alloc | apply pw_below_drewN | apply below_drew1) | exact HB.out))) : w.heap.size ≤ gb411)); clear HB; have HB := n0_; have BK411 := n1_; have GW411 := n2_; have GE411 := n3_; clear n0_ n1_ n2_ n3_; clear hb hbox hg; have hcz74_0 : w73.cell? ⟨gb411, 0, none⟩ = some (.int .i64 0) := (blk_cell BK411.out 0).trans rfl; have hcz74_1 : w73.cell? ⟨gb411, 1, none⟩ = some (.int .i64 0) := (blk_cell BK411.out 1).trans rfl; have hfz74_0 := blk_frozen BK411.out 0; have hfz74_1 := blk_frozen BK411.out 1) | ((with_reducible refine gate_store (t := 41) (p := 19) rfl ?_); refine store_event (t := 41) (p := 19) (v := ?vo_w75) (w1 := ((w73.setCell ⟨gb411, 0, none⟩ (.int .i64 ((rd_T41 l2 a3).f0))).setCell ⟨gb411, 1, none⟩ (.int .i64 ((rd_T41 l2 a3).f1)))) ?hg ?ho ?hn ?hr ?_; (case ho => rfl); (case hg => rfl); (case hn => rfl); (case hr => first | (go_simp; done) | (go_simp; rfl)); intro w75 hw; have n0_ : Aside0 (w75.heap[gb411]? = some (.cells #[.int .i64 ((rd_T41 l2 a3).f0), .int .i64 ((rd_T41 l2 a3).f1)] 41 (0, 0))) := ⟨(by rw [hw]; exact (by (with_reducible repeat (first | refine blk_drewN ?_ _ | refine blk_drew ?_ | refine blk_alloc ?_ _)); refine blk_put (cs := #[.int .i64 ((rd_T41 l2 a3).f0), .int .i64 0]) ?_ 1 _ rfl; (with_reducible repeat (first | refine blk_drewN ?_ _ | refine blk_drew ?_ | refine blk_alloc ?_ _)); refine blk_put (cs := #[.int .i64 0, .int .i64 0]) ?_ 0 _ rfl; (with_reducible repeat (first | refine blk_drewN ?_ _ | refine blk_drew ?_ | refine blk_alloc ?_ _)); exact BK411.out))⟩; have n1_ : Aside0 (Below w.heap.size w w75) := ⟨(by rw [hw]; exact (by repeat (first | (with_reducible first | exact HB.out | apply below_alloc | apply pw_below_drewN | apply below_drew1 | refine below_set ?_ GE411.out) | exact HB.out)))⟩; clear hw; clear BK411; clear HB; have BK411 := n0_; have HB := n1_; clear n0_ n1_; have q76 : (a3 : Int) ≤ ((l2.length : Int) : Int) := of_decide_eq_true (by first | (with_reducible assumption) | assumption); obtain ⟨i076, hi076, _, hsz76, _⟩ := info_parts info41; have hroom76 : l2.length ≤ c2 := HC2.out; have hC76 : Kd.C k41 _ (some ad409) l2.length l2 := HR2.out; have hcut76 := cut_to (P := Try.prog) 42 41 .i64 Try.underlying42 hi076 (some ad409) l2.length c2 a3 (of_decide_eq_true (by first | (with_reducible assumption) | assumption)) q76 hroom76; have hr76 := Kd.C_take (m := (a3 : Int).toNat) hC76 (by omega); have hy76 : y412.length = (a3 : Int).toNat := (by rw [Ny412.out, List.length_take]; omega); rw [← Ny412.out] at hr76; rw [← hy76] at hcut76; have HR415 := Aside0.mk hr76; have HC415 := Aside0.mk (show y412.length ≤ c2 from by omega); clear hr76 hC76 hroom76 hi076 hsz76; have KY76 := Aside0.mk hy76; clear hy76; replace q76 := eq_true q76) | ((with_reducible refine gate_builtin (b := .append) (xs := #[.tmp 104, .tmp 107]) rfl ?_); (try (refine gate_guard (by rfl) ?_; dsimp only)); at_builtin; refine Kd.R_append_rows k41 (w0 := w) w.heap.size rfl (.tmp 104) (.tmp 107) 42 41 (.agg #[(.int .i64 0), (.int .i64 0)]) 16 rfl Try.underlying42 info41 rfl (by decide) (by omega) (.slice none 0 0) ([] : List (S41)) y412 _ _ _ (fun k_ => k_ ≠ gb411) (fun _ => False) rfl rfl ?aO ?aR (fun _ _ h => h) (fun _ h => h.elim) ?aF ?aB ?aS ?aL ?_; (case aR => repeat (first | exact (Kd.C_below HR415.out HB.out) | (with_reducible refine Kd.C_alloc ?_ _) | (with_reducible refine Kd.C_drewN ?_ _) | (with_reducible refine Kd.C_drew ?_))); (case aB => exact (by repeat (first | (with_reducible first | exact HB.out | apply below_alloc | apply pw_below_drewN | apply below_drew1 | refine below_set ?_ GE411.out) | exact HB.out))); (case aF => exact (fun k_ hk => Kd.freshB (g := gb411) (o := .cells #[.int .i64 ((rd_T41 l2 a3).f0), .int .i64 ((rd_T41 l2 a3).f1)] 41 (0, 0)) (by (with_reducible repeat (first | refine blk_drewN ?_ _ | refine blk_drew ?_ | refine blk_alloc ?_ _)); exact BK411.out) k_ hk)); (case aO => exact ((Kd.R_nil _ _ _ _ (fun k_ => k_ ≠ gb411)))); (case aS => exact (below_size (by repeat (first | (with_reducible first | exact HB.out | apply below_alloc | apply pw_below_drewN | apply below_drew1 | refine below_set ?_ GE411.out) | exact HB.out)))); (case aL => have := LMc36.out; omega); intro v417 w77 ho hb hg hat; rw [← Ny416.out] at ho; have n0_ := Aside0.mk (blk_grown (g := gb411) (o := .cells #[.int .i64 ((rd_T41 l2 a3).f0), .int .i64 ((rd_T41 l2 a3).f1)] 41 (0, 0)) (by (with_reducible repeat (first | refine blk_drewN ?_ _ | refine blk_drew ?_ | refine blk_alloc ?_ _)); exact BK411.out) hg (by simp [Value.ownBlock])); have n1_ := Aside0.mk (hb); have n2_ := Aside0.mk (ho); clear BK411; clear HB; have BK411 := n0_; have HB := n1_; have HO418 := n2_; clear n0_ n1_ n2_; clear ho hb hg hat; have hcz78_0 : w77.cell? ⟨gb411, 0, none⟩ = some (.int .i64 ((rd_T41 l2 a3).f0)) := (blk_cell BK411.out 0).trans rfl; have hcz78_1 : w77.cell? ⟨gb411, 1, none⟩ = some (.int .i64 ((rd_T41 l2 a3).f1)) := (blk_cell BK411.out 1).trans rfl; have hfz78_0 := blk_frozen BK411.out 0; have hfz78_1 := blk_frozen BK411.out 1) | ((with_reducible refine gate_dst (N := 123) rfl ?_); (try (refine gate_guard (by rfl) ?_; dsimp only)); refine Kd.R_lit k41 _ 41 ?hg (N := 123) ?hd (xs := ([(⟨(rd_T41 l2 a3).f0, a4⟩ : S41), (⟨wrap64 (((rd_T41 l2 a3).f0) + a4), wrap64 (((rd_T41 l2 a3).f1) - a4)⟩ : S41)] : List (S41))) (inner := [.int .i64 ((rd_T41 l2 a3).f0), .int .i64 a4, .int .i64 (wrap64 (((rd_T41 l2 a3).f0) + a4)), .int .i64 (wrap64 (((rd_T41 l2 a3).f1) - a4))]) (ok := fun _ => True) (okp := fun _ => True) ?hr ?hp (fun _ hk => hk) trivial (Below.refl _ _) (Nat.le_refl _) (by simp) ?_; (case hd => rfl); (case hg => rfl); (case hr => first | (go_simp; done) | (go_simp; rfl)); (case hp => exact (Reps.c2 (show Kd.M k41 _ _ _ (⟨(rd_T41 l2 a3).f0, a4⟩ : S41) [.int .i64 ((rd_T41 l2 a3).f0), .int .i64 a4] from (k41_mkM _ _ _ (⟨(rd_T41 l2 a3).f0, a4⟩ : S41) )) (Reps.c2 (show Kd.M k41 _ _ _ (⟨wrap64 (((rd_T41 l2 a3).f0) + a4), wrap64 (((rd_T41 l2 a3).f1) - a4)⟩ : S41) [.int .i64 (wrap64 (((rd_T41 l2 a3).f0) + a4)), .int .i64 (wrap64 (((rd_T41 l2 a3).f1) - a4))] from (k41_mkM _ _ _ (⟨wrap64 (((rd_T41 l2 a3).f0) + a4), wrap64 (((rd_T41 l2 a3).f1) - a4)⟩ : S41) )) (Reps.none _ _)))); intro v420 w79 ho80 hb hg_ hnew_; clear hg_ hnew_; (first | rw [← Ny419.out] at ho80 | (simp only [Int.reduceToNat] at ho80; rw [← Ny419.out] at ho80)); have n0_ := Aside0.mk (Kd.R_elder' (by (with_reducible repeat (first | apply Kd.R_alloc | apply Kd.R_drewN | apply Kd.R_drew)); exact HO418.out) (Kd.R_base ho80) hb); have n1_ := Aside0.mk (Kd.R_lower (Kd.R_newB (Kd.R_new' ho80 (Kd.R_lt (by (with_reducible repeat (first | apply Kd.R_alloc | apply Kd.R_drewN | apply Kd.R_drew)); exact HO418.out))) (g := gb411) (o := .cells #[.int .i64 ((rd_T41 l2 a3).f0), .int .i64 ((rd_T41 l2 a3).f1)] 41 (0, 0)) (by (with_reducible repeat (first | refine blk_drewN ?_ _ | refine blk_drew ?_ | refine blk_alloc ?_ _)); exact BK411.out)) (below_size (by repeat (first | (with_reducible first | exact HB.out | apply below_alloc | apply pw_below_drewN | apply below_drew1 | refine below_set ?_ GE411.out) | exact HB.out)))); have n2_ := Aside0.mk (blk_below (g := gb411) (o := .cells #[.int .i64 ((rd_T41 l2 a3).f0), .int .i64 ((rd_T41 l2 a3).f1)] 41 (0, 0)) (by (with_reducible repeat (first | refine blk_drewN ?_ _ | refine blk_drew ?_ | refine blk_alloc ?_ _)); exact BK411.out) hb); have n3_ := Aside0.mk (below_step (by repeat (first | (with_reducible first | exact HB.out | apply below_alloc | apply pw_below_drewN | apply below_drew1 | refine below_set ?_ GE411.out) | exact HB.out)) hb); clear HO418; clear BK411; clear HB; have HO418 := n0_; have HO421 := n1_; have BK411 := n2_; have HB := n3_; clear n0_ n1_ n2_ n3_; clear hb ho80; obtain ⟨Ao82, co82, eo82⟩ := Kd.R_slice HO421.out; subst eo82) | ((with_reducible refine gate_builtin (b := .append) (xs := #[.tmp 109, .tmp 123]) rfl ?_); (try (refine gate_guard (by rfl) ?_; dsimp only)); at_builtin; refine Kd.R_append_rows k41 (w0 := w) w.heap.size rfl (.tmp 109) (.tmp 123) 42 41 (.agg #[(.int .i64 0), (.int .i64 0)]) 16 rfl Try.underlying42 info41 rfl (by decide) (by omega) v417 y416 y419 _ _ _ (fun k_ => some k_ ≠ (.slice Ao82 y419.length co82 : Value).ownBlock ∧ k_ ≠ gb411) (fun _ => False) rfl rfl ?aO ?aR (fun _ _ h => h) (fun _ h => h.elim) ?aF ?aB ?aS ?aL ?_; (case aR => repeat (first | exact (Kd.R_reads' HO421.out).2.2 | (with_reducible refine Kd.C_alloc ?_ _) | (with_reducible refine Kd.C_drewN ?_ _) | (with_reducible refine Kd.C_drew ?_))); (case aB => exact (by repeat (first | (with_reducible first | exact HB.out | apply below_alloc | apply pw_below_drewN | apply below_drew1 | refine below_set ?_ GE411.out) | exact HB.out))); (case aF => exact (fun k_ hk => ⟨Kd.fresh' (Kd.R_lt (by (with_reducible repeat (first | apply Kd.R_alloc | apply Kd.R_drewN | apply Kd.R_drew)); exact HO421.out)) k_ hk, Kd.freshB (g := gb411) (o := .cells #[.int .i64 ((rd_T41 l2 a3).f0), .int .i64 ((rd_T41 l2 a3).f1)] 41 (0, 0)) (by (with_reducible repeat (first | refine blk_drewN ?_ _ | refine blk_drew ?_ | refine blk_alloc ?_ _)); exact BK411.out) k_ hk⟩)); (case aO => exact (by (with_reducible repeat (first | apply Kd.R_alloc | apply Kd.R_drewN | apply Kd.R_drew)); exact Kd.R_mono HO418.out (fun _ hk => ⟨hk.2, hk.1⟩))); (case aS => exact (below_size (by repeat (first | (with_reducible first | exact HB.out | apply below_alloc | apply pw_below_drewN | apply below_drew1 | refine below_set ?_ GE411.out) | exact HB.out)))); (case aL => have := LMc37.out; omega); intro v423 w81 ho hb hg hat; rw [← Ny422.out] at ho; have n0_ := Aside0.mk (blk_grown (g := gb411) (o := .cells #[.int .i64 ((rd_T41 l2 a3).f0), .int .i64 ((rd_T41 l2 a3).f1)] 41 (0, 0)) (by (with_reducible repeat (first | refine blk_drewN ?_ _ | refine blk_drew ?_ | refine blk_alloc ?_ _)); exact BK411.out) hg (Kd.R_away HO418.out (fun _ hk => hk.1))); have n1_ := Aside0.mk (Kd.R_after (ok := (fun k_ => k_ ≠ gb411)) (by (with_reducible repeat (first | apply Kd.R_alloc | apply Kd.R_drewN | apply Kd.R_drew)); exact Kd.R_mono HO421.out (fun _ hk => ⟨hk.2, hk.1.2⟩)) hg hat); have n2_ := Aside0.mk (hb); have n3_ := Aside0.mk (ho); clear BK411; clear HO421; clear HB; clear HO418; have BK411 := n0_; have HO421 := n1_; have HB := n2_; have HO424 := n3_; clear n0_ n1_ n2_ n3_; clear ho hb hg hat; have q83 : ((ji38) : Int) ≤ ((l2.length : Int) : Int) := of_decide_eq_true (by first | (with_reducible assumption) | assumption); obtain ⟨i083, hi083, _, hsz83, _⟩ := info_parts info41; have hroom83 : l2.length ≤ c2 := HC2.out; have hC83 : Kd.C k41 _ (some ad409) l2.length l2 := HR2.out; have q083 : (0 : Int) ≤ ((ji38) : Int) := of_decide_eq_true (by first | (with_reducible assumption) | assumption); have hcut83 := cut_from (P := Try.prog) 42 41 .i64 Try.underlying42 hi083 2 hsz83 (some ad409) l2.length c2 (ji38) q083 q83; have hr83 := Kd.C_drop (m := ((ji38) : Int).toNat) (c := c2) hC83 (by omega) hroom83; obtain ⟨A83, hA83⟩ : ∃ A1, A1 = (if c2 = ((ji38) : Int).toNat then (some ad409) else ((some ad409) : Option Addr).map (·.add (((ji38) : Int).toNat * 2))) := ⟨_, rfl⟩; obtain ⟨c83, hc83⟩ : ∃ c1, c1 = c2 - ((ji38) : Int).toNat := ⟨_, rfl⟩; have hy83 : y425.length = l2.length - ((ji38) : Int).toNat := (by rw [Ny425.out, List.length_drop] <;> omega); rw [show (l2).drop ((ji38) : Int).toNat = y425 from Ny425.out.symm] at hr83; replace hr83 : Kd.C k41 _ A83 y425.length y425 := (by rw [hA83]; exact hr83); rw [← hy83, ← hA83, ← hc83] at hcut83; have HR428 := Aside0.mk hr83; have HC428 := Aside0.mk (show y425.length ≤ c83 from by rw [hy83, hc83]; exact Nat.sub_le_sub_right hroom83 _); clear hr83 hC83 hroom83 hi083 hsz83 hc83; have KY83 := Aside0.mk hy83; have KA83 := Aside0.mk hA83; clear hy83 hA83; replace q83 := eq_true q83) | ((with_reducible refine gate_builtin (b := .append) (xs := #[.tmp 125, .tmp 129]) rfl ?_); (try (refine gate_guard (by rfl) ?_; dsimp only)); at_builtin; refine Kd.R_append_rows k41 (w0 := w) w.heap.size rfl (.tmp 125) (.tmp 129) 42 41 (.agg #[(.int .i64 0), (.int .i64 0)]) 16 rfl Try.underlying42 info41 rfl (by decide) (by omega) v423 y422 y425 _ _ _ (fun k_ => some k_ ≠ (.slice Ao82 y419.length co82 : Value).ownBlock ∧ k_ ≠ gb411) (fun _ => False) rfl rfl ?aO ?aR (fun _ _ h => h) (fun _ h => h.elim) ?aF ?aB ?aS ?aL ?_; (case aR => repeat (first | exact (Kd.C_below HR428.out HB.out) | (with_reducible refine Kd.C_alloc ?_ _) | (with_reducible refine Kd.C_drewN ?_ _) | (with_reducible refine Kd.C_drew ?_))); (case aB => exact (by repeat (first | (with_reducible first | exact HB.out | apply below_alloc | apply pw_below_drewN | apply below_drew1 | refine below_set ?_ GE411.out) | exact HB.out))); (case aF => exact (fun k_ hk => ⟨Kd.fresh' (Kd.R_lt (by (with_reducible repeat (first | apply Kd.R_alloc | apply Kd.R_drewN | apply Kd.R_drew)); exact HO421.out)) k_ hk, Kd.freshB (g := gb411) (o := .cells #[.int .i64 ((rd_T41 l2 a3).f0), .int .i64 ((rd_T41 l2 a3).f1)] 41 (0, 0)) (by (with_reducible repeat (first | refine blk_drewN ?_ _ | refine blk_drew ?_ | refine blk_alloc ?_ _)); exact BK411.out) k_ hk⟩)); (case aO => exact (by (with_reducible repeat (first | apply Kd.R_alloc | apply Kd.R_drewN | apply Kd.R_drew)); exact HO424.out)); (case aS => exact (below_size (by repeat (first | (with_reducible first | exact HB.out | apply below_alloc | apply pw_below_drewN | apply below_drew1 | refine below_set ?_ GE411.out) | exact HB.out)))); (case aL => have := LMc41.out; omega); intro v430 w84 ho hb hg hat; rw [← Ny429.out] at ho; have n0_ := Aside0.mk (blk_grown (g := gb411) (o := .cells #[.int .i64 ((rd_T41 l2 a3).f0), .int .i64 ((rd_T41 l2 a3).f1)] 41 (0, 0)) (by (with_reducible repeat (first | refine blk_drewN ?_ _ | refine blk_drew ?_ | refine blk_alloc ?_ _)); exact BK411.out) hg (Kd.R_away HO424.out (fun _ hk => hk.2))); have n1_ := Aside0.mk (Kd.R_after (ok := (fun k_ => k_ ≠ gb411)) (by (with_reducible repeat (first | apply Kd.R_alloc | apply Kd.R_drewN | apply Kd.R_drew)); exact HO421.out) hg hat); have n2_ := Aside0.mk (hb); have n3_ := Aside0.mk (ho); clear BK411; clear HO421; clear HB; clear HO424; have BK411 := n0_; have HO421 := n1_; have HB := n2_; have HO431 := n3_; clear n0_ n1_ n2_ n3_; clear ho hb hg hat; obtain ⟨Ao85, co85, eo85⟩ := Kd.R_slice HO431.out; subst eo85) | ((with_reducible refine gate_callee (f := 21) rfl ?_); refine goesL_ (some 135) rfl rfl Try.func21 (by kernel_rfl) rfl #[.int .i64 a0, .int .u64 a1, .slice Ao85 y429.length co85] rfl (by (try simp only [List.map_toArray, List.map_cons, List.map_nil]); first | done | rfl | (simp only [List.length_drop, List.length_take]; rfl)) ?_; (with_reducible refine (format_Get.calls k2 a0 a1 _ _ y429 t432 t433 _ ?side1 ?side2 A42.out).mono ?_); (case side1 => repeat (first | exact (Kd.R_reads' HO431.out).2.2 | (with_reducible refine Kd.C_alloc ?_ _) | (with_reducible refine Kd.C_drewN ?_ _) | (with_reducible refine Kd.C_drew ?_))); (case side2 => exact (Kd.R_reads' HO431.out).2.1); rintro e w86 ⟨rfl, hb⟩; refine ⟨_, rfl, ?_⟩; have n0_ := Aside0.mk (Kd.R_below (by (with_reducible repeat (first | apply Kd.R_alloc | apply Kd.R_drewN | apply Kd.R_drew)); exact HO421.out) hb); have n1_ := Aside0.mk (Kd.R_below (by (with_reducible repeat (first | apply Kd.R_alloc | apply Kd.R_drewN | apply Kd.R_drew)); exact HO431.out) hb); have n2_ := Aside0.mk (blk_below (g := gb411) (o := .cells #[.int .i64 ((rd_T41 l2 a3).f0), .int .i64 ((rd_T41 l2 a3).f1)] 41 (0, 0)) (by (with_reducible repeat (first | refine blk_drewN ?_ _ | refine blk_drew ?_ | refine blk_alloc ?_ _)); exact BK411.out) hb); have n3_ := Aside0.mk (below_step (by repeat (first | (with_reducible first | exact HB.out | apply below_alloc | apply pw_below_drewN | apply below_drew1 | refine below_set ?_ GE411.out) | exact HB.out)) hb); clear HO421; clear HO431; clear BK411; clear HB; have HO421 := n0_; have HO431 := n1_; have BK411 := n2_; have HB := n3_; clear n0_ n1_ n2_ n3_; (try clear hb); (try clear hb2); (try clear hk); (try clear hi)))
                                            go_ret
                                            exact ⟨by first | rfl | (simp [errW_none, errW_some] <;> rfl) | (simp only [← hji38]; first | rfl | (simp [errW_none, errW_some] <;> rfl)) | (simp [*, errW_none, errW_some] <;> rfl), by repeat (first | (with_reducible first | exact HB.out | apply below_alloc | apply pw_below_drewN | apply below_drew1 | refine below_set ?_ GE411.out) | exact HB.out)⟩
                                        · rw [if_neg c41] at H
                                          exact absurd H (by simp)
                                      · rw [if_neg c40] at H
                                        exact absurd H (by simp)
                                    · rw [if_neg c39] at H
                                      exact absurd H (by simp)
                                  · rw [if_neg c37] at H
                                    exact absurd H (by simp)
                                · rw [if_neg c36] at H
                                  exact absurd H (by simp)
                              · rw [if_neg c35] at H
                                exact absurd H (by simp)
                          · rw [if_neg c32] at H
                            exact absurd H (by simp)
                        · rw [if_neg c31] at H
                          exact absurd H (by simp)
                · rw [if_neg c27] at H
                  have c27b0 : (x14_2 == t400) = false := beq_eq_false_iff_ne.mpr c27
                  have c27b1 : (x14_2 != t400) = true := bne_iff_ne.mpr c27
                  obtain rfl := Option.some.inj H
                  go_wp2
                  go_ret
                  exact ⟨by first | rfl | (simp [errW_none, errW_some] <;> rfl) | (simp [*, errW_none, errW_some] <;> rfl), by repeat (first | (with_reducible first | exact HB.out | apply below_alloc | apply pw_below_drewN | apply below_drew1) | exact HB.out)⟩
        · rw [if_neg c12] at H
          have c12b0 : (t401 == 0) = false := beq_eq_false_iff_ne.mpr c12
          have c12b1 : (t401 != 0) = true := bne_iff_ne.mpr c12
          obtain rfl := Option.some.inj H
          go_wp2_with (first | ((with_reducible refine gate_callee (f := 21) rfl ?_); refine goesL_ (some 36) rfl rfl Try.func21 (by kernel_rfl) rfl #[.int .i64 a0, .int .u64 a1, .slice A2 l2.length c2] rfl (by (try simp only [List.map_toArray, List.map_cons, List.map_nil]); first | done | rfl | (simp only [List.length_drop, List.length_take]; rfl)) ?_; (with_reducible refine (format_Get.calls kj6 a0 a1 _ _ l2 t400 t401 _ ?side1 ?side2 A11.out).mono ?_); (case side1 => repeat (first | exact (Kd.C_below HR2.out HB.out) | (with_reducible refine Kd.C_alloc ?_ _) | (with_reducible refine Kd.C_drewN ?_ _) | (with_reducible refine Kd.C_drew ?_))); (case side2 => exact HC2.out); rintro e w87 ⟨rfl, hb⟩; refine ⟨_, rfl, ?_⟩; have n0_ := Aside0.mk (below_step (by repeat (first | (with_reducible first | exact HB.out | apply below_alloc | apply pw_below_drewN | apply below_drew1) | exact HB.out)) hb); clear HB; have HB := n0_; clear n0_; (try clear hb); (try clear hb2); (try clear hk); (try clear hi)))
          go_ret
          exact ⟨by first | rfl | (simp [errW_none, errW_some] <;> rfl) | (simp [*, errW_none, errW_some] <;> rfl), by repeat (first | (with_reducible first | exact HB.out | apply below_alloc | apply pw_below_drewN | apply below_drew1) | exact HB.out)⟩

end Go.Proofs.Ytgbciglkfbiopaa.Q
