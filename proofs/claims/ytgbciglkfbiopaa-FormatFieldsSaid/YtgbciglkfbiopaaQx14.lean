-- Written by wip/tools/given.py (own program over the kit's print.py) out of the translation. Not trusted: Lean checks it.
import Derived.Test.YtgbciglkfbiopaaQx0
import Derived.Test.YtgbciglkfbiopaaQx1
import Derived.Test.YtgbciglkfbiopaaQx5
import Derived.Test.YtgbciglkfbiopaaQx6
import Derived.Test.YtgbciglkfbiopaaQx7
import Derived.Test.YtgbciglkfbiopaaQx8
import Derived.Test.YtgbciglkfbiopaaQx10
import Derived.Test.YtgbciglkfbiopaaQx12
import Derived.Test.YtgbciglkfbiopaaQx13
namespace Go.Proofs.Ytgbciglkfbiopaa.Q
open Go.RowKit Go.Proofs.YtgbciglkfbiopaaW.PrintWords Go.Proofs.YtgbciglkfbiopaaW.PrintLast Go.Proofs.YtgbciglkfbiopaaW.PrintMore
attribute [local go_sem] max2_int min2_int max_two min_two max_three min_three max_four min_four   -- for this text's walks alone
set_option linter.unusedVariables false
set_option linter.unusedSimpArgs false

attribute [local go_sem high] eqA41
/-! ### retargetref09_Get: function 27 -/
mutual
def retargetref09_Get.j0 : Nat → Int → List (S41) → Int → Bool → Option (Int × Int)
  | 0, _, _, _, _ => none
  | k + 1, x1, x2, x8, x22 => if x22 = true then (retargetref09_Get.j1 k x1 x2 24) else (retargetref09_Get.j1 k x1 x2 x8)
def retargetref09_Get.j1 : Nat → Int → List (S41) → Int → Option (Int × Int)
  | 0, _, _, _ => none
  | k + 1, x1, x2, x8 => if x8 = 0 then ((retargetref09_Places.f k x2).bind fun t343 => (retargetref09_Get.l0 k x1 t343 0 0)) else (some (0, x8))
def retargetref09_Get.l0 : Nat → Int → List Int → Int → Int → Option (Int × Int)
  | 0, _, _, _, _ => none
  | k + 1, x1, x9, x10, x11 => if x11 < (x9.length : Int) then (if 0 ≤ x11 then ((retargetref08_Bit.f k x1 (rd x9 x11)).bind fun t347 => (if t347 = 1 then ((retargetref09_value.f k x11).bind fun t348 => (retargetref09_Get.l0 k x1 x9 (IntKind.u64.wrap (x10 + t348)) (wrap64 (x11 + 1)))) else (retargetref09_Get.l0 k x1 x9 x10 (wrap64 (x11 + 1))))) else (none)) else (some (x10, 0))
end
def retargetref09_Get.f (k : Nat) (a0 : Int) (a1 : Int) (l2 : List (S41)) : Option (Int × Int) := (retargetref09_Check.f k a0 l2).bind fun t341 => (if t341 = 0 then ((retargetref09_below.f k a1 a0).bind fun t342 => (retargetref09_Get.j0 k a1 l2 t341 (!t342))) else (retargetref09_Get.j0 k a1 l2 t341 false))
theorem retargetref09_Get.mono_l : ∀ k, (∀ y0 y1 y2 y3, LeO (retargetref09_Get.j0 k y0 y1 y2 y3) (retargetref09_Get.j0 (k + 1) y0 y1 y2 y3)) ∧ (∀ y0 y1 y2, LeO (retargetref09_Get.j1 k y0 y1 y2) (retargetref09_Get.j1 (k + 1) y0 y1 y2)) ∧ (∀ y0 y1 y2 y3, LeO (retargetref09_Get.l0 k y0 y1 y2 y3) (retargetref09_Get.l0 (k + 1) y0 y1 y2 y3))
  | 0 => ⟨fun _ _ _ _ r h => by simp [retargetref09_Get.j0] at h, fun _ _ _ r h => by simp [retargetref09_Get.j1] at h, fun _ _ _ _ r h => by simp [retargetref09_Get.l0] at h⟩
  | k + 1 => by
    obtain ⟨ih0, ih1, ih2⟩ := retargetref09_Get.mono_l k
    refine ⟨?_, ?_, ?_⟩
    · intro y0 y1 y2 y3
      unfold retargetref09_Get.j0
      repeat' first
      | (with_reducible exact ih0 _ _ _ _)
      | (with_reducible exact ih1 _ _ _)
      | (with_reducible exact ih2 _ _ _ _)
      | (with_reducible exact retargetref08_Bit.mono _ _ _)
      | (with_reducible exact retargetref09_Check.mono _ _ _)
      | (with_reducible exact retargetref09_Places.mono _ _)
      | (with_reducible exact retargetref09_below.mono _ _ _)
      | (with_reducible exact retargetref09_value.mono _ _)
      | (with_reducible exact LeO.refl _)
      | (with_reducible exact LeO.none _)
      | (with_reducible refine LeO.ite ?_ ?_)
      | (with_reducible refine LeO.bind ?_ (fun _ => ?_))
      | exact ih0 _ _ _ _
      | exact ih1 _ _ _
      | exact ih2 _ _ _ _
      | exact retargetref08_Bit.mono _ _ _
      | exact retargetref09_Check.mono _ _ _
      | exact retargetref09_Places.mono _ _
      | exact retargetref09_below.mono _ _ _
      | exact retargetref09_value.mono _ _
      | exact LeO.none _
      | refine LeO.ite ?_ ?_
      | refine LeO.bind ?_ (fun _ => ?_)
    · intro y0 y1 y2
      unfold retargetref09_Get.j1
      repeat' first
      | (with_reducible exact ih0 _ _ _ _)
      | (with_reducible exact ih1 _ _ _)
      | (with_reducible exact ih2 _ _ _ _)
      | (with_reducible exact retargetref08_Bit.mono _ _ _)
      | (with_reducible exact retargetref09_Check.mono _ _ _)
      | (with_reducible exact retargetref09_Places.mono _ _)
      | (with_reducible exact retargetref09_below.mono _ _ _)
      | (with_reducible exact retargetref09_value.mono _ _)
      | (with_reducible exact LeO.refl _)
      | (with_reducible exact LeO.none _)
      | (with_reducible refine LeO.ite ?_ ?_)
      | (with_reducible refine LeO.bind ?_ (fun _ => ?_))
      | exact ih0 _ _ _ _
      | exact ih1 _ _ _
      | exact ih2 _ _ _ _
      | exact retargetref08_Bit.mono _ _ _
      | exact retargetref09_Check.mono _ _ _
      | exact retargetref09_Places.mono _ _
      | exact retargetref09_below.mono _ _ _
      | exact retargetref09_value.mono _ _
      | exact LeO.none _
      | refine LeO.ite ?_ ?_
      | refine LeO.bind ?_ (fun _ => ?_)
    · intro y0 y1 y2 y3
      unfold retargetref09_Get.l0
      repeat' first
      | (with_reducible exact ih0 _ _ _ _)
      | (with_reducible exact ih1 _ _ _)
      | (with_reducible exact ih2 _ _ _ _)
      | (with_reducible exact retargetref08_Bit.mono _ _ _)
      | (with_reducible exact retargetref09_Check.mono _ _ _)
      | (with_reducible exact retargetref09_Places.mono _ _)
      | (with_reducible exact retargetref09_below.mono _ _ _)
      | (with_reducible exact retargetref09_value.mono _ _)
      | (with_reducible exact LeO.refl _)
      | (with_reducible exact LeO.none _)
      | (with_reducible refine LeO.ite ?_ ?_)
      | (with_reducible refine LeO.bind ?_ (fun _ => ?_))
      | exact ih0 _ _ _ _
      | exact ih1 _ _ _
      | exact ih2 _ _ _ _
      | exact retargetref08_Bit.mono _ _ _
      | exact retargetref09_Check.mono _ _ _
      | exact retargetref09_Places.mono _ _
      | exact retargetref09_below.mono _ _ _
      | exact retargetref09_value.mono _ _
      | exact LeO.none _
      | refine LeO.ite ?_ ?_
      | refine LeO.bind ?_ (fun _ => ?_)
theorem retargetref09_Get.mono : ∀ a0 a1 a2 k, LeO (retargetref09_Get.f k a0 a1 a2) (retargetref09_Get.f (k + 1) a0 a1 a2) := by
  intro a0 a1 a2 k
  obtain ⟨ih0, ih1, ih2⟩ := retargetref09_Get.mono_l k
  unfold retargetref09_Get.f
  repeat' first
      | (with_reducible exact ih0 _ _ _ _)
      | (with_reducible exact ih1 _ _ _)
      | (with_reducible exact ih2 _ _ _ _)
      | (with_reducible exact retargetref08_Bit.mono _ _ _)
      | (with_reducible exact retargetref09_Check.mono _ _ _)
      | (with_reducible exact retargetref09_Places.mono _ _)
      | (with_reducible exact retargetref09_below.mono _ _ _)
      | (with_reducible exact retargetref09_value.mono _ _)
      | (with_reducible exact LeO.refl _)
      | (with_reducible exact LeO.none _)
      | (with_reducible refine LeO.ite ?_ ?_)
      | (with_reducible refine LeO.bind ?_ (fun _ => ?_))
      | exact ih0 _ _ _ _
      | exact ih1 _ _ _
      | exact ih2 _ _ _ _
      | exact retargetref08_Bit.mono _ _ _
      | exact retargetref09_Check.mono _ _ _
      | exact retargetref09_Places.mono _ _
      | exact retargetref09_below.mono _ _ _
      | exact retargetref09_value.mono _ _
      | exact LeO.none _
      | refine LeO.ite ?_ ?_
      | refine LeO.bind ?_ (fun _ => ?_)
set_option maxHeartbeats 8000000 in
set_option maxRecDepth 100000 in
theorem retargetref09_Get.calls (k : Nat) (a0 : Int) (a1 : Int) (A2 : Option Addr) (c2 : Nat) (l2 : List (S41)) (r1 : Int) (r2 : Int) (w : World) (hr2 : Kd.C k41 w A2 l2.length l2) (hc2 : l2.length ≤ c2) (h : retargetref09_Get.f k a0 a1 l2 = some (r1, r2)) :
    Calls Try.prog 27 #[.int .i64 a0, .int .u64 a1, .slice A2 l2.length c2] w fun e w' => e = .returned (.tuple #[.int .u64 r1, .int .i64 r2]) ∧ Below w.heap.size w w' := by
  have HR2 := Aside0.mk hr2
  have HC2 := Aside0.mk hc2
  clear hr2 hc2
  have HB := Aside0.mk (Below.refl w.heap.size w)
  have H : ((retargetref09_Check.f k a0 l2).bind fun t341 => (if t341 = 0 then ((retargetref09_below.f k a1 a0).bind fun t342 => (retargetref09_Get.j0 k a1 l2 t341 (!t342))) else (retargetref09_Get.j0 k a1 l2 t341 false))) = some (r1, r2) := h
  clear h
  replace H := Option.bind_eq_some_iff.mp H
  obtain ⟨t341, A40, H⟩ := H
  replace H : (if t341 = 0 then ((retargetref09_below.f k a1 a0).bind fun t342 => (retargetref09_Get.j0 k a1 l2 t341 (!t342))) else (retargetref09_Get.j0 k a1 l2 t341 false)) = some (r1, r2) := H
  have A4 := Aside0.mk A40
  clear A40
  have HC5 := Aside0.mk H
  clear H
  go_enter Try.func27, Try.ntmps27
  go_upto_region 2 with (first | ((with_reducible refine gate_callee (f := 28) rfl ?_); refine goesL_ (some 14) rfl rfl Try.func28 (by kernel_rfl) rfl #[.int .i64 a0, .slice A2 l2.length c2] rfl (by (try simp only [List.map_toArray, List.map_cons, List.map_nil]); first | done | rfl | (simp only [List.length_drop, List.length_take]; rfl)) ?_; (with_reducible refine (retargetref09_Check.calls k a0 _ _ l2 t341 _ ?side1 ?side2 A4.out).mono ?_); (case side1 => repeat (first | exact HR2.out | (with_reducible refine Kd.C_alloc ?_ _) | (with_reducible refine Kd.C_drewN ?_ _) | (with_reducible refine Kd.C_drew ?_))); (case side2 => exact HC2.out); rintro e w' ⟨rfl, ⟨nd, rfl⟩⟩; refine ⟨_, rfl, ?_⟩))
  (try simp only [Act.put, List.setIfInBounds_toArray, List.set_cons_zero, List.set_cons_succ])
  go_cut [22] (fun v22 wc => ∃ (kq : Nat) (x22_4 : Bool), v22 = .bool x22_4 ∧ Aside0 (retargetref09_Get.j0 kq a1 l2 t341 x22_4 = some (r1, r2)) ∧ Aside0 (kq ≤ k) ∧ Aside0 (Below w.heap.size w wc))
  case first =>
    have H := HC5.out
    clear HC5
    by_cases c6 : t341 = 0
    · rw [if_pos c6] at H
      have c6b0 : (t341 == 0) = true := beq_iff_eq.mpr c6
      have c6b1 : (t341 != 0) = false := bne_eq_false_iff_eq.mpr c6
      clear c6
      (first | rw [c6b0] | (simp only [i64_w, i32_w]; rw [c6b0]) | skip)
      replace H := Option.bind_eq_some_iff.mp H
      obtain ⟨t342, A70, H⟩ := H
      replace H : (retargetref09_Get.j0 k a1 l2 t341 (!t342)) = some (r1, r2) := H
      have A7 := Aside0.mk A70
      clear A70
      have H' := Aside0.mk H
      clear H
      go_wp2_with (first | (go_at_call 36; (with_reducible refine (retargetref09_below.calls k a1 a0 t342 _ A7.out).mono ?_); rintro e w' ⟨rfl, ⟨nd, rfl⟩⟩))
      go_meet
      case rel => exact ⟨_, (!t342), (by first | rfl | (simp; done) | (simp [*]; done)), H', ⟨by first | omega | exact Nat.le_refl _⟩, ⟨by repeat (first | (with_reducible first | exact HB.out | apply below_alloc | apply pw_below_drewN | apply below_drew1) | exact HB.out)⟩⟩
    · rw [if_neg c6] at H
      have c6b0 : (t341 == 0) = false := beq_eq_false_iff_ne.mpr c6
      have c6b1 : (t341 != 0) = true := bne_iff_ne.mpr c6
      (first | rw [c6b0] | (simp only [i64_w, i32_w]; rw [c6b0]) | skip)
      have H' := Aside0.mk H
      clear H
      go_wp2
      go_meet
      case rel => exact ⟨_, (false), (by first | rfl | (simp; done) | (simp [*]; done)), H', ⟨by first | omega | exact Nat.le_refl _⟩, ⟨by repeat (first | (with_reducible first | exact HB.out | apply below_alloc | apply pw_below_drewN | apply below_drew1) | exact HB.out)⟩⟩
  case rest =>
    clear HC5
    try clear c2
    try clear p2
    try clear c6
    try clear c6b0
    try clear c6b1
    obtain ⟨kq, x22_4, rfl, HA, HJ4, HB⟩ := hcut
    cases kq with
    | zero => exact absurd HA.out (by simp [retargetref09_Get.j0])
    | succ kj4 =>
      have H := HA.out
      clear HA
      simp only [retargetref09_Get.j0] at H
      have HC8 := Aside0.mk H
      clear H
      go_upto_if 22 with (fail)
      go_cut [8] (fun v8 wc => ∃ (kq : Nat) (x8_7 : Int), v8 = .int .i64 x8_7 ∧ Aside0 (retargetref09_Get.j1 kq a1 l2 x8_7 = some (r1, r2)) ∧ Aside0 (kq ≤ kj4) ∧ Aside0 (Below w.heap.size w wc))
      case first =>
        have H := HC8.out
        clear HC8
        by_cases c9 : x22_4 = true
        · subst c9
          have H1 : (retargetref09_Get.j1 kj4 a1 l2 24) = some (r1, r2) := by rw [if_pos rfl] at H; exact H
          clear H
          have H := H1
          clear H1
          have H' := Aside0.mk H
          clear H
          go_wp2
          go_meet
          case rel => exact ⟨_, (24), (by first | rfl | (simp; done) | (simp [*]; done)), H', ⟨by have := HJ4.out; first | omega | exact Nat.le_refl _⟩, ⟨by repeat (first | (with_reducible first | exact HB.out | apply below_alloc | apply pw_below_drewN | apply below_drew1) | exact HB.out)⟩⟩
        · replace c9 := Bool.eq_false_iff.mpr c9
          subst c9
          have H1 : (retargetref09_Get.j1 kj4 a1 l2 t341) = some (r1, r2) := by rw [if_neg (show ¬ (false = true) by decide)] at H; exact H
          clear H
          have H := H1
          clear H1
          have H' := Aside0.mk H
          clear H
          go_wp2
          go_meet
          case rel => exact ⟨_, (t341), (by first | rfl | (simp; done) | (simp [*]; done)), H', ⟨by have := HJ4.out; first | omega | exact Nat.le_refl _⟩, ⟨by repeat (first | (with_reducible first | exact HB.out | apply below_alloc | apply pw_below_drewN | apply below_drew1) | exact HB.out)⟩⟩
      case rest =>
        clear HC8
        try clear c2
        try clear p2
        try clear c6
        try clear c6b0
        try clear c6b1
        try clear c9
        try clear p2
        obtain ⟨kq, x8_7, rfl, HA, HJ7, HB⟩ := hcut
        cases kq with
        | zero => exact absurd HA.out (by simp [retargetref09_Get.j1])
        | succ kj7 =>
          have H := HA.out
          clear HA
          simp only [retargetref09_Get.j1] at H
          by_cases c10 : x8_7 = 0
          · rw [if_pos c10] at H
            have c10b0 : (x8_7 == 0) = true := beq_iff_eq.mpr c10
            have c10b1 : (x8_7 != 0) = false := bne_eq_false_iff_eq.mpr c10
            clear c10
            replace H := Option.bind_eq_some_iff.mp H
            obtain ⟨t343, A110, H⟩ := H
            replace H : (retargetref09_Get.l0 kj7 a1 t343 0 0) = some (r1, r2) := H
            have A11 := Aside0.mk A110
            clear A110
            have H' := Aside0.mk H
            clear H
            go_wp2_with (first | ((with_reducible refine gate_callee (f := 41) rfl ?_); refine goesL_ (some 27) rfl rfl Try.func41 (by kernel_rfl) rfl #[.slice A2 l2.length c2] rfl (by (try simp only [List.map_toArray, List.map_cons, List.map_nil]); first | done | rfl | (simp only [List.length_drop, List.length_take]; rfl)) ?_; (with_reducible refine (retargetref09_Places.calls kj7 _ _ l2 t343 _ ?side1 ?side2 A11.out).mono ?_); (case side1 => repeat (first | exact (Kd.C_below HR2.out HB.out) | (with_reducible refine Kd.C_alloc ?_ _) | (with_reducible refine Kd.C_drewN ?_ _) | (with_reducible refine Kd.C_drew ?_))); (case side2 => exact HC2.out); rintro e w12 ⟨v344, rfl, ho0, hb⟩; refine ⟨_, rfl, ?_⟩; have n0_ := Aside0.mk (Kd.R_lower ho0 (below_size (by repeat (first | (with_reducible first | exact HB.out | apply below_alloc | apply pw_below_drewN | apply below_drew1) | exact HB.out)))); have n1_ := Aside0.mk (below_step (by repeat (first | (with_reducible first | exact HB.out | apply below_alloc | apply pw_below_drewN | apply below_drew1) | exact HB.out)) hb); clear HB; have HO345 := n0_; have HB := n1_; clear n0_ n1_; (try clear hb); (try clear hb2); (try clear hk); (try clear hi); (try clear ho0)))
            go_loopg [10, 11] kj7 (fun kq v10 v11 w' => ∃ (x10_3 : Int) (x11_3 : Int), v10 = .int .u64 x10_3 ∧ v11 = .int .i64 x11_3 ∧ Aside0 (retargetref09_Get.l0 kq a1 t343 x10_3 x11_3 = some (r1, r2)) ∧ Aside0 (kq ≤ kj7) ∧ Aside0 (Kd.R (Kd.int .i64) 3 w' w.heap.size (fun _ => True) v344 t343) ∧ Aside0 (Below w.heap.size w w'))
            case atStart => exact ⟨(0), (0), (by first | rfl | (simp; done) | (simp [*]; done)), (by first | rfl | (simp; done) | (simp [*]; done)), H', ⟨Nat.le_refl _⟩, ⟨by (with_reducible repeat (first | apply Kd.R_alloc | apply Kd.R_drewN | apply Kd.R_drew)); exact HO345.out⟩, ⟨by repeat (first | (with_reducible first | exact HB.out | apply below_alloc | apply pw_below_drewN | apply below_drew1) | exact HB.out)⟩⟩
            case round =>
              clear H'
              try clear c1
              try clear c2
              try clear p2
              try clear c4
              try clear c6
              try clear c6b0
              try clear c6b1
              try clear c9
              try clear c10
              try clear c10b0
              try clear c10b1
              try clear p2
              obtain ⟨x10_3, x11_3, rfl, rfl, HA, HK3, HO_9, HB⟩ := hrel
              cases gk with
              | zero => exact absurd HA.out (by simp [retargetref09_Get.l0])
              | succ k3 =>
                have H := HA.out
                clear HA
                simp only [retargetref09_Get.l0] at H
                by_cases c13 : x11_3 < (t343.length : Int)
                · rw [if_pos c13] at H
                  have c13b0 : decide (x11_3 < (t343.length : Int)) = true := decide_eq_true c13
                  clear c13
                  by_cases c14 : 0 ≤ x11_3
                  · rw [if_pos c14] at H
                    have c14b0 : decide (0 ≤ x11_3) = true := decide_eq_true c14
                    clear c14
                    replace H := Option.bind_eq_some_iff.mp H
                    obtain ⟨t347, A150, H⟩ := H
                    replace H : (if t347 = 1 then ((retargetref09_value.f k3 x11_3).bind fun t348 => (retargetref09_Get.l0 k3 a1 t343 (IntKind.u64.wrap (x10_3 + t348)) (wrap64 (x11_3 + 1)))) else (retargetref09_Get.l0 k3 a1 t343 x10_3 (wrap64 (x11_3 + 1)))) = some (r1, r2) := H
                    have A15 := Aside0.mk A150
                    clear A150
                    by_cases c16 : t347 = 1
                    · rw [if_pos c16] at H
                      have c16b0 : (t347 == 1) = true := beq_iff_eq.mpr c16
                      have c16b1 : (t347 != 1) = false := bne_eq_false_iff_eq.mpr c16
                      clear c16
                      replace H := Option.bind_eq_some_iff.mp H
                      obtain ⟨t348, A170, H⟩ := H
                      replace H : (retargetref09_Get.l0 k3 a1 t343 (IntKind.u64.wrap (x10_3 + t348)) (wrap64 (x11_3 + 1))) = some (r1, r2) := H
                      have A17 := Aside0.mk A170
                      clear A170
                      have H' := Aside0.mk H
                      clear H
                      obtain ⟨Ao18, co18, eo18⟩ := Kd.R_slice HO_9.out
                      subst eo18
                      have p346 : 0 ≤ (x11_3 : Int) := of_decide_eq_true (by first | (with_reducible assumption) | assumption)
                      have q346 : x11_3 < (t343.length : Int) := of_decide_eq_true (by first | (with_reducible assumption) | assumption)
                      obtain ⟨ad346, e346, hx346_0⟩ := Kd.at_int (Kd.R_reads' HO_9.out).2.2 x11_3 p346 q346
                      cases e346
                      replace p346 := eq_true p346
                      replace q346 := eq_true q346
                      go_wp2_with (first | ((with_reducible refine gate_callee (f := 43) rfl ?_); refine goesL_ (some 39) rfl rfl Try.func43 (by kernel_rfl) rfl #[.int .u64 a1, .int .i64 (rd t343 x11_3)] rfl (by (try simp only [List.map_toArray, List.map_cons, List.map_nil]); first | done | rfl | (simp only [List.length_drop, List.length_take]; rfl)) ?_; (with_reducible refine (retargetref08_Bit.calls k3 a1 (rd t343 x11_3) t347 _ A15.out).mono ?_); rintro e w' ⟨rfl, ⟨nd, rfl⟩⟩; refine ⟨_, rfl, ?_⟩) | ((with_reducible refine gate_callee (f := 42) rfl ?_); refine goesL_ (some 43) rfl rfl Try.func42 (by kernel_rfl) rfl #[.int .i64 x11_3] rfl (by (try simp only [List.map_toArray, List.map_cons, List.map_nil]); first | done | rfl | (simp only [List.length_drop, List.length_take]; rfl)) ?_; (with_reducible refine (retargetref09_value.calls k3 x11_3 t348 _ A17.out).mono ?_); rintro e w' ⟨rfl, ⟨nd, rfl⟩⟩; refine ⟨_, rfl, ?_⟩))
                      go_roundg k3
                      case measure => have := HJ4.out; have := HJ7.out; have := HK3.out; omega
                      case rel => exact ⟨(IntKind.u64.wrap (x10_3 + t348)), (wrap64 (x11_3 + 1)), (by first | rfl | (simp; done) | (simp [*]; done)), (by first | rfl | (simp; done) | (simp [*]; done)), H', ⟨by have := HJ4.out; have := HJ7.out; have := HK3.out; omega⟩, ⟨by (with_reducible repeat (first | apply Kd.R_alloc | apply Kd.R_drewN | apply Kd.R_drew)); exact HO_9.out⟩, ⟨by repeat (first | (with_reducible first | exact HB.out | apply below_alloc | apply pw_below_drewN | apply below_drew1) | exact HB.out)⟩⟩
                    · rw [if_neg c16] at H
                      have c16b0 : (t347 == 1) = false := beq_eq_false_iff_ne.mpr c16
                      have c16b1 : (t347 != 1) = true := bne_iff_ne.mpr c16
                      have H' := Aside0.mk H
                      clear H
                      obtain ⟨Ao19, co19, eo19⟩ := Kd.R_slice HO_9.out
                      subst eo19
                      have p346 : 0 ≤ (x11_3 : Int) := of_decide_eq_true (by first | (with_reducible assumption) | assumption)
                      have q346 : x11_3 < (t343.length : Int) := of_decide_eq_true (by first | (with_reducible assumption) | assumption)
                      obtain ⟨ad346, e346, hx346_0⟩ := Kd.at_int (Kd.R_reads' HO_9.out).2.2 x11_3 p346 q346
                      cases e346
                      replace p346 := eq_true p346
                      replace q346 := eq_true q346
                      go_wp2_with (first | ((with_reducible refine gate_callee (f := 43) rfl ?_); refine goesL_ (some 39) rfl rfl Try.func43 (by kernel_rfl) rfl #[.int .u64 a1, .int .i64 (rd t343 x11_3)] rfl (by (try simp only [List.map_toArray, List.map_cons, List.map_nil]); first | done | rfl | (simp only [List.length_drop, List.length_take]; rfl)) ?_; (with_reducible refine (retargetref08_Bit.calls k3 a1 (rd t343 x11_3) t347 _ A15.out).mono ?_); rintro e w' ⟨rfl, ⟨nd, rfl⟩⟩; refine ⟨_, rfl, ?_⟩))
                      go_roundg k3
                      case measure => have := HJ4.out; have := HJ7.out; have := HK3.out; omega
                      case rel => exact ⟨(x10_3), (wrap64 (x11_3 + 1)), (by first | rfl | (simp; done) | (simp [*]; done)), (by first | rfl | (simp; done) | (simp [*]; done)), H', ⟨by have := HJ4.out; have := HJ7.out; have := HK3.out; omega⟩, ⟨by (with_reducible repeat (first | apply Kd.R_alloc | apply Kd.R_drewN | apply Kd.R_drew)); exact HO_9.out⟩, ⟨by repeat (first | (with_reducible first | exact HB.out | apply below_alloc | apply pw_below_drewN | apply below_drew1) | exact HB.out)⟩⟩
                  · rw [if_neg c14] at H
                    exact absurd H (by simp)
                · rw [if_neg c13] at H
                  have c13b0 : decide (x11_3 < (t343.length : Int)) = false := decide_eq_false c13
                  clear c13
                  simp only [Option.some.injEq, Prod.mk.injEq] at H
                  obtain ⟨rfl, rfl⟩ := H
                  obtain ⟨Ao20, co20, eo20⟩ := Kd.R_slice HO_9.out
                  subst eo20
                  go_wp2
                  go_ret2
                  exact ⟨by first | rfl | (simp [errW_none, errW_some] <;> rfl) | (simp [*, errW_none, errW_some] <;> rfl), by repeat (first | (with_reducible first | exact HB.out | apply below_alloc | apply pw_below_drewN | apply below_drew1) | exact HB.out)⟩
          · rw [if_neg c10] at H
            have c10b0 : (x8_7 == 0) = false := beq_eq_false_iff_ne.mpr c10
            have c10b1 : (x8_7 != 0) = true := bne_iff_ne.mpr c10
            simp only [Option.some.injEq, Prod.mk.injEq] at H
            obtain ⟨rfl, rfl⟩ := H
            go_wp2
            go_ret2
            exact ⟨by first | rfl | (simp [errW_none, errW_some] <;> rfl) | (simp [*, errW_none, errW_some] <;> rfl), by repeat (first | (with_reducible first | exact HB.out | apply below_alloc | apply pw_below_drewN | apply below_drew1) | exact HB.out)⟩

/-! ### retargetlaw09_FormatFields: function 6 -/
mutual
def retargetlaw09_FormatFields.j0 : Nat → List (S41) → List (S41) → Bool → Option (Bool)
  | 0, _, _, _ => none
  | k + 1, x2, x9, x22 => retargetlaw09_FormatFields.l0 k x2 x9 x22 0
def retargetlaw09_FormatFields.l0 : Nat → List (S41) → List (S41) → Bool → Int → Option (Bool)
  | 0, _, _, _, _ => none
  | k + 1, x2, x9, x22, x23 => if x23 < (x9.length : Int) then (if x22 = true then (if 0 ≤ x23 then (if x23 < (x2.length : Int) then (retargetlaw09_FormatFields.l0 k x2 x9 (((rd_T41 x9 x23).f0) == ((rd_T41 x2 x23).f0) && (((rd_T41 x9 x23).f1) == ((rd_T41 x2 x23).f1))) (wrap64 (x23 + 1))) else (none)) else (none)) else (retargetlaw09_FormatFields.l0 k x2 x9 false (wrap64 (x23 + 1)))) else (some x22)
end
def retargetlaw09_FormatFields.f (k : Nat) (a0 : Int) (a1 : Int) (l2 : List (S41)) (a3 : Int) : Option (Bool) := if (l2.length : Int) > 50 then (some true) else ((some (([] : List (S41)) : List (S41))).bind fun y349 => (if y349.length + l2.length < 8796093022208 then ((some (y349 ++ l2 : List (S41))).bind fun y352 => ((format_Mask.f k a0 l2).bind fun bt355 => ((retargetref09_Mask.f k a0 l2).bind fun bt357 => ((format_Put.f k a0 a1 l2 a3).bind fun bt359 => ((retargetref09_Put.f k a0 a1 l2 a3).bind fun bt361 => ((format_Get.f k a0 a1 l2).bind fun bt363 => ((retargetref09_Get.f k a0 a1 l2).bind fun bt365 => (if bt355.1 = bt357.1 then (if bt355.2 = bt357.2 then (if bt359.1 = bt361.1 then (if bt359.2 = bt361.2 then (if bt363.1 = bt365.1 then (if bt363.2 = bt365.2 then ((format_Check.f k a0 l2).bind fun t367 => ((retargetref09_Check.f k a0 l2).bind fun t368 => (retargetlaw09_FormatFields.j0 k l2 y352 (t367 == t368)))) else (retargetlaw09_FormatFields.j0 k l2 y352 false)) else (retargetlaw09_FormatFields.j0 k l2 y352 false)) else (retargetlaw09_FormatFields.j0 k l2 y352 false)) else (retargetlaw09_FormatFields.j0 k l2 y352 false)) else (retargetlaw09_FormatFields.j0 k l2 y352 false)) else (retargetlaw09_FormatFields.j0 k l2 y352 false))))))))) else (none)))
theorem retargetlaw09_FormatFields.mono_l : ∀ k, (∀ y0 y1 y2, LeO (retargetlaw09_FormatFields.j0 k y0 y1 y2) (retargetlaw09_FormatFields.j0 (k + 1) y0 y1 y2)) ∧ (∀ y0 y1 y2 y3, LeO (retargetlaw09_FormatFields.l0 k y0 y1 y2 y3) (retargetlaw09_FormatFields.l0 (k + 1) y0 y1 y2 y3))
  | 0 => ⟨fun _ _ _ r h => by simp [retargetlaw09_FormatFields.j0] at h, fun _ _ _ _ r h => by simp [retargetlaw09_FormatFields.l0] at h⟩
  | k + 1 => by
    obtain ⟨ih0, ih1⟩ := retargetlaw09_FormatFields.mono_l k
    refine ⟨?_, ?_⟩
    · intro y0 y1 y2
      unfold retargetlaw09_FormatFields.j0
      repeat' first
      | (with_reducible exact ih0 _ _ _)
      | (with_reducible exact ih1 _ _ _ _)
      | (with_reducible exact format_Check.mono _ _ _)
      | (with_reducible exact format_Get.mono _ _ _ _)
      | (with_reducible exact format_Mask.mono _ _ _)
      | (with_reducible exact format_Put.mono _ _ _ _ _)
      | (with_reducible exact retargetref09_Check.mono _ _ _)
      | (with_reducible exact retargetref09_Get.mono _ _ _ _)
      | (with_reducible exact retargetref09_Mask.mono _ _ _)
      | (with_reducible exact retargetref09_Put.mono _ _ _ _ _)
      | (with_reducible exact LeO.refl _)
      | (with_reducible exact LeO.none _)
      | (with_reducible refine LeO.ite ?_ ?_)
      | (with_reducible refine LeO.bind ?_ (fun _ => ?_))
      | exact ih0 _ _ _
      | exact ih1 _ _ _ _
      | exact format_Check.mono _ _ _
      | exact format_Get.mono _ _ _ _
      | exact format_Mask.mono _ _ _
      | exact format_Put.mono _ _ _ _ _
      | exact retargetref09_Check.mono _ _ _
      | exact retargetref09_Get.mono _ _ _ _
      | exact retargetref09_Mask.mono _ _ _
      | exact retargetref09_Put.mono _ _ _ _ _
      | exact LeO.none _
      | refine LeO.ite ?_ ?_
      | refine LeO.bind ?_ (fun _ => ?_)
    · intro y0 y1 y2 y3
      unfold retargetlaw09_FormatFields.l0
      repeat' first
      | (with_reducible exact ih0 _ _ _)
      | (with_reducible exact ih1 _ _ _ _)
      | (with_reducible exact format_Check.mono _ _ _)
      | (with_reducible exact format_Get.mono _ _ _ _)
      | (with_reducible exact format_Mask.mono _ _ _)
      | (with_reducible exact format_Put.mono _ _ _ _ _)
      | (with_reducible exact retargetref09_Check.mono _ _ _)
      | (with_reducible exact retargetref09_Get.mono _ _ _ _)
      | (with_reducible exact retargetref09_Mask.mono _ _ _)
      | (with_reducible exact retargetref09_Put.mono _ _ _ _ _)
      | (with_reducible exact LeO.refl _)
      | (with_reducible exact LeO.none _)
      | (with_reducible refine LeO.ite ?_ ?_)
      | (with_reducible refine LeO.bind ?_ (fun _ => ?_))
      | exact ih0 _ _ _
      | exact ih1 _ _ _ _
      | exact format_Check.mono _ _ _
      | exact format_Get.mono _ _ _ _
      | exact format_Mask.mono _ _ _
      | exact format_Put.mono _ _ _ _ _
      | exact retargetref09_Check.mono _ _ _
      | exact retargetref09_Get.mono _ _ _ _
      | exact retargetref09_Mask.mono _ _ _
      | exact retargetref09_Put.mono _ _ _ _ _
      | exact LeO.none _
      | refine LeO.ite ?_ ?_
      | refine LeO.bind ?_ (fun _ => ?_)
theorem retargetlaw09_FormatFields.mono : ∀ a0 a1 a2 a3 k, LeO (retargetlaw09_FormatFields.f k a0 a1 a2 a3) (retargetlaw09_FormatFields.f (k + 1) a0 a1 a2 a3) := by
  intro a0 a1 a2 a3 k
  obtain ⟨ih0, ih1⟩ := retargetlaw09_FormatFields.mono_l k
  unfold retargetlaw09_FormatFields.f
  repeat' first
      | (with_reducible exact ih0 _ _ _)
      | (with_reducible exact ih1 _ _ _ _)
      | (with_reducible exact format_Check.mono _ _ _)
      | (with_reducible exact format_Get.mono _ _ _ _)
      | (with_reducible exact format_Mask.mono _ _ _)
      | (with_reducible exact format_Put.mono _ _ _ _ _)
      | (with_reducible exact retargetref09_Check.mono _ _ _)
      | (with_reducible exact retargetref09_Get.mono _ _ _ _)
      | (with_reducible exact retargetref09_Mask.mono _ _ _)
      | (with_reducible exact retargetref09_Put.mono _ _ _ _ _)
      | (with_reducible exact LeO.refl _)
      | (with_reducible exact LeO.none _)
      | (with_reducible refine LeO.ite ?_ ?_)
      | (with_reducible refine LeO.bind ?_ (fun _ => ?_))
      | exact ih0 _ _ _
      | exact ih1 _ _ _ _
      | exact format_Check.mono _ _ _
      | exact format_Get.mono _ _ _ _
      | exact format_Mask.mono _ _ _
      | exact format_Put.mono _ _ _ _ _
      | exact retargetref09_Check.mono _ _ _
      | exact retargetref09_Get.mono _ _ _ _
      | exact retargetref09_Mask.mono _ _ _
      | exact retargetref09_Put.mono _ _ _ _ _
      | exact LeO.none _
      | refine LeO.ite ?_ ?_
      | refine LeO.bind ?_ (fun _ => ?_)
set_option maxHeartbeats 8000000 in
set_option maxRecDepth 100000 in
theorem retargetlaw09_FormatFields.calls (k : Nat) (a0 : Int) (a1 : Int) (A2 : Option Addr) (c2 : Nat) (l2 : List (S41)) (a3 : Int) (r : Bool) (w : World) (hr2 : Kd.C k41 w A2 l2.length l2) (hc2 : l2.length ≤ c2) (h : retargetlaw09_FormatFields.f k a0 a1 l2 a3 = some r) :
    Calls Try.prog 6 #[.int .i64 a0, .int .u64 a1, .slice A2 l2.length c2, .int .u64 a3] w fun e w' => e = .returned (.bool r) ∧ Below w.heap.size w w' := by
  have hu41 := Try.underlying41
  have HR2 := Aside0.mk hr2
  have HC2 := Aside0.mk hc2
  clear hr2 hc2
  have HB := Aside0.mk (Below.refl w.heap.size w)
  have H : (if (l2.length : Int) > 50 then (some true) else ((some (([] : List (S41)) : List (S41))).bind fun y349 => (if y349.length + l2.length < 8796093022208 then ((some (y349 ++ l2 : List (S41))).bind fun y352 => ((format_Mask.f k a0 l2).bind fun bt355 => ((retargetref09_Mask.f k a0 l2).bind fun bt357 => ((format_Put.f k a0 a1 l2 a3).bind fun bt359 => ((retargetref09_Put.f k a0 a1 l2 a3).bind fun bt361 => ((format_Get.f k a0 a1 l2).bind fun bt363 => ((retargetref09_Get.f k a0 a1 l2).bind fun bt365 => (if bt355.1 = bt357.1 then (if bt355.2 = bt357.2 then (if bt359.1 = bt361.1 then (if bt359.2 = bt361.2 then (if bt363.1 = bt365.1 then (if bt363.2 = bt365.2 then ((format_Check.f k a0 l2).bind fun t367 => ((retargetref09_Check.f k a0 l2).bind fun t368 => (retargetlaw09_FormatFields.j0 k l2 y352 (t367 == t368)))) else (retargetlaw09_FormatFields.j0 k l2 y352 false)) else (retargetlaw09_FormatFields.j0 k l2 y352 false)) else (retargetlaw09_FormatFields.j0 k l2 y352 false)) else (retargetlaw09_FormatFields.j0 k l2 y352 false)) else (retargetlaw09_FormatFields.j0 k l2 y352 false)) else (retargetlaw09_FormatFields.j0 k l2 y352 false))))))))) else (none)))) = some r := h
  clear h
  by_cases c5 : (l2.length : Int) > 50
  · rw [if_pos c5] at H
    have c5b0 : decide (50 < (l2.length : Int)) = true := decide_eq_true c5
    have c5b1 : decide (50 < l2.length) = true := decide_eq_true (by omega)
    clear c5
    obtain rfl := Option.some.inj H
    go_enter Try.func6, Try.ntmps6
    go_wp2
    repeat (go_quiet (fail); try go_wp2)
    go_ret
    exact ⟨by first | rfl | (simp [errW_none, errW_some] <;> rfl) | (simp [*, errW_none, errW_some] <;> rfl), by repeat (first | (with_reducible first | exact HB.out | apply below_alloc | apply pw_below_drewN | apply below_drew1) | exact HB.out)⟩
  · rw [if_neg c5] at H
    have c5b0 : decide (50 < (l2.length : Int)) = false := decide_eq_false c5
    have c5b1 : decide (50 < l2.length) = false := decide_eq_false (by omega)
    clear c5
    obtain ⟨y349, hy349⟩ : ∃ y_ : List (S41), y_ = (([] : List (S41))) := ⟨_, rfl⟩
    replace H : (if y349.length + l2.length < 8796093022208 then ((some (y349 ++ l2 : List (S41))).bind fun y352 => ((format_Mask.f k a0 l2).bind fun bt355 => ((retargetref09_Mask.f k a0 l2).bind fun bt357 => ((format_Put.f k a0 a1 l2 a3).bind fun bt359 => ((retargetref09_Put.f k a0 a1 l2 a3).bind fun bt361 => ((format_Get.f k a0 a1 l2).bind fun bt363 => ((retargetref09_Get.f k a0 a1 l2).bind fun bt365 => (if bt355.1 = bt357.1 then (if bt355.2 = bt357.2 then (if bt359.1 = bt361.1 then (if bt359.2 = bt361.2 then (if bt363.1 = bt365.1 then (if bt363.2 = bt365.2 then ((format_Check.f k a0 l2).bind fun t367 => ((retargetref09_Check.f k a0 l2).bind fun t368 => (retargetlaw09_FormatFields.j0 k l2 y352 (t367 == t368)))) else (retargetlaw09_FormatFields.j0 k l2 y352 false)) else (retargetlaw09_FormatFields.j0 k l2 y352 false)) else (retargetlaw09_FormatFields.j0 k l2 y352 false)) else (retargetlaw09_FormatFields.j0 k l2 y352 false)) else (retargetlaw09_FormatFields.j0 k l2 y352 false)) else (retargetlaw09_FormatFields.j0 k l2 y352 false))))))))) else (none)) = some r := by first | (rw [hy349]; with_reducible exact H) | (have H2_ := (Option.bind_some _ _).symm.trans H; rw [hy349]; with_reducible exact H2_) | (have H2_ := (Option.bind_some _ _).symm.trans H; with_reducible exact H2_) | with_reducible exact H | (rw [hy349]; exact H) | exact H
    have Ny349 := Aside0.mk hy349
    clear hy349
    by_cases c6 : y349.length + l2.length < 8796093022208
    · rw [if_pos c6] at H
      have LMc6 := Aside0.mk c6
      clear c6
      obtain ⟨y352, hy352⟩ : ∃ y_ : List (S41), y_ = (y349 ++ l2) := ⟨_, rfl⟩
      replace H : ((format_Mask.f k a0 l2).bind fun bt355 => ((retargetref09_Mask.f k a0 l2).bind fun bt357 => ((format_Put.f k a0 a1 l2 a3).bind fun bt359 => ((retargetref09_Put.f k a0 a1 l2 a3).bind fun bt361 => ((format_Get.f k a0 a1 l2).bind fun bt363 => ((retargetref09_Get.f k a0 a1 l2).bind fun bt365 => (if bt355.1 = bt357.1 then (if bt355.2 = bt357.2 then (if bt359.1 = bt361.1 then (if bt359.2 = bt361.2 then (if bt363.1 = bt365.1 then (if bt363.2 = bt365.2 then ((format_Check.f k a0 l2).bind fun t367 => ((retargetref09_Check.f k a0 l2).bind fun t368 => (retargetlaw09_FormatFields.j0 k l2 y352 (t367 == t368)))) else (retargetlaw09_FormatFields.j0 k l2 y352 false)) else (retargetlaw09_FormatFields.j0 k l2 y352 false)) else (retargetlaw09_FormatFields.j0 k l2 y352 false)) else (retargetlaw09_FormatFields.j0 k l2 y352 false)) else (retargetlaw09_FormatFields.j0 k l2 y352 false)) else (retargetlaw09_FormatFields.j0 k l2 y352 false)))))))) = some r := by first | (rw [hy352]; with_reducible exact H) | (have H2_ := (Option.bind_some _ _).symm.trans H; rw [hy352]; with_reducible exact H2_) | (have H2_ := (Option.bind_some _ _).symm.trans H; with_reducible exact H2_) | with_reducible exact H | (rw [hy352]; exact H) | exact H
      have Ny352 := Aside0.mk hy352
      clear hy352
      replace H := Option.bind_eq_some_iff.mp H
      obtain ⟨⟨t355, t356⟩, A70, H⟩ := H
      replace H : ((retargetref09_Mask.f k a0 l2).bind fun bt357 => ((format_Put.f k a0 a1 l2 a3).bind fun bt359 => ((retargetref09_Put.f k a0 a1 l2 a3).bind fun bt361 => ((format_Get.f k a0 a1 l2).bind fun bt363 => ((retargetref09_Get.f k a0 a1 l2).bind fun bt365 => (if t355 = bt357.1 then (if t356 = bt357.2 then (if bt359.1 = bt361.1 then (if bt359.2 = bt361.2 then (if bt363.1 = bt365.1 then (if bt363.2 = bt365.2 then ((format_Check.f k a0 l2).bind fun t367 => ((retargetref09_Check.f k a0 l2).bind fun t368 => (retargetlaw09_FormatFields.j0 k l2 y352 (t367 == t368)))) else (retargetlaw09_FormatFields.j0 k l2 y352 false)) else (retargetlaw09_FormatFields.j0 k l2 y352 false)) else (retargetlaw09_FormatFields.j0 k l2 y352 false)) else (retargetlaw09_FormatFields.j0 k l2 y352 false)) else (retargetlaw09_FormatFields.j0 k l2 y352 false)) else (retargetlaw09_FormatFields.j0 k l2 y352 false))))))) = some r := H
      have A7 := Aside0.mk A70
      clear A70
      replace H := Option.bind_eq_some_iff.mp H
      obtain ⟨⟨t357, t358⟩, A80, H⟩ := H
      replace H : ((format_Put.f k a0 a1 l2 a3).bind fun bt359 => ((retargetref09_Put.f k a0 a1 l2 a3).bind fun bt361 => ((format_Get.f k a0 a1 l2).bind fun bt363 => ((retargetref09_Get.f k a0 a1 l2).bind fun bt365 => (if t355 = t357 then (if t356 = t358 then (if bt359.1 = bt361.1 then (if bt359.2 = bt361.2 then (if bt363.1 = bt365.1 then (if bt363.2 = bt365.2 then ((format_Check.f k a0 l2).bind fun t367 => ((retargetref09_Check.f k a0 l2).bind fun t368 => (retargetlaw09_FormatFields.j0 k l2 y352 (t367 == t368)))) else (retargetlaw09_FormatFields.j0 k l2 y352 false)) else (retargetlaw09_FormatFields.j0 k l2 y352 false)) else (retargetlaw09_FormatFields.j0 k l2 y352 false)) else (retargetlaw09_FormatFields.j0 k l2 y352 false)) else (retargetlaw09_FormatFields.j0 k l2 y352 false)) else (retargetlaw09_FormatFields.j0 k l2 y352 false)))))) = some r := H
      have A8 := Aside0.mk A80
      clear A80
      replace H := Option.bind_eq_some_iff.mp H
      obtain ⟨⟨t359, t360⟩, A90, H⟩ := H
      replace H : ((retargetref09_Put.f k a0 a1 l2 a3).bind fun bt361 => ((format_Get.f k a0 a1 l2).bind fun bt363 => ((retargetref09_Get.f k a0 a1 l2).bind fun bt365 => (if t355 = t357 then (if t356 = t358 then (if t359 = bt361.1 then (if t360 = bt361.2 then (if bt363.1 = bt365.1 then (if bt363.2 = bt365.2 then ((format_Check.f k a0 l2).bind fun t367 => ((retargetref09_Check.f k a0 l2).bind fun t368 => (retargetlaw09_FormatFields.j0 k l2 y352 (t367 == t368)))) else (retargetlaw09_FormatFields.j0 k l2 y352 false)) else (retargetlaw09_FormatFields.j0 k l2 y352 false)) else (retargetlaw09_FormatFields.j0 k l2 y352 false)) else (retargetlaw09_FormatFields.j0 k l2 y352 false)) else (retargetlaw09_FormatFields.j0 k l2 y352 false)) else (retargetlaw09_FormatFields.j0 k l2 y352 false))))) = some r := H
      have A9 := Aside0.mk A90
      clear A90
      replace H := Option.bind_eq_some_iff.mp H
      obtain ⟨⟨t361, t362⟩, A100, H⟩ := H
      replace H : ((format_Get.f k a0 a1 l2).bind fun bt363 => ((retargetref09_Get.f k a0 a1 l2).bind fun bt365 => (if t355 = t357 then (if t356 = t358 then (if t359 = t361 then (if t360 = t362 then (if bt363.1 = bt365.1 then (if bt363.2 = bt365.2 then ((format_Check.f k a0 l2).bind fun t367 => ((retargetref09_Check.f k a0 l2).bind fun t368 => (retargetlaw09_FormatFields.j0 k l2 y352 (t367 == t368)))) else (retargetlaw09_FormatFields.j0 k l2 y352 false)) else (retargetlaw09_FormatFields.j0 k l2 y352 false)) else (retargetlaw09_FormatFields.j0 k l2 y352 false)) else (retargetlaw09_FormatFields.j0 k l2 y352 false)) else (retargetlaw09_FormatFields.j0 k l2 y352 false)) else (retargetlaw09_FormatFields.j0 k l2 y352 false)))) = some r := H
      have A10 := Aside0.mk A100
      clear A100
      replace H := Option.bind_eq_some_iff.mp H
      obtain ⟨⟨t363, t364⟩, A110, H⟩ := H
      replace H : ((retargetref09_Get.f k a0 a1 l2).bind fun bt365 => (if t355 = t357 then (if t356 = t358 then (if t359 = t361 then (if t360 = t362 then (if t363 = bt365.1 then (if t364 = bt365.2 then ((format_Check.f k a0 l2).bind fun t367 => ((retargetref09_Check.f k a0 l2).bind fun t368 => (retargetlaw09_FormatFields.j0 k l2 y352 (t367 == t368)))) else (retargetlaw09_FormatFields.j0 k l2 y352 false)) else (retargetlaw09_FormatFields.j0 k l2 y352 false)) else (retargetlaw09_FormatFields.j0 k l2 y352 false)) else (retargetlaw09_FormatFields.j0 k l2 y352 false)) else (retargetlaw09_FormatFields.j0 k l2 y352 false)) else (retargetlaw09_FormatFields.j0 k l2 y352 false))) = some r := H
      have A11 := Aside0.mk A110
      clear A110
      replace H := Option.bind_eq_some_iff.mp H
      obtain ⟨⟨t365, t366⟩, A120, H⟩ := H
      replace H : (if t355 = t357 then (if t356 = t358 then (if t359 = t361 then (if t360 = t362 then (if t363 = t365 then (if t364 = t366 then ((format_Check.f k a0 l2).bind fun t367 => ((retargetref09_Check.f k a0 l2).bind fun t368 => (retargetlaw09_FormatFields.j0 k l2 y352 (t367 == t368)))) else (retargetlaw09_FormatFields.j0 k l2 y352 false)) else (retargetlaw09_FormatFields.j0 k l2 y352 false)) else (retargetlaw09_FormatFields.j0 k l2 y352 false)) else (retargetlaw09_FormatFields.j0 k l2 y352 false)) else (retargetlaw09_FormatFields.j0 k l2 y352 false)) else (retargetlaw09_FormatFields.j0 k l2 y352 false)) = some r := H
      have A12 := Aside0.mk A120
      clear A120
      have HC13 := Aside0.mk H
      clear H
      go_enter Try.func6, Try.ntmps6
      go_upto_region 10 with (first | ((with_reducible refine gate_dst (N := 27) rfl ?_); refine Kd.R_lit k41 _ 41 ?hg (N := 27) ?hd (xs := ([] : List (S41))) (inner := []) (ok := fun _ => True) (okp := fun _ => True) ?hr ?hp (fun _ hk => hk) trivial (Below.refl _ _) (Nat.le_refl _) (by simp) ?_; (case hd => rfl); (case hg => rfl); (case hr => first | (go_simp; done) | (go_simp; rfl)); (case hp => exact (Reps.none _ _)); intro v350 w14 ho15 hb hg_ hnew_; clear hg_ hnew_; (first | rw [← Ny349.out] at ho15 | (simp only [Int.reduceToNat] at ho15; rw [← Ny349.out] at ho15)); have n0_ := Aside0.mk (Kd.R_lower ho15 (below_size (by repeat (first | (with_reducible first | exact HB.out | apply below_alloc | apply pw_below_drewN | apply below_drew1) | exact HB.out)))); have n1_ := Aside0.mk (below_step (by repeat (first | (with_reducible first | exact HB.out | apply below_alloc | apply pw_below_drewN | apply below_drew1) | exact HB.out)) hb); clear HB; have HO351 := n0_; have HB := n1_; clear n0_ n1_; clear hb ho15) | ((with_reducible refine gate_builtin (b := .append) (xs := #[.tmp 27, .tmp 28]) rfl ?_); at_builtin; refine Kd.R_append_rows k41 (w0 := w) w.heap.size rfl (.tmp 27) (.tmp 28) 42 41 (.agg #[(.int .i64 0), (.int .i64 0)]) 16 rfl Try.underlying42 info41 rfl (by decide) (by omega) v350 y349 l2 _ _ _ (fun _ => True) (fun _ => False) rfl rfl ?aO ?aR (fun _ _ h => h) (fun _ h => h.elim) ?aF ?aB ?aS ?aL ?_; (case aR => repeat (first | exact (Kd.C_below HR2.out HB.out) | (with_reducible refine Kd.C_alloc ?_ _) | (with_reducible refine Kd.C_drewN ?_ _) | (with_reducible refine Kd.C_drew ?_))); (case aB => exact (by repeat (first | (with_reducible first | exact HB.out | apply below_alloc | apply pw_below_drewN | apply below_drew1) | exact HB.out))); (case aF => exact (fun _ _ => trivial)); (case aO => exact (by (with_reducible repeat (first | apply Kd.R_alloc | apply Kd.R_drewN | apply Kd.R_drew)); exact HO351.out)); (case aS => exact (below_size (by repeat (first | (with_reducible first | exact HB.out | apply below_alloc | apply pw_below_drewN | apply below_drew1) | exact HB.out)))); (case aL => have := LMc6.out; omega); intro v353 w16 ho hb hg hat; rw [← Ny352.out] at ho; have n0_ := Aside0.mk (hb); have n1_ := Aside0.mk (ho); clear HB; clear HO351; have HB := n0_; have HO354 := n1_; clear n0_ n1_; clear ho hb hg hat) | (go_at_call 20; (with_reducible refine (format_Mask.calls k a0 _ _ l2 t355 t356 _ ?side1 ?side2 A7.out).mono ?_); (case side1 => repeat (first | exact (Kd.C_below HR2.out HB.out) | (with_reducible refine Kd.C_alloc ?_ _) | (with_reducible refine Kd.C_drewN ?_ _) | (with_reducible refine Kd.C_drew ?_))); (case side2 => exact HC2.out); rintro e w17 ⟨rfl, hb⟩; have n0_ := Aside0.mk (Kd.R_below (by (with_reducible repeat (first | apply Kd.R_alloc | apply Kd.R_drewN | apply Kd.R_drew)); exact HO354.out) hb); have n1_ := Aside0.mk (below_step (by repeat (first | (with_reducible first | exact HB.out | apply below_alloc | apply pw_below_drewN | apply below_drew1) | exact HB.out)) hb); clear HO354; clear HB; have HO354 := n0_; have HB := n1_; clear n0_ n1_; (try clear hb); (try clear hb2); (try clear hk); (try clear hi)) | (go_at_call 25; (with_reducible refine (retargetref09_Mask.calls k a0 _ _ l2 t357 t358 _ ?side1 ?side2 A8.out).mono ?_); (case side1 => repeat (first | exact (Kd.C_below HR2.out HB.out) | (with_reducible refine Kd.C_alloc ?_ _) | (with_reducible refine Kd.C_drewN ?_ _) | (with_reducible refine Kd.C_drew ?_))); (case side2 => exact HC2.out); rintro e w18 ⟨rfl, hb⟩; have n0_ := Aside0.mk (Kd.R_below (by (with_reducible repeat (first | apply Kd.R_alloc | apply Kd.R_drewN | apply Kd.R_drew)); exact HO354.out) hb); have n1_ := Aside0.mk (below_step (by repeat (first | (with_reducible first | exact HB.out | apply below_alloc | apply pw_below_drewN | apply below_drew1) | exact HB.out)) hb); clear HO354; clear HB; have HO354 := n0_; have HB := n1_; clear n0_ n1_; (try clear hb); (try clear hb2); (try clear hk); (try clear hi)) | (go_at_call 22; (with_reducible refine (format_Put.calls k a0 a1 _ _ l2 a3 t359 t360 _ ?side1 ?side2 A9.out).mono ?_); (case side1 => repeat (first | exact (Kd.C_below HR2.out HB.out) | (with_reducible refine Kd.C_alloc ?_ _) | (with_reducible refine Kd.C_drewN ?_ _) | (with_reducible refine Kd.C_drew ?_))); (case side2 => exact HC2.out); rintro e w19 ⟨rfl, hb⟩; have n0_ := Aside0.mk (Kd.R_below (by (with_reducible repeat (first | apply Kd.R_alloc | apply Kd.R_drewN | apply Kd.R_drew)); exact HO354.out) hb); have n1_ := Aside0.mk (below_step (by repeat (first | (with_reducible first | exact HB.out | apply below_alloc | apply pw_below_drewN | apply below_drew1) | exact HB.out)) hb); clear HO354; clear HB; have HO354 := n0_; have HB := n1_; clear n0_ n1_; (try clear hb); (try clear hb2); (try clear hk); (try clear hi)) | (go_at_call 26; (with_reducible refine (retargetref09_Put.calls k a0 a1 _ _ l2 a3 t361 t362 _ ?side1 ?side2 A10.out).mono ?_); (case side1 => repeat (first | exact (Kd.C_below HR2.out HB.out) | (with_reducible refine Kd.C_alloc ?_ _) | (with_reducible refine Kd.C_drewN ?_ _) | (with_reducible refine Kd.C_drew ?_))); (case side2 => exact HC2.out); rintro e w20 ⟨rfl, hb⟩; have n0_ := Aside0.mk (Kd.R_below (by (with_reducible repeat (first | apply Kd.R_alloc | apply Kd.R_drewN | apply Kd.R_drew)); exact HO354.out) hb); have n1_ := Aside0.mk (below_step (by repeat (first | (with_reducible first | exact HB.out | apply below_alloc | apply pw_below_drewN | apply below_drew1) | exact HB.out)) hb); clear HO354; clear HB; have HO354 := n0_; have HB := n1_; clear n0_ n1_; (try clear hb); (try clear hb2); (try clear hk); (try clear hi)) | (go_at_call 21; (with_reducible refine (format_Get.calls k a0 a1 _ _ l2 t363 t364 _ ?side1 ?side2 A11.out).mono ?_); (case side1 => repeat (first | exact (Kd.C_below HR2.out HB.out) | (with_reducible refine Kd.C_alloc ?_ _) | (with_reducible refine Kd.C_drewN ?_ _) | (with_reducible refine Kd.C_drew ?_))); (case side2 => exact HC2.out); rintro e w21 ⟨rfl, hb⟩; have n0_ := Aside0.mk (Kd.R_below (by (with_reducible repeat (first | apply Kd.R_alloc | apply Kd.R_drewN | apply Kd.R_drew)); exact HO354.out) hb); have n1_ := Aside0.mk (below_step (by repeat (first | (with_reducible first | exact HB.out | apply below_alloc | apply pw_below_drewN | apply below_drew1) | exact HB.out)) hb); clear HO354; clear HB; have HO354 := n0_; have HB := n1_; clear n0_ n1_; (try clear hb); (try clear hb2); (try clear hk); (try clear hi)) | (go_at_call 27; (with_reducible refine (retargetref09_Get.calls k a0 a1 _ _ l2 t365 t366 _ ?side1 ?side2 A12.out).mono ?_); (case side1 => repeat (first | exact (Kd.C_below HR2.out HB.out) | (with_reducible refine Kd.C_alloc ?_ _) | (with_reducible refine Kd.C_drewN ?_ _) | (with_reducible refine Kd.C_drew ?_))); (case side2 => exact HC2.out); rintro e w22 ⟨rfl, hb⟩; have n0_ := Aside0.mk (Kd.R_below (by (with_reducible repeat (first | apply Kd.R_alloc | apply Kd.R_drewN | apply Kd.R_drew)); exact HO354.out) hb); have n1_ := Aside0.mk (below_step (by repeat (first | (with_reducible first | exact HB.out | apply below_alloc | apply pw_below_drewN | apply below_drew1) | exact HB.out)) hb); clear HO354; clear HB; have HO354 := n0_; have HB := n1_; clear n0_ n1_; (try clear hb); (try clear hb2); (try clear hk); (try clear hi)))
      repeat (go_quiet (first | ((with_reducible refine gate_dst (N := 27) rfl ?_); refine Kd.R_lit k41 _ 41 ?hg (N := 27) ?hd (xs := ([] : List (S41))) (inner := []) (ok := fun _ => True) (okp := fun _ => True) ?hr ?hp (fun _ hk => hk) trivial (Below.refl _ _) (Nat.le_refl _) (by simp) ?_; (case hd => rfl); (case hg => rfl); (case hr => first | (go_simp; done) | (go_simp; rfl)); (case hp => exact (Reps.none _ _)); intro v350 w14 ho15 hb hg_ hnew_; clear hg_ hnew_; (first | rw [← Ny349.out] at ho15 | (simp only [Int.reduceToNat] at ho15; rw [← Ny349.out] at ho15)); have n0_ := Aside0.mk (Kd.R_lower ho15 (below_size (by repeat (first | (with_reducible first | exact HB.out | apply below_alloc | apply pw_below_drewN | apply below_drew1) | exact HB.out)))); have n1_ := Aside0.mk (below_step (by repeat (first | (with_reducible first | exact HB.out | apply below_alloc | apply pw_below_drewN | apply below_drew1) | exact HB.out)) hb); clear HB; have HO351 := n0_; have HB := n1_; clear n0_ n1_; clear hb ho15) | ((with_reducible refine gate_builtin (b := .append) (xs := #[.tmp 27, .tmp 28]) rfl ?_); at_builtin; refine Kd.R_append_rows k41 (w0 := w) w.heap.size rfl (.tmp 27) (.tmp 28) 42 41 (.agg #[(.int .i64 0), (.int .i64 0)]) 16 rfl Try.underlying42 info41 rfl (by decide) (by omega) v350 y349 l2 _ _ _ (fun _ => True) (fun _ => False) rfl rfl ?aO ?aR (fun _ _ h => h) (fun _ h => h.elim) ?aF ?aB ?aS ?aL ?_; (case aR => repeat (first | exact (Kd.C_below HR2.out HB.out) | (with_reducible refine Kd.C_alloc ?_ _) | (with_reducible refine Kd.C_drewN ?_ _) | (with_reducible refine Kd.C_drew ?_))); (case aB => exact (by repeat (first | (with_reducible first | exact HB.out | apply below_alloc | apply pw_below_drewN | apply below_drew1) | exact HB.out))); (case aF => exact (fun _ _ => trivial)); (case aO => exact (by (with_reducible repeat (first | apply Kd.R_alloc | apply Kd.R_drewN | apply Kd.R_drew)); exact HO351.out)); (case aS => exact (below_size (by repeat (first | (with_reducible first | exact HB.out | apply below_alloc | apply pw_below_drewN | apply below_drew1) | exact HB.out)))); (case aL => have := LMc6.out; omega); intro v353 w16 ho hb hg hat; rw [← Ny352.out] at ho; have n0_ := Aside0.mk (hb); have n1_ := Aside0.mk (ho); clear HB; clear HO351; have HB := n0_; have HO354 := n1_; clear n0_ n1_; clear ho hb hg hat) | (go_at_call 20; (with_reducible refine (format_Mask.calls k a0 _ _ l2 t355 t356 _ ?side1 ?side2 A7.out).mono ?_); (case side1 => repeat (first | exact (Kd.C_below HR2.out HB.out) | (with_reducible refine Kd.C_alloc ?_ _) | (with_reducible refine Kd.C_drewN ?_ _) | (with_reducible refine Kd.C_drew ?_))); (case side2 => exact HC2.out); rintro e w17 ⟨rfl, hb⟩; have n0_ := Aside0.mk (Kd.R_below (by (with_reducible repeat (first | apply Kd.R_alloc | apply Kd.R_drewN | apply Kd.R_drew)); exact HO354.out) hb); have n1_ := Aside0.mk (below_step (by repeat (first | (with_reducible first | exact HB.out | apply below_alloc | apply pw_below_drewN | apply below_drew1) | exact HB.out)) hb); clear HO354; clear HB; have HO354 := n0_; have HB := n1_; clear n0_ n1_; (try clear hb); (try clear hb2); (try clear hk); (try clear hi)) | (go_at_call 25; (with_reducible refine (retargetref09_Mask.calls k a0 _ _ l2 t357 t358 _ ?side1 ?side2 A8.out).mono ?_); (case side1 => repeat (first | exact (Kd.C_below HR2.out HB.out) | (with_reducible refine Kd.C_alloc ?_ _) | (with_reducible refine Kd.C_drewN ?_ _) | (with_reducible refine Kd.C_drew ?_))); (case side2 => exact HC2.out); rintro e w18 ⟨rfl, hb⟩; have n0_ := Aside0.mk (Kd.R_below (by (with_reducible repeat (first | apply Kd.R_alloc | apply Kd.R_drewN | apply Kd.R_drew)); exact HO354.out) hb); have n1_ := Aside0.mk (below_step (by repeat (first | (with_reducible first | exact HB.out | apply below_alloc | apply pw_below_drewN | apply below_drew1) | exact HB.out)) hb); clear HO354; clear HB; have HO354 := n0_; have HB := n1_; clear n0_ n1_; (try clear hb); (try clear hb2); (try clear hk); (try clear hi)) | (go_at_call 22; (with_reducible refine (format_Put.calls k a0 a1 _ _ l2 a3 t359 t360 _ ?side1 ?side2 A9.out).mono ?_); (case side1 => repeat (first | exact (Kd.C_below HR2.out HB.out) | (with_reducible refine Kd.C_alloc ?_ _) | (with_reducible refine Kd.C_drewN ?_ _) | (with_reducible refine Kd.C_drew ?_))); (case side2 => exact HC2.out); rintro e w19 ⟨rfl, hb⟩; have n0_ := Aside0.mk (Kd.R_below (by (with_reducible repeat (first | apply Kd.R_alloc | apply Kd.R_drewN | apply Kd.R_drew)); exact HO354.out) hb); have n1_ := Aside0.mk (below_step (by repeat (first | (with_reducible first | exact HB.out | apply below_alloc | apply pw_below_drewN | apply below_drew1) | exact HB.out)) hb); clear HO354; clear HB; have HO354 := n0_; have HB := n1_; clear n0_ n1_; (try clear hb); (try clear hb2); (try clear hk); (try clear hi)) | (go_at_call 26; (with_reducible refine (retargetref09_Put.calls k a0 a1 _ _ l2 a3 t361 t362 _ ?side1 ?side2 A10.out).mono ?_); (case side1 => repeat (first | exact (Kd.C_below HR2.out HB.out) | (with_reducible refine Kd.C_alloc ?_ _) | (with_reducible refine Kd.C_drewN ?_ _) | (with_reducible refine Kd.C_drew ?_))); (case side2 => exact HC2.out); rintro e w20 ⟨rfl, hb⟩; have n0_ := Aside0.mk (Kd.R_below (by (with_reducible repeat (first | apply Kd.R_alloc | apply Kd.R_drewN | apply Kd.R_drew)); exact HO354.out) hb); have n1_ := Aside0.mk (below_step (by repeat (first | (with_reducible first | exact HB.out | apply below_alloc | apply pw_below_drewN | apply below_drew1) | exact HB.out)) hb); clear HO354; clear HB; have HO354 := n0_; have HB := n1_; clear n0_ n1_; (try clear hb); (try clear hb2); (try clear hk); (try clear hi)) | (go_at_call 21; (with_reducible refine (format_Get.calls k a0 a1 _ _ l2 t363 t364 _ ?side1 ?side2 A11.out).mono ?_); (case side1 => repeat (first | exact (Kd.C_below HR2.out HB.out) | (with_reducible refine Kd.C_alloc ?_ _) | (with_reducible refine Kd.C_drewN ?_ _) | (with_reducible refine Kd.C_drew ?_))); (case side2 => exact HC2.out); rintro e w21 ⟨rfl, hb⟩; have n0_ := Aside0.mk (Kd.R_below (by (with_reducible repeat (first | apply Kd.R_alloc | apply Kd.R_drewN | apply Kd.R_drew)); exact HO354.out) hb); have n1_ := Aside0.mk (below_step (by repeat (first | (with_reducible first | exact HB.out | apply below_alloc | apply pw_below_drewN | apply below_drew1) | exact HB.out)) hb); clear HO354; clear HB; have HO354 := n0_; have HB := n1_; clear n0_ n1_; (try clear hb); (try clear hb2); (try clear hk); (try clear hi)) | (go_at_call 27; (with_reducible refine (retargetref09_Get.calls k a0 a1 _ _ l2 t365 t366 _ ?side1 ?side2 A12.out).mono ?_); (case side1 => repeat (first | exact (Kd.C_below HR2.out HB.out) | (with_reducible refine Kd.C_alloc ?_ _) | (with_reducible refine Kd.C_drewN ?_ _) | (with_reducible refine Kd.C_drew ?_))); (case side2 => exact HC2.out); rintro e w22 ⟨rfl, hb⟩; have n0_ := Aside0.mk (Kd.R_below (by (with_reducible repeat (first | apply Kd.R_alloc | apply Kd.R_drewN | apply Kd.R_drew)); exact HO354.out) hb); have n1_ := Aside0.mk (below_step (by repeat (first | (with_reducible first | exact HB.out | apply below_alloc | apply pw_below_drewN | apply below_drew1) | exact HB.out)) hb); clear HO354; clear HB; have HO354 := n0_; have HB := n1_; clear n0_ n1_; (try clear hb); (try clear hb2); (try clear hk); (try clear hi))); go_upto_region 10 with (first | ((with_reducible refine gate_dst (N := 27) rfl ?_); refine Kd.R_lit k41 _ 41 ?hg (N := 27) ?hd (xs := ([] : List (S41))) (inner := []) (ok := fun _ => True) (okp := fun _ => True) ?hr ?hp (fun _ hk => hk) trivial (Below.refl _ _) (Nat.le_refl _) (by simp) ?_; (case hd => rfl); (case hg => rfl); (case hr => first | (go_simp; done) | (go_simp; rfl)); (case hp => exact (Reps.none _ _)); intro v350 w14 ho15 hb hg_ hnew_; clear hg_ hnew_; (first | rw [← Ny349.out] at ho15 | (simp only [Int.reduceToNat] at ho15; rw [← Ny349.out] at ho15)); have n0_ := Aside0.mk (Kd.R_lower ho15 (below_size (by repeat (first | (with_reducible first | exact HB.out | apply below_alloc | apply pw_below_drewN | apply below_drew1) | exact HB.out)))); have n1_ := Aside0.mk (below_step (by repeat (first | (with_reducible first | exact HB.out | apply below_alloc | apply pw_below_drewN | apply below_drew1) | exact HB.out)) hb); clear HB; have HO351 := n0_; have HB := n1_; clear n0_ n1_; clear hb ho15) | ((with_reducible refine gate_builtin (b := .append) (xs := #[.tmp 27, .tmp 28]) rfl ?_); at_builtin; refine Kd.R_append_rows k41 (w0 := w) w.heap.size rfl (.tmp 27) (.tmp 28) 42 41 (.agg #[(.int .i64 0), (.int .i64 0)]) 16 rfl Try.underlying42 info41 rfl (by decide) (by omega) v350 y349 l2 _ _ _ (fun _ => True) (fun _ => False) rfl rfl ?aO ?aR (fun _ _ h => h) (fun _ h => h.elim) ?aF ?aB ?aS ?aL ?_; (case aR => repeat (first | exact (Kd.C_below HR2.out HB.out) | (with_reducible refine Kd.C_alloc ?_ _) | (with_reducible refine Kd.C_drewN ?_ _) | (with_reducible refine Kd.C_drew ?_))); (case aB => exact (by repeat (first | (with_reducible first | exact HB.out | apply below_alloc | apply pw_below_drewN | apply below_drew1) | exact HB.out))); (case aF => exact (fun _ _ => trivial)); (case aO => exact (by (with_reducible repeat (first | apply Kd.R_alloc | apply Kd.R_drewN | apply Kd.R_drew)); exact HO351.out)); (case aS => exact (below_size (by repeat (first | (with_reducible first | exact HB.out | apply below_alloc | apply pw_below_drewN | apply below_drew1) | exact HB.out)))); (case aL => have := LMc6.out; omega); intro v353 w16 ho hb hg hat; rw [← Ny352.out] at ho; have n0_ := Aside0.mk (hb); have n1_ := Aside0.mk (ho); clear HB; clear HO351; have HB := n0_; have HO354 := n1_; clear n0_ n1_; clear ho hb hg hat) | (go_at_call 20; (with_reducible refine (format_Mask.calls k a0 _ _ l2 t355 t356 _ ?side1 ?side2 A7.out).mono ?_); (case side1 => repeat (first | exact (Kd.C_below HR2.out HB.out) | (with_reducible refine Kd.C_alloc ?_ _) | (with_reducible refine Kd.C_drewN ?_ _) | (with_reducible refine Kd.C_drew ?_))); (case side2 => exact HC2.out); rintro e w17 ⟨rfl, hb⟩; have n0_ := Aside0.mk (Kd.R_below (by (with_reducible repeat (first | apply Kd.R_alloc | apply Kd.R_drewN | apply Kd.R_drew)); exact HO354.out) hb); have n1_ := Aside0.mk (below_step (by repeat (first | (with_reducible first | exact HB.out | apply below_alloc | apply pw_below_drewN | apply below_drew1) | exact HB.out)) hb); clear HO354; clear HB; have HO354 := n0_; have HB := n1_; clear n0_ n1_; (try clear hb); (try clear hb2); (try clear hk); (try clear hi)) | (go_at_call 25; (with_reducible refine (retargetref09_Mask.calls k a0 _ _ l2 t357 t358 _ ?side1 ?side2 A8.out).mono ?_); (case side1 => repeat (first | exact (Kd.C_below HR2.out HB.out) | (with_reducible refine Kd.C_alloc ?_ _) | (with_reducible refine Kd.C_drewN ?_ _) | (with_reducible refine Kd.C_drew ?_))); (case side2 => exact HC2.out); rintro e w18 ⟨rfl, hb⟩; have n0_ := Aside0.mk (Kd.R_below (by (with_reducible repeat (first | apply Kd.R_alloc | apply Kd.R_drewN | apply Kd.R_drew)); exact HO354.out) hb); have n1_ := Aside0.mk (below_step (by repeat (first | (with_reducible first | exact HB.out | apply below_alloc | apply pw_below_drewN | apply below_drew1) | exact HB.out)) hb); clear HO354; clear HB; have HO354 := n0_; have HB := n1_; clear n0_ n1_; (try clear hb); (try clear hb2); (try clear hk); (try clear hi)) | (go_at_call 22; (with_reducible refine (format_Put.calls k a0 a1 _ _ l2 a3 t359 t360 _ ?side1 ?side2 A9.out).mono ?_); (case side1 => repeat (first | exact (Kd.C_below HR2.out HB.out) | (with_reducible refine Kd.C_alloc ?_ _) | (with_reducible refine Kd.C_drewN ?_ _) | (with_reducible refine Kd.C_drew ?_))); (case side2 => exact HC2.out); rintro e w19 ⟨rfl, hb⟩; have n0_ := Aside0.mk (Kd.R_below (by (with_reducible repeat (first | apply Kd.R_alloc | apply Kd.R_drewN | apply Kd.R_drew)); exact HO354.out) hb); have n1_ := Aside0.mk (below_step (by repeat (first | (with_reducible first | exact HB.out | apply below_alloc | apply pw_below_drewN | apply below_drew1) | exact HB.out)) hb); clear HO354; clear HB; have HO354 := n0_; have HB := n1_; clear n0_ n1_; (try clear hb); (try clear hb2); (try clear hk); (try clear hi)) | (go_at_call 26; (with_reducible refine (retargetref09_Put.calls k a0 a1 _ _ l2 a3 t361 t362 _ ?side1 ?side2 A10.out).mono ?_); (case side1 => repeat (first | exact (Kd.C_below HR2.out HB.out) | (with_reducible refine Kd.C_alloc ?_ _) | (with_reducible refine Kd.C_drewN ?_ _) | (with_reducible refine Kd.C_drew ?_))); (case side2 => exact HC2.out); rintro e w20 ⟨rfl, hb⟩; have n0_ := Aside0.mk (Kd.R_below (by (with_reducible repeat (first | apply Kd.R_alloc | apply Kd.R_drewN | apply Kd.R_drew)); exact HO354.out) hb); have n1_ := Aside0.mk (below_step (by repeat (first | (with_reducible first | exact HB.out | apply below_alloc | apply pw_below_drewN | apply below_drew1) | exact HB.out)) hb); clear HO354; clear HB; have HO354 := n0_; have HB := n1_; clear n0_ n1_; (try clear hb); (try clear hb2); (try clear hk); (try clear hi)) | (go_at_call 21; (with_reducible refine (format_Get.calls k a0 a1 _ _ l2 t363 t364 _ ?side1 ?side2 A11.out).mono ?_); (case side1 => repeat (first | exact (Kd.C_below HR2.out HB.out) | (with_reducible refine Kd.C_alloc ?_ _) | (with_reducible refine Kd.C_drewN ?_ _) | (with_reducible refine Kd.C_drew ?_))); (case side2 => exact HC2.out); rintro e w21 ⟨rfl, hb⟩; have n0_ := Aside0.mk (Kd.R_below (by (with_reducible repeat (first | apply Kd.R_alloc | apply Kd.R_drewN | apply Kd.R_drew)); exact HO354.out) hb); have n1_ := Aside0.mk (below_step (by repeat (first | (with_reducible first | exact HB.out | apply below_alloc | apply pw_below_drewN | apply below_drew1) | exact HB.out)) hb); clear HO354; clear HB; have HO354 := n0_; have HB := n1_; clear n0_ n1_; (try clear hb); (try clear hb2); (try clear hk); (try clear hi)) | (go_at_call 27; (with_reducible refine (retargetref09_Get.calls k a0 a1 _ _ l2 t365 t366 _ ?side1 ?side2 A12.out).mono ?_); (case side1 => repeat (first | exact (Kd.C_below HR2.out HB.out) | (with_reducible refine Kd.C_alloc ?_ _) | (with_reducible refine Kd.C_drewN ?_ _) | (with_reducible refine Kd.C_drew ?_))); (case side2 => exact HC2.out); rintro e w22 ⟨rfl, hb⟩; have n0_ := Aside0.mk (Kd.R_below (by (with_reducible repeat (first | apply Kd.R_alloc | apply Kd.R_drewN | apply Kd.R_drew)); exact HO354.out) hb); have n1_ := Aside0.mk (below_step (by repeat (first | (with_reducible first | exact HB.out | apply below_alloc | apply pw_below_drewN | apply below_drew1) | exact HB.out)) hb); clear HO354; clear HB; have HO354 := n0_; have HB := n1_; clear n0_ n1_; (try clear hb); (try clear hb2); (try clear hk); (try clear hi))))
      (try simp only [Act.put, List.setIfInBounds_toArray, List.set_cons_zero, List.set_cons_succ])
      go_cut [22] (fun v22 wc => ∃ (kq : Nat) (x22_12 : Bool), v22 = .bool x22_12 ∧ Aside0 (retargetlaw09_FormatFields.j0 kq l2 y352 x22_12 = some r) ∧ Aside0 (kq ≤ k) ∧ Aside0 (Kd.R k41 41 wc w.heap.size (fun _ => True) v353 y352) ∧ Aside0 (Below w.heap.size w wc))
      case first =>
        have H := HC13.out
        clear HC13
        by_cases c23 : t355 = t357
        · rw [if_pos c23] at H
          have c23b0 : (t355 == t357) = true := beq_iff_eq.mpr c23
          have c23b1 : (t355 != t357) = false := bne_eq_false_iff_eq.mpr c23
          clear c23
          (first | rw [c23b0] | (simp only [i64_w, i32_w]; rw [c23b0]) | skip)
          by_cases c24 : t356 = t358
          · rw [if_pos c24] at H
            have c24b0 : (t356 == t358) = true := beq_iff_eq.mpr c24
            have c24b1 : (t356 != t358) = false := bne_eq_false_iff_eq.mpr c24
            clear c24
            by_cases c25 : t359 = t361
            · rw [if_pos c25] at H
              have c25b0 : (t359 == t361) = true := beq_iff_eq.mpr c25
              have c25b1 : (t359 != t361) = false := bne_eq_false_iff_eq.mpr c25
              clear c25
              by_cases c26 : t360 = t362
              · rw [if_pos c26] at H
                have c26b0 : (t360 == t362) = true := beq_iff_eq.mpr c26
                have c26b1 : (t360 != t362) = false := bne_eq_false_iff_eq.mpr c26
                clear c26
                by_cases c27 : t363 = t365
                · rw [if_pos c27] at H
                  have c27b0 : (t363 == t365) = true := beq_iff_eq.mpr c27
                  have c27b1 : (t363 != t365) = false := bne_eq_false_iff_eq.mpr c27
                  clear c27
                  by_cases c28 : t364 = t366
                  · rw [if_pos c28] at H
                    have c28b0 : (t364 == t366) = true := beq_iff_eq.mpr c28
                    have c28b1 : (t364 != t366) = false := bne_eq_false_iff_eq.mpr c28
                    clear c28
                    replace H := Option.bind_eq_some_iff.mp H
                    obtain ⟨t367, A290, H⟩ := H
                    replace H : ((retargetref09_Check.f k a0 l2).bind fun t368 => (retargetlaw09_FormatFields.j0 k l2 y352 (t367 == t368))) = some r := H
                    have A29 := Aside0.mk A290
                    clear A290
                    replace H := Option.bind_eq_some_iff.mp H
                    obtain ⟨t368, A300, H⟩ := H
                    replace H : (retargetlaw09_FormatFields.j0 k l2 y352 (t367 == t368)) = some r := H
                    have A30 := Aside0.mk A300
                    clear A300
                    have H' := Aside0.mk H
                    clear H
                    go_wp2_with (first | (go_at_call 23; (with_reducible refine (format_Check.calls k a0 _ _ l2 t367 _ ?side1 ?side2 A29.out).mono ?_); (case side1 => repeat (first | exact (Kd.C_below HR2.out HB.out) | (with_reducible refine Kd.C_alloc ?_ _) | (with_reducible refine Kd.C_drewN ?_ _) | (with_reducible refine Kd.C_drew ?_))); (case side2 => exact HC2.out); rintro e w31 ⟨rfl, hb⟩; have n0_ := Aside0.mk (Kd.R_below (by (with_reducible repeat (first | apply Kd.R_alloc | apply Kd.R_drewN | apply Kd.R_drew)); exact HO354.out) hb); have n1_ := Aside0.mk (below_step (by repeat (first | (with_reducible first | exact HB.out | apply below_alloc | apply pw_below_drewN | apply below_drew1) | exact HB.out)) hb); clear HO354; clear HB; have HO354 := n0_; have HB := n1_; clear n0_ n1_; (try clear hb); (try clear hb2); (try clear hk); (try clear hi)) | (go_at_call 28; (with_reducible refine (retargetref09_Check.calls k a0 _ _ l2 t368 _ ?side1 ?side2 A30.out).mono ?_); (case side1 => repeat (first | exact (Kd.C_below HR2.out HB.out) | (with_reducible refine Kd.C_alloc ?_ _) | (with_reducible refine Kd.C_drewN ?_ _) | (with_reducible refine Kd.C_drew ?_))); (case side2 => exact HC2.out); rintro e w' ⟨rfl, ⟨nd, rfl⟩⟩; (try first | exact ⟨rfl, _, World.drewN_drewN _ _ _⟩ | exact ⟨rfl, _, Eq.trans (World.drewN_drewN _ _ _) (congrArg (World.drewN _) (Nat.add_assoc _ _ _))⟩)))
                    repeat (go_quiet (first | (go_at_call 23; (with_reducible refine (format_Check.calls k a0 _ _ l2 t367 _ ?side1 ?side2 A29.out).mono ?_); (case side1 => repeat (first | exact (Kd.C_below HR2.out HB.out) | (with_reducible refine Kd.C_alloc ?_ _) | (with_reducible refine Kd.C_drewN ?_ _) | (with_reducible refine Kd.C_drew ?_))); (case side2 => exact HC2.out); rintro e w31 ⟨rfl, hb⟩; have n0_ := Aside0.mk (Kd.R_below (by (with_reducible repeat (first | apply Kd.R_alloc | apply Kd.R_drewN | apply Kd.R_drew)); exact HO354.out) hb); have n1_ := Aside0.mk (below_step (by repeat (first | (with_reducible first | exact HB.out | apply below_alloc | apply pw_below_drewN | apply below_drew1) | exact HB.out)) hb); clear HO354; clear HB; have HO354 := n0_; have HB := n1_; clear n0_ n1_; (try clear hb); (try clear hb2); (try clear hk); (try clear hi)) | (go_at_call 28; (with_reducible refine (retargetref09_Check.calls k a0 _ _ l2 t368 _ ?side1 ?side2 A30.out).mono ?_); (case side1 => repeat (first | exact (Kd.C_below HR2.out HB.out) | (with_reducible refine Kd.C_alloc ?_ _) | (with_reducible refine Kd.C_drewN ?_ _) | (with_reducible refine Kd.C_drew ?_))); (case side2 => exact HC2.out); rintro e w' ⟨rfl, ⟨nd, rfl⟩⟩; (try first | exact ⟨rfl, _, World.drewN_drewN _ _ _⟩ | exact ⟨rfl, _, Eq.trans (World.drewN_drewN _ _ _) (congrArg (World.drewN _) (Nat.add_assoc _ _ _))⟩))); try go_wp2_with (first | (go_at_call 23; (with_reducible refine (format_Check.calls k a0 _ _ l2 t367 _ ?side1 ?side2 A29.out).mono ?_); (case side1 => repeat (first | exact (Kd.C_below HR2.out HB.out) | (with_reducible refine Kd.C_alloc ?_ _) | (with_reducible refine Kd.C_drewN ?_ _) | (with_reducible refine Kd.C_drew ?_))); (case side2 => exact HC2.out); rintro e w31 ⟨rfl, hb⟩; have n0_ := Aside0.mk (Kd.R_below (by (with_reducible repeat (first | apply Kd.R_alloc | apply Kd.R_drewN | apply Kd.R_drew)); exact HO354.out) hb); have n1_ := Aside0.mk (below_step (by repeat (first | (with_reducible first | exact HB.out | apply below_alloc | apply pw_below_drewN | apply below_drew1) | exact HB.out)) hb); clear HO354; clear HB; have HO354 := n0_; have HB := n1_; clear n0_ n1_; (try clear hb); (try clear hb2); (try clear hk); (try clear hi)) | (go_at_call 28; (with_reducible refine (retargetref09_Check.calls k a0 _ _ l2 t368 _ ?side1 ?side2 A30.out).mono ?_); (case side1 => repeat (first | exact (Kd.C_below HR2.out HB.out) | (with_reducible refine Kd.C_alloc ?_ _) | (with_reducible refine Kd.C_drewN ?_ _) | (with_reducible refine Kd.C_drew ?_))); (case side2 => exact HC2.out); rintro e w' ⟨rfl, ⟨nd, rfl⟩⟩; (try first | exact ⟨rfl, _, World.drewN_drewN _ _ _⟩ | exact ⟨rfl, _, Eq.trans (World.drewN_drewN _ _ _) (congrArg (World.drewN _) (Nat.add_assoc _ _ _))⟩))))
                    go_meet
                    case rel => exact ⟨_, ((t367 == t368)), (by first | rfl | (simp; done) | (simp [*]; done)), H', ⟨by first | omega | exact Nat.le_refl _⟩, ⟨by (with_reducible repeat (first | apply Kd.R_alloc | apply Kd.R_drewN | apply Kd.R_drew)); exact HO354.out⟩, ⟨by repeat (first | (with_reducible first | exact HB.out | apply below_alloc | apply pw_below_drewN | apply below_drew1) | exact HB.out)⟩⟩
                  · rw [if_neg c28] at H
                    have c28b0 : (t364 == t366) = false := beq_eq_false_iff_ne.mpr c28
                    have c28b1 : (t364 != t366) = true := bne_iff_ne.mpr c28
                    have H' := Aside0.mk H
                    clear H
                    go_wp2
                    repeat (go_quiet (fail); try go_wp2)
                    go_meet
                    case rel => exact ⟨_, (false), (by first | rfl | (simp; done) | (simp [*]; done)), H', ⟨by first | omega | exact Nat.le_refl _⟩, ⟨by (with_reducible repeat (first | apply Kd.R_alloc | apply Kd.R_drewN | apply Kd.R_drew)); exact HO354.out⟩, ⟨by repeat (first | (with_reducible first | exact HB.out | apply below_alloc | apply pw_below_drewN | apply below_drew1) | exact HB.out)⟩⟩
                · rw [if_neg c27] at H
                  have c27b0 : (t363 == t365) = false := beq_eq_false_iff_ne.mpr c27
                  have c27b1 : (t363 != t365) = true := bne_iff_ne.mpr c27
                  have H' := Aside0.mk H
                  clear H
                  go_wp2
                  repeat (go_quiet (fail); try go_wp2)
                  go_meet
                  case rel => exact ⟨_, (false), (by first | rfl | (simp; done) | (simp [*]; done)), H', ⟨by first | omega | exact Nat.le_refl _⟩, ⟨by (with_reducible repeat (first | apply Kd.R_alloc | apply Kd.R_drewN | apply Kd.R_drew)); exact HO354.out⟩, ⟨by repeat (first | (with_reducible first | exact HB.out | apply below_alloc | apply pw_below_drewN | apply below_drew1) | exact HB.out)⟩⟩
              · rw [if_neg c26] at H
                have c26b0 : (t360 == t362) = false := beq_eq_false_iff_ne.mpr c26
                have c26b1 : (t360 != t362) = true := bne_iff_ne.mpr c26
                have H' := Aside0.mk H
                clear H
                go_wp2
                repeat (go_quiet (fail); try go_wp2)
                go_meet
                case rel => exact ⟨_, (false), (by first | rfl | (simp; done) | (simp [*]; done)), H', ⟨by first | omega | exact Nat.le_refl _⟩, ⟨by (with_reducible repeat (first | apply Kd.R_alloc | apply Kd.R_drewN | apply Kd.R_drew)); exact HO354.out⟩, ⟨by repeat (first | (with_reducible first | exact HB.out | apply below_alloc | apply pw_below_drewN | apply below_drew1) | exact HB.out)⟩⟩
            · rw [if_neg c25] at H
              have c25b0 : (t359 == t361) = false := beq_eq_false_iff_ne.mpr c25
              have c25b1 : (t359 != t361) = true := bne_iff_ne.mpr c25
              have H' := Aside0.mk H
              clear H
              go_wp2
              repeat (go_quiet (fail); try go_wp2)
              go_meet
              case rel => exact ⟨_, (false), (by first | rfl | (simp; done) | (simp [*]; done)), H', ⟨by first | omega | exact Nat.le_refl _⟩, ⟨by (with_reducible repeat (first | apply Kd.R_alloc | apply Kd.R_drewN | apply Kd.R_drew)); exact HO354.out⟩, ⟨by repeat (first | (with_reducible first | exact HB.out | apply below_alloc | apply pw_below_drewN | apply below_drew1) | exact HB.out)⟩⟩
          · rw [if_neg c24] at H
            have c24b0 : (t356 == t358) = false := beq_eq_false_iff_ne.mpr c24
            have c24b1 : (t356 != t358) = true := bne_iff_ne.mpr c24
            have H' := Aside0.mk H
            clear H
            go_wp2
            repeat (go_quiet (fail); try go_wp2)
            go_meet
            case rel => exact ⟨_, (false), (by first | rfl | (simp; done) | (simp [*]; done)), H', ⟨by first | omega | exact Nat.le_refl _⟩, ⟨by (with_reducible repeat (first | apply Kd.R_alloc | apply Kd.R_drewN | apply Kd.R_drew)); exact HO354.out⟩, ⟨by repeat (first | (with_reducible first | exact HB.out | apply below_alloc | apply pw_below_drewN | apply below_drew1) | exact HB.out)⟩⟩
        · rw [if_neg c23] at H
          have c23b0 : (t355 == t357) = false := beq_eq_false_iff_ne.mpr c23
          have c23b1 : (t355 != t357) = true := bne_iff_ne.mpr c23
          (first | rw [c23b0] | (simp only [i64_w, i32_w]; rw [c23b0]) | skip)
          have H' := Aside0.mk H
          clear H
          go_wp2
          repeat (go_quiet (fail); try go_wp2)
          go_meet
          case rel => exact ⟨_, (false), (by first | rfl | (simp; done) | (simp [*]; done)), H', ⟨by first | omega | exact Nat.le_refl _⟩, ⟨by (with_reducible repeat (first | apply Kd.R_alloc | apply Kd.R_drewN | apply Kd.R_drew)); exact HO354.out⟩, ⟨by repeat (first | (with_reducible first | exact HB.out | apply below_alloc | apply pw_below_drewN | apply below_drew1) | exact HB.out)⟩⟩
      case rest =>
        clear HC13
        try clear c2
        try clear p2
        try clear c5
        try clear c5b0
        try clear c5b1
        try clear c6
        try clear c23
        try clear c23b0
        try clear c23b1
        try clear c24
        try clear c24b0
        try clear c24b1
        try clear c25
        try clear c25b0
        try clear c25b1
        try clear c26
        try clear c26b0
        try clear c26b1
        try clear c27
        try clear c27b0
        try clear c27b1
        try clear c28
        try clear c28b0
        try clear c28b1
        obtain ⟨kq, x22_12, rfl, HA, HJ12, HO_9, HB⟩ := hcut
        cases kq with
        | zero => exact absurd HA.out (by simp [retargetlaw09_FormatFields.j0])
        | succ kj12 =>
          have H := HA.out
          clear HA
          simp only [retargetlaw09_FormatFields.j0] at H
          have H' := Aside0.mk H
          clear H
          go_wp2
          repeat (go_quiet (fail); try go_wp2)
          go_loopg [22, 23] kj12 (fun kq v22 v23 w' => ∃ (x22_2 : Bool) (x23_2 : Int), v22 = .bool x22_2 ∧ v23 = .int .i64 x23_2 ∧ Aside0 (retargetlaw09_FormatFields.l0 kq l2 y352 x22_2 x23_2 = some r) ∧ Aside0 (kq ≤ kj12) ∧ Aside0 (Kd.R k41 41 w' w.heap.size (fun _ => True) v353 y352) ∧ Aside0 (Below w.heap.size w w'))
          case atStart => exact ⟨(x22_12), (0), (by first | rfl | (simp; done) | (simp [*]; done)), (by first | rfl | (simp; done) | (simp [*]; done)), H', ⟨Nat.le_refl _⟩, ⟨by (with_reducible repeat (first | apply Kd.R_alloc | apply Kd.R_drewN | apply Kd.R_drew)); exact HO_9.out⟩, ⟨by repeat (first | (with_reducible first | exact HB.out | apply below_alloc | apply pw_below_drewN | apply below_drew1) | exact HB.out)⟩⟩
          case round =>
            clear H'
            try clear c2
            try clear p2
            try clear c5
            try clear c5b0
            try clear c5b1
            try clear c6
            try clear c23
            try clear c23b0
            try clear c23b1
            try clear c24
            try clear c24b0
            try clear c24b1
            try clear c25
            try clear c25b0
            try clear c25b1
            try clear c26
            try clear c26b0
            try clear c26b1
            try clear c27
            try clear c27b0
            try clear c27b1
            try clear c28
            try clear c28b0
            try clear c28b1
            try clear p2
            obtain ⟨x22_2, x23_2, rfl, rfl, HA, HK2, HO_9, HB⟩ := hrel
            cases gk with
            | zero => exact absurd HA.out (by simp [retargetlaw09_FormatFields.l0])
            | succ k2 =>
              have H := HA.out
              clear HA
              simp only [retargetlaw09_FormatFields.l0] at H
              by_cases c32 : x23_2 < (y352.length : Int)
              · rw [if_pos c32] at H
                have c32b0 : decide (x23_2 < (y352.length : Int)) = true := decide_eq_true c32
                clear c32
                by_cases c33 : x22_2 = true
                · subst c33
                  have H1 : (if 0 ≤ x23_2 then (if x23_2 < (l2.length : Int) then (retargetlaw09_FormatFields.l0 k2 l2 y352 (((rd_T41 y352 x23_2).f0) == ((rd_T41 l2 x23_2).f0) && (((rd_T41 y352 x23_2).f1) == ((rd_T41 l2 x23_2).f1))) (wrap64 (x23_2 + 1))) else (none)) else (none)) = some r := by rw [if_pos rfl] at H; exact H
                  clear H
                  have H := H1
                  clear H1
                  by_cases c34 : 0 ≤ x23_2
                  · rw [if_pos c34] at H
                    have c34b0 : decide (0 ≤ x23_2) = true := decide_eq_true c34
                    clear c34
                    by_cases c35 : x23_2 < (l2.length : Int)
                    · rw [if_pos c35] at H
                      have c35b0 : decide (x23_2 < (l2.length : Int)) = true := decide_eq_true c35
                      clear c35
                      have H' := Aside0.mk H
                      clear H
                      obtain ⟨Ao36, co36, eo36⟩ := Kd.R_slice HO_9.out
                      subst eo36
                      have p369 : 0 ≤ (x23_2 : Int) := of_decide_eq_true (by first | (with_reducible assumption) | assumption)
                      have q369 : x23_2 < (y352.length : Int) := of_decide_eq_true (by first | (with_reducible assumption) | assumption)
                      obtain ⟨ad369, e369, hx369_0, hx369_1⟩ := at_T41 (Kd.R_reads' HO_9.out).2.2 x23_2 p369 q369
                      cases e369
                      replace p369 := eq_true p369
                      replace q369 := eq_true q369
                      have p370 : 0 ≤ (x23_2 : Int) := of_decide_eq_true (by first | (with_reducible assumption) | assumption)
                      have q370 : x23_2 < (l2.length : Int) := of_decide_eq_true (by first | (with_reducible assumption) | assumption)
                      obtain ⟨ad370, e370, hx370_0, hx370_1⟩ := at_T41 HR2.out x23_2 p370 q370
                      cases e370
                      replace hx370_0 := (HB.out.cell (World.block_lt_of_cell? w _ hx370_0)).trans hx370_0
                      replace hx370_1 := (HB.out.cell (World.block_lt_of_cell? w _ hx370_1)).trans hx370_1
                      replace p370 := eq_true p370
                      replace q370 := eq_true q370
                      go_wp2
                      repeat (go_quiet (fail); try go_wp2)
                      go_roundg k2
                      case measure => have := HJ12.out; have := HK2.out; omega
                      case rel => exact ⟨((((rd_T41 y352 x23_2).f0) == ((rd_T41 l2 x23_2).f0) && (((rd_T41 y352 x23_2).f1) == ((rd_T41 l2 x23_2).f1)))), (wrap64 (x23_2 + 1)), (by first | rfl | (simp; done) | (simp [*]; done)), (by first | rfl | (simp; done) | (simp [*]; done)), H', ⟨by have := HJ12.out; have := HK2.out; omega⟩, ⟨by (with_reducible repeat (first | apply Kd.R_alloc | apply Kd.R_drewN | apply Kd.R_drew)); exact HO_9.out⟩, ⟨by repeat (first | (with_reducible first | exact HB.out | apply below_alloc | apply pw_below_drewN | apply below_drew1) | exact HB.out)⟩⟩
                    · rw [if_neg c35] at H
                      exact absurd H (by simp)
                  · rw [if_neg c34] at H
                    exact absurd H (by simp)
                · replace c33 := Bool.eq_false_iff.mpr c33
                  subst c33
                  have H1 : (retargetlaw09_FormatFields.l0 k2 l2 y352 false (wrap64 (x23_2 + 1))) = some r := by rw [if_neg (show ¬ (false = true) by decide)] at H; exact H
                  clear H
                  have H := H1
                  clear H1
                  have H' := Aside0.mk H
                  clear H
                  obtain ⟨Ao37, co37, eo37⟩ := Kd.R_slice HO_9.out
                  subst eo37
                  go_wp2
                  repeat (go_quiet (fail); try go_wp2)
                  go_roundg k2
                  case measure => have := HJ12.out; have := HK2.out; omega
                  case rel => exact ⟨(false), (wrap64 (x23_2 + 1)), (by first | rfl | (simp; done) | (simp [*]; done)), (by first | rfl | (simp; done) | (simp [*]; done)), H', ⟨by have := HJ12.out; have := HK2.out; omega⟩, ⟨by (with_reducible repeat (first | apply Kd.R_alloc | apply Kd.R_drewN | apply Kd.R_drew)); exact HO_9.out⟩, ⟨by repeat (first | (with_reducible first | exact HB.out | apply below_alloc | apply pw_below_drewN | apply below_drew1) | exact HB.out)⟩⟩
              · rw [if_neg c32] at H
                have c32b0 : decide (x23_2 < (y352.length : Int)) = false := decide_eq_false c32
                clear c32
                obtain rfl := Option.some.inj H
                obtain ⟨Ao38, co38, eo38⟩ := Kd.R_slice HO_9.out
                subst eo38
                go_wp2
                repeat (go_quiet (fail); try go_wp2)
                go_ret
                exact ⟨by first | rfl | (simp [errW_none, errW_some] <;> rfl) | (simp [*, errW_none, errW_some] <;> rfl), by repeat (first | (with_reducible first | exact HB.out | apply below_alloc | apply pw_below_drewN | apply below_drew1) | exact HB.out)⟩
    · rw [if_neg c6] at H
      exact absurd H (by simp)

end Go.Proofs.Ytgbciglkfbiopaa.Q
