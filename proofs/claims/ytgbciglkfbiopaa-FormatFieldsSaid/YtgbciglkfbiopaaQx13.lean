-- Written by wip/tools/given.py (own program over the kit's print.py) out of the translation. Not trusted: Lean checks it.
import Derived.Test.YtgbciglkfbiopaaQx0
import Derived.Test.YtgbciglkfbiopaaQx5
import Derived.Test.YtgbciglkfbiopaaQx12
namespace Go.Proofs.Ytgbciglkfbiopaa.Q
open Go.RowKit Go.Proofs.YtgbciglkfbiopaaW.PrintWords Go.Proofs.YtgbciglkfbiopaaW.PrintLast Go.Proofs.YtgbciglkfbiopaaW.PrintMore
attribute [local go_sem] max2_int min2_int max_two min_two max_three min_three max_four min_four   -- for this text's walks alone
set_option linter.unusedVariables false
set_option linter.unusedSimpArgs false

/-! ### retargetref08_Bit: function 43 -/
def retargetref08_Bit.l0 : Nat → Int → Int → Int → Option (Int)
  | 0, _, _, _ => none
  | k + 1, x0, x1, x5 => if x5 < x1 then (retargetref08_Bit.l0 k (IntKind.u64.wrap (Int.tdiv x0 2)) x1 (wrap64 (x5 + 1))) else (some (wrap64 (Int.tmod x0 2)))
def retargetref08_Bit.f (k : Nat) (a0 : Int) (a1 : Int) : Option (Int) := retargetref08_Bit.l0 k a0 a1 0
theorem retargetref08_Bit.mono_l : ∀ k, (∀ y0 y1 y2, LeO (retargetref08_Bit.l0 k y0 y1 y2) (retargetref08_Bit.l0 (k + 1) y0 y1 y2))
  | 0 => fun _ _ _ r h => by simp [retargetref08_Bit.l0] at h
  | k + 1 => by
    have ih0 := retargetref08_Bit.mono_l k
    · intro y0 y1 y2
      unfold retargetref08_Bit.l0
      repeat' first
      | (with_reducible exact ih0 _ _ _)
      | (with_reducible exact LeO.refl _)
      | (with_reducible exact LeO.none _)
      | (with_reducible refine LeO.ite ?_ ?_)
      | (with_reducible refine LeO.bind ?_ (fun _ => ?_))
      | exact ih0 _ _ _
      | exact LeO.none _
      | refine LeO.ite ?_ ?_
      | refine LeO.bind ?_ (fun _ => ?_)
theorem retargetref08_Bit.mono : ∀ a0 a1 k, LeO (retargetref08_Bit.f k a0 a1) (retargetref08_Bit.f (k + 1) a0 a1) := by
  intro a0 a1 k
  have ih0 := retargetref08_Bit.mono_l k
  unfold retargetref08_Bit.f
  repeat' first
      | (with_reducible exact ih0 _ _ _)
      | (with_reducible exact LeO.refl _)
      | (with_reducible exact LeO.none _)
      | (with_reducible refine LeO.ite ?_ ?_)
      | (with_reducible refine LeO.bind ?_ (fun _ => ?_))
      | exact ih0 _ _ _
      | exact LeO.none _
      | refine LeO.ite ?_ ?_
      | refine LeO.bind ?_ (fun _ => ?_)
set_option maxHeartbeats 8000000 in
set_option maxRecDepth 100000 in
theorem retargetref08_Bit.calls (k : Nat) (a0 : Int) (a1 : Int) (r : Int) (w : World) (h : retargetref08_Bit.f k a0 a1 = some r) :
    Calls Try.prog 43 #[.int .u64 a0, .int .i64 a1] w fun e w' => e = .returned (.int .i64 r) ∧ Drawn0 w w' := by
  have H : (retargetref08_Bit.l0 k a0 a1 0) = some r := h
  clear h
  have H' := Aside0.mk H
  clear H
  go_enter Try.func43, Try.ntmps43
  go_wp2
  go_loopg [0, 5] k (fun kq v0 v5 w' => ∃ (x0_1 : Int) (x5_1 : Int), v0 = .int .u64 x0_1 ∧ v5 = .int .i64 x5_1 ∧ Aside0 (retargetref08_Bit.l0 kq x0_1 a1 x5_1 = some r) ∧ Aside0 (kq ≤ k) ∧ Drawn0 w w')
  case atStart => exact ⟨(a0), (0), (by first | rfl | (simp; done) | (simp [*]; done)), (by first | rfl | (simp; done) | (simp [*]; done)), H', ⟨Nat.le_refl _⟩, by repeat (first | exact Drawn0.refl _ | apply Drawn0.step)⟩
  case round =>
    clear H'
    try clear p2
    obtain ⟨x0_1, x5_1, rfl, rfl, HA, HK1, ⟨m1, rfl⟩⟩ := hrel
    cases gk with
    | zero => exact absurd HA.out (by simp [retargetref08_Bit.l0])
    | succ k1 =>
      have H := HA.out
      clear HA
      simp only [retargetref08_Bit.l0] at H
      by_cases c3 : x5_1 < a1
      · rw [if_pos c3] at H
        have c3b0 : decide (x5_1 < a1) = true := decide_eq_true c3
        clear c3
        have H' := Aside0.mk H
        clear H
        go_wp2
        go_roundg k1
        case measure => have := HK1.out; omega
        case rel => exact ⟨(IntKind.u64.wrap (Int.tdiv x0_1 2)), (wrap64 (x5_1 + 1)), (by first | rfl | (simp; done) | (simp [*]; done)), (by first | rfl | (simp; done) | (simp [*]; done)), H', ⟨by have := HK1.out; omega⟩, by repeat (first | exact Drawn0.refl _ | apply Drawn0.step)⟩
      · rw [if_neg c3] at H
        have c3b0 : decide (x5_1 < a1) = false := decide_eq_false c3
        clear c3
        obtain rfl := Option.some.inj H
        go_wp2
        go_ret
        exact ⟨by first | rfl | (simp; done) | (simp [*]; done), by repeat (first | exact Drawn0.refl _ | apply Drawn0.step)⟩

/-! ### retargetref09_Put: function 26 -/
mutual
def retargetref09_Put.j0 : Nat → Int → List (S41) → Int → Int → Bool → Option (Int × Int)
  | 0, _, _, _, _, _ => none
  | k + 1, x1, x2, x3, x10, x31 => if x31 = true then (retargetref09_Put.j1 k x1 x2 x3 24) else (retargetref09_Put.j1 k x1 x2 x3 x10)
def retargetref09_Put.j1 : Nat → Int → List (S41) → Int → Int → Option (Int × Int)
  | 0, _, _, _, _ => none
  | k + 1, x1, x2, x3, x10 => if x10 = 0 then ((retargetref09_Places.f k x2).bind fun t331 => (retargetref09_Put.l0 k x1 x3 t331 0)) else (some (0, x10))
def retargetref09_Put.l0 : Nat → Int → Int → List Int → Int → Option (Int × Int)
  | 0, _, _, _, _ => none
  | k + 1, x1, x3, x11, x12 => if x12 < (x11.length : Int) then (if 0 ≤ x12 then ((retargetref08_Bit.f k x1 (rd x11 x12)).bind fun t335 => (if t335 = 1 then ((retargetref09_value.f k (rd x11 x12)).bind fun t337 => (retargetref09_Put.j3 k (IntKind.u64.wrap (x1 - t337)) x3 x11 x12)) else (retargetref09_Put.j3 k x1 x3 x11 x12))) else (none)) else (some (x1, 0))
def retargetref09_Put.j3 : Nat → Int → Int → List Int → Int → Option (Int × Int)
  | 0, _, _, _, _ => none
  | k + 1, x1, x3, x11, x12 => (retargetref08_Bit.f k x3 x12).bind fun t338 => (if t338 = 1 then (if 0 ≤ x12 then (if x12 < (x11.length : Int) then ((retargetref09_value.f k (rd x11 x12)).bind fun t340 => (retargetref09_Put.l0 k (IntKind.u64.wrap (x1 + t340)) x3 x11 (wrap64 (x12 + 1)))) else (none)) else (none)) else (retargetref09_Put.l0 k x1 x3 x11 (wrap64 (x12 + 1))))
end
def retargetref09_Put.f (k : Nat) (a0 : Int) (a1 : Int) (l2 : List (S41)) (a3 : Int) : Option (Int × Int) := (retargetref09_Check.f k a0 l2).bind fun t325 => (if t325 = 0 then ((retargetref09_below.f k a1 a0).bind fun t326 => (if t326 = true then ((retargetref09_Places.f k l2).bind fun t327 => ((retargetref09_below.f k a3 (t327.length : Int)).bind fun t330 => (retargetref09_Put.j0 k a1 l2 a3 t325 (!t330)))) else (retargetref09_Put.j0 k a1 l2 a3 t325 true))) else (retargetref09_Put.j0 k a1 l2 a3 t325 false))
theorem retargetref09_Put.mono_l : ∀ k, (∀ y0 y1 y2 y3 y4, LeO (retargetref09_Put.j0 k y0 y1 y2 y3 y4) (retargetref09_Put.j0 (k + 1) y0 y1 y2 y3 y4)) ∧ (∀ y0 y1 y2 y3, LeO (retargetref09_Put.j1 k y0 y1 y2 y3) (retargetref09_Put.j1 (k + 1) y0 y1 y2 y3)) ∧ (∀ y0 y1 y2 y3, LeO (retargetref09_Put.l0 k y0 y1 y2 y3) (retargetref09_Put.l0 (k + 1) y0 y1 y2 y3)) ∧ (∀ y0 y1 y2 y3, LeO (retargetref09_Put.j3 k y0 y1 y2 y3) (retargetref09_Put.j3 (k + 1) y0 y1 y2 y3))
  | 0 => ⟨fun _ _ _ _ _ r h => by simp [retargetref09_Put.j0] at h, fun _ _ _ _ r h => by simp [retargetref09_Put.j1] at h, fun _ _ _ _ r h => by simp [retargetref09_Put.l0] at h, fun _ _ _ _ r h => by simp [retargetref09_Put.j3] at h⟩
  | k + 1 => by
    obtain ⟨ih0, ih1, ih2, ih3⟩ := retargetref09_Put.mono_l k
    refine ⟨?_, ?_, ?_, ?_⟩
    · intro y0 y1 y2 y3 y4
      unfold retargetref09_Put.j0
      repeat' first
      | (with_reducible exact ih0 _ _ _ _ _)
      | (with_reducible exact ih1 _ _ _ _)
      | (with_reducible exact ih2 _ _ _ _)
      | (with_reducible exact ih3 _ _ _ _)
      | (with_reducible exact retargetref08_Bit.mono _ _ _)
      | (with_reducible exact retargetref09_Check.mono _ _ _)
      | (with_reducible exact retargetref09_Places.mono _ _)
      | (with_reducible exact retargetref09_below.mono _ _ _)
      | (with_reducible exact retargetref09_value.mono _ _)
      | (with_reducible exact LeO.refl _)
      | (with_reducible exact LeO.none _)
      | (with_reducible refine LeO.ite ?_ ?_)
      | (with_reducible refine LeO.bind ?_ (fun _ => ?_))
      | exact ih0 _ _ _ _ _
      | exact ih1 _ _ _ _
      | exact ih2 _ _ _ _
      | exact ih3 _ _ _ _
      | exact retargetref08_Bit.mono _ _ _
      | exact retargetref09_Check.mono _ _ _
      | exact retargetref09_Places.mono _ _
      | exact retargetref09_below.mono _ _ _
      | exact retargetref09_value.mono _ _
      | exact LeO.none _
      | refine LeO.ite ?_ ?_
      | refine LeO.bind ?_ (fun _ => ?_)
    · intro y0 y1 y2 y3
      unfold retargetref09_Put.j1
      repeat' first
      | (with_reducible exact ih0 _ _ _ _ _)
      | (with_reducible exact ih1 _ _ _ _)
      | (with_reducible exact ih2 _ _ _ _)
      | (with_reducible exact ih3 _ _ _ _)
      | (with_reducible exact retargetref08_Bit.mono _ _ _)
      | (with_reducible exact retargetref09_Check.mono _ _ _)
      | (with_reducible exact retargetref09_Places.mono _ _)
      | (with_reducible exact retargetref09_below.mono _ _ _)
      | (with_reducible exact retargetref09_value.mono _ _)
      | (with_reducible exact LeO.refl _)
      | (with_reducible exact LeO.none _)
      | (with_reducible refine LeO.ite ?_ ?_)
      | (with_reducible refine LeO.bind ?_ (fun _ => ?_))
      | exact ih0 _ _ _ _ _
      | exact ih1 _ _ _ _
      | exact ih2 _ _ _ _
      | exact ih3 _ _ _ _
      | exact retargetref08_Bit.mono _ _ _
      | exact retargetref09_Check.mono _ _ _
      | exact retargetref09_Places.mono _ _
      | exact retargetref09_below.mono _ _ _
      | exact retargetref09_value.mono _ _
      | exact LeO.none _
      | refine LeO.ite ?_ ?_
      | refine LeO.bind ?_ (fun _ => ?_)
    · intro y0 y1 y2 y3
      unfold retargetref09_Put.l0
      repeat' first
      | (with_reducible exact ih0 _ _ _ _ _)
      | (with_reducible exact ih1 _ _ _ _)
      | (with_reducible exact ih2 _ _ _ _)
      | (with_reducible exact ih3 _ _ _ _)
      | (with_reducible exact retargetref08_Bit.mono _ _ _)
      | (with_reducible exact retargetref09_Check.mono _ _ _)
      | (with_reducible exact retargetref09_Places.mono _ _)
      | (with_reducible exact retargetref09_below.mono _ _ _)
      | (with_reducible exact retargetref09_value.mono _ _)
      | (with_reducible exact LeO.refl _)
      | (with_reducible exact LeO.none _)
      | (with_reducible refine LeO.ite ?_ ?_)
      | (with_reducible refine LeO.bind ?_ (fun _ => ?_))
      | exact ih0 _ _ _ _ _
      | exact ih1 _ _ _ _
      | exact ih2 _ _ _ _
      | exact ih3 _ _ _ _
      | exact retargetref08_Bit.mono _ _ _
      | exact retargetref09_Check.mono _ _ _
      | exact retargetref09_Places.mono _ _
      | exact retargetref09_below.mono _ _ _
      | exact retargetref09_value.mono _ _
      | exact LeO.none _
      | refine LeO.ite ?_ ?_
      | refine LeO.bind ?_ (fun _ => ?_)
    · intro y0 y1 y2 y3
      unfold retargetref09_Put.j3
      repeat' first
      | (with_reducible exact ih0 _ _ _ _ _)
      | (with_reducible exact ih1 _ _ _ _)
      | (with_reducible exact ih2 _ _ _ _)
      | (with_reducible exact ih3 _ _ _ _)
      | (with_reducible exact retargetref08_Bit.mono _ _ _)
      | (with_reducible exact retargetref09_Check.mono _ _ _)
      | (with_reducible exact retargetref09_Places.mono _ _)
      | (with_reducible exact retargetref09_below.mono _ _ _)
      | (with_reducible exact retargetref09_value.mono _ _)
      | (with_reducible exact LeO.refl _)
      | (with_reducible exact LeO.none _)
      | (with_reducible refine LeO.ite ?_ ?_)
      | (with_reducible refine LeO.bind ?_ (fun _ => ?_))
      | exact ih0 _ _ _ _ _
      | exact ih1 _ _ _ _
      | exact ih2 _ _ _ _
      | exact ih3 _ _ _ _
      | exact retargetref08_Bit.mono _ _ _
      | exact retargetref09_Check.mono _ _ _
      | exact retargetref09_Places.mono _ _
      | exact retargetref09_below.mono _ _ _
      | exact retargetref09_value.mono _ _
      | exact LeO.none _
      | refine LeO.ite ?_ ?_
      | refine LeO.bind ?_ (fun _ => ?_)
theorem retargetref09_Put.mono : ∀ a0 a1 a2 a3 k, LeO (retargetref09_Put.f k a0 a1 a2 a3) (retargetref09_Put.f (k + 1) a0 a1 a2 a3) := by
  intro a0 a1 a2 a3 k
  obtain ⟨ih0, ih1, ih2, ih3⟩ := retargetref09_Put.mono_l k
  unfold retargetref09_Put.f
  repeat' first
      | (with_reducible exact ih0 _ _ _ _ _)
      | (with_reducible exact ih1 _ _ _ _)
      | (with_reducible exact ih2 _ _ _ _)
      | (with_reducible exact ih3 _ _ _ _)
      | (with_reducible exact retargetref08_Bit.mono _ _ _)
      | (with_reducible exact retargetref09_Check.mono _ _ _)
      | (with_reducible exact retargetref09_Places.mono _ _)
      | (with_reducible exact retargetref09_below.mono _ _ _)
      | (with_reducible exact retargetref09_value.mono _ _)
      | (with_reducible exact LeO.refl _)
      | (with_reducible exact LeO.none _)
      | (with_reducible refine LeO.ite ?_ ?_)
      | (with_reducible refine LeO.bind ?_ (fun _ => ?_))
      | exact ih0 _ _ _ _ _
      | exact ih1 _ _ _ _
      | exact ih2 _ _ _ _
      | exact ih3 _ _ _ _
      | exact retargetref08_Bit.mono _ _ _
      | exact retargetref09_Check.mono _ _ _
      | exact retargetref09_Places.mono _ _
      | exact retargetref09_below.mono _ _ _
      | exact retargetref09_value.mono _ _
      | exact LeO.none _
      | refine LeO.ite ?_ ?_
      | refine LeO.bind ?_ (fun _ => ?_)
set_option maxHeartbeats 8000000 in
set_option maxRecDepth 100000 in
theorem retargetref09_Put.calls (k : Nat) (a0 : Int) (a1 : Int) (A2 : Option Addr) (c2 : Nat) (l2 : List (S41)) (a3 : Int) (r1 : Int) (r2 : Int) (w : World) (hr2 : Kd.C k41 w A2 l2.length l2) (hc2 : l2.length ≤ c2) (h : retargetref09_Put.f k a0 a1 l2 a3 = some (r1, r2)) :
    Calls Try.prog 26 #[.int .i64 a0, .int .u64 a1, .slice A2 l2.length c2, .int .u64 a3] w fun e w' => e = .returned (.tuple #[.int .u64 r1, .int .i64 r2]) ∧ Below w.heap.size w w' := by
  have HR2 := Aside0.mk hr2
  have HC2 := Aside0.mk hc2
  clear hr2 hc2
  have HB := Aside0.mk (Below.refl w.heap.size w)
  have H : ((retargetref09_Check.f k a0 l2).bind fun t325 => (if t325 = 0 then ((retargetref09_below.f k a1 a0).bind fun t326 => (if t326 = true then ((retargetref09_Places.f k l2).bind fun t327 => ((retargetref09_below.f k a3 (t327.length : Int)).bind fun t330 => (retargetref09_Put.j0 k a1 l2 a3 t325 (!t330)))) else (retargetref09_Put.j0 k a1 l2 a3 t325 true))) else (retargetref09_Put.j0 k a1 l2 a3 t325 false))) = some (r1, r2) := h
  clear h
  replace H := Option.bind_eq_some_iff.mp H
  obtain ⟨t325, A50, H⟩ := H
  replace H : (if t325 = 0 then ((retargetref09_below.f k a1 a0).bind fun t326 => (if t326 = true then ((retargetref09_Places.f k l2).bind fun t327 => ((retargetref09_below.f k a3 (t327.length : Int)).bind fun t330 => (retargetref09_Put.j0 k a1 l2 a3 t325 (!t330)))) else (retargetref09_Put.j0 k a1 l2 a3 t325 true))) else (retargetref09_Put.j0 k a1 l2 a3 t325 false)) = some (r1, r2) := H
  have A5 := Aside0.mk A50
  clear A50
  have HC6 := Aside0.mk H
  clear H
  go_enter Try.func26, Try.ntmps26
  go_upto_region 2 with (first | ((with_reducible refine gate_callee (f := 28) rfl ?_); refine goesL_ (some 15) rfl rfl Try.func28 (by kernel_rfl) rfl #[.int .i64 a0, .slice A2 l2.length c2] rfl (by (try simp only [List.map_toArray, List.map_cons, List.map_nil]); first | done | rfl | (simp only [List.length_drop, List.length_take]; rfl)) ?_; (with_reducible refine (retargetref09_Check.calls k a0 _ _ l2 t325 _ ?side1 ?side2 A5.out).mono ?_); (case side1 => repeat (first | exact HR2.out | (with_reducible refine Kd.C_alloc ?_ _) | (with_reducible refine Kd.C_drewN ?_ _) | (with_reducible refine Kd.C_drew ?_))); (case side2 => exact HC2.out); rintro e w' ⟨rfl, ⟨nd, rfl⟩⟩; refine ⟨_, rfl, ?_⟩))
  (try simp only [Act.put, List.setIfInBounds_toArray, List.set_cons_zero, List.set_cons_succ])
  go_cut [31] (fun v31 wc => ∃ (kq : Nat) (x31_5 : Bool), v31 = .bool x31_5 ∧ Aside0 (retargetref09_Put.j0 kq a1 l2 a3 t325 x31_5 = some (r1, r2)) ∧ Aside0 (kq ≤ k) ∧ Aside0 (Below w.heap.size w wc))
  case first =>
    have H := HC6.out
    clear HC6
    by_cases c7 : t325 = 0
    · rw [if_pos c7] at H
      have c7b0 : (t325 == 0) = true := beq_iff_eq.mpr c7
      have c7b1 : (t325 != 0) = false := bne_eq_false_iff_eq.mpr c7
      clear c7
      (first | rw [c7b0] | (simp only [i64_w, i32_w]; rw [c7b0]) | skip)
      replace H := Option.bind_eq_some_iff.mp H
      obtain ⟨t326, A80, H⟩ := H
      replace H : (if t326 = true then ((retargetref09_Places.f k l2).bind fun t327 => ((retargetref09_below.f k a3 (t327.length : Int)).bind fun t330 => (retargetref09_Put.j0 k a1 l2 a3 t325 (!t330)))) else (retargetref09_Put.j0 k a1 l2 a3 t325 true)) = some (r1, r2) := H
      have A8 := Aside0.mk A80
      clear A80
      by_cases c9 : t326 = true
      · subst c9
        have H1 : ((retargetref09_Places.f k l2).bind fun t327 => ((retargetref09_below.f k a3 (t327.length : Int)).bind fun t330 => (retargetref09_Put.j0 k a1 l2 a3 t325 (!t330)))) = some (r1, r2) := by rw [if_pos rfl] at H; exact H
        clear H
        have H := H1
        clear H1
        replace H := Option.bind_eq_some_iff.mp H
        obtain ⟨t327, A100, H⟩ := H
        replace H : ((retargetref09_below.f k a3 (t327.length : Int)).bind fun t330 => (retargetref09_Put.j0 k a1 l2 a3 t325 (!t330))) = some (r1, r2) := H
        have A10 := Aside0.mk A100
        clear A100
        replace H := Option.bind_eq_some_iff.mp H
        obtain ⟨t330, A110, H⟩ := H
        replace H : (retargetref09_Put.j0 k a1 l2 a3 t325 (!t330)) = some (r1, r2) := H
        have A11 := Aside0.mk A110
        clear A110
        have H' := Aside0.mk H
        clear H
        go_wp2_with (first | (go_at_call 36; (with_reducible refine (retargetref09_below.calls k a1 a0 true _ A8.out).mono ?_); rintro e w' ⟨rfl, ⟨nd, rfl⟩⟩) | (go_at_call 41; (with_reducible refine (retargetref09_Places.calls k _ _ l2 t327 _ ?side1 ?side2 A10.out).mono ?_); (case side1 => repeat (first | exact (Kd.C_below HR2.out (by repeat (first | (with_reducible first | exact HB.out | apply below_alloc | apply pw_below_drewN | apply below_drew1) | exact HB.out))) | (with_reducible refine Kd.C_alloc ?_ _) | (with_reducible refine Kd.C_drewN ?_ _) | (with_reducible refine Kd.C_drew ?_))); (case side2 => exact HC2.out); rintro e w12 ⟨v328, rfl, ho0, hb⟩; have n0_ := Aside0.mk (Kd.R_lower ho0 (below_size (by repeat (first | (with_reducible first | exact HB.out | apply below_alloc | apply pw_below_drewN | apply below_drew1) | exact HB.out)))); have n1_ := Aside0.mk (below_step (by repeat (first | (with_reducible first | exact HB.out | apply below_alloc | apply pw_below_drewN | apply below_drew1) | exact HB.out)) hb); clear HB; have HO329 := n0_; have HB := n1_; clear n0_ n1_; (try clear hb); (try clear hb2); (try clear hk); (try clear hi); (try clear ho0); obtain ⟨Ao13, co13, eo13⟩ := Kd.R_slice HO329.out; subst eo13) | (go_at_call 36; (with_reducible refine (retargetref09_below.calls k a3 (t327.length : Int) t330 _ A11.out).mono ?_); rintro e w' ⟨rfl, ⟨nd, rfl⟩⟩))
        go_meet
        case rel => exact ⟨_, (!t330), (by first | rfl | (simp; done) | (simp [*]; done)), H', ⟨by first | omega | exact Nat.le_refl _⟩, ⟨by repeat (first | (with_reducible first | exact HB.out | apply below_alloc | apply pw_below_drewN | apply below_drew1) | exact HB.out)⟩⟩
      · replace c9 := Bool.eq_false_iff.mpr c9
        subst c9
        have H1 : (retargetref09_Put.j0 k a1 l2 a3 t325 true) = some (r1, r2) := by rw [if_neg (show ¬ (false = true) by decide)] at H; exact H
        clear H
        have H := H1
        clear H1
        have H' := Aside0.mk H
        clear H
        go_wp2_with (first | (go_at_call 36; (with_reducible refine (retargetref09_below.calls k a1 a0 false _ A8.out).mono ?_); rintro e w' ⟨rfl, ⟨nd, rfl⟩⟩))
        go_meet
        case rel => exact ⟨_, (true), (by first | rfl | (simp; done) | (simp [*]; done)), H', ⟨by first | omega | exact Nat.le_refl _⟩, ⟨by repeat (first | (with_reducible first | exact HB.out | apply below_alloc | apply pw_below_drewN | apply below_drew1) | exact HB.out)⟩⟩
    · rw [if_neg c7] at H
      have c7b0 : (t325 == 0) = false := beq_eq_false_iff_ne.mpr c7
      have c7b1 : (t325 != 0) = true := bne_iff_ne.mpr c7
      (first | rw [c7b0] | (simp only [i64_w, i32_w]; rw [c7b0]) | skip)
      have H' := Aside0.mk H
      clear H
      go_wp2
      go_meet
      case rel => exact ⟨_, (false), (by first | rfl | (simp; done) | (simp [*]; done)), H', ⟨by first | omega | exact Nat.le_refl _⟩, ⟨by repeat (first | (with_reducible first | exact HB.out | apply below_alloc | apply pw_below_drewN | apply below_drew1) | exact HB.out)⟩⟩
  case rest =>
    clear HC6
    try clear c2
    try clear p2
    try clear c7
    try clear c7b0
    try clear c7b1
    try clear c9
    obtain ⟨kq, x31_5, rfl, HA, HJ5, HB⟩ := hcut
    cases kq with
    | zero => exact absurd HA.out (by simp [retargetref09_Put.j0])
    | succ kj5 =>
      have H := HA.out
      clear HA
      simp only [retargetref09_Put.j0] at H
      have HC14 := Aside0.mk H
      clear H
      go_upto_if 31 with (fail)
      go_cut [10] (fun v10 wc => ∃ (kq : Nat) (x10_13 : Int), v10 = .int .i64 x10_13 ∧ Aside0 (retargetref09_Put.j1 kq a1 l2 a3 x10_13 = some (r1, r2)) ∧ Aside0 (kq ≤ kj5) ∧ Aside0 (Below w.heap.size w wc))
      case first =>
        have H := HC14.out
        clear HC14
        by_cases c15 : x31_5 = true
        · subst c15
          have H1 : (retargetref09_Put.j1 kj5 a1 l2 a3 24) = some (r1, r2) := by rw [if_pos rfl] at H; exact H
          clear H
          have H := H1
          clear H1
          have H' := Aside0.mk H
          clear H
          go_wp2
          go_meet
          case rel => exact ⟨_, (24), (by first | rfl | (simp; done) | (simp [*]; done)), H', ⟨by have := HJ5.out; first | omega | exact Nat.le_refl _⟩, ⟨by repeat (first | (with_reducible first | exact HB.out | apply below_alloc | apply pw_below_drewN | apply below_drew1) | exact HB.out)⟩⟩
        · replace c15 := Bool.eq_false_iff.mpr c15
          subst c15
          have H1 : (retargetref09_Put.j1 kj5 a1 l2 a3 t325) = some (r1, r2) := by rw [if_neg (show ¬ (false = true) by decide)] at H; exact H
          clear H
          have H := H1
          clear H1
          have H' := Aside0.mk H
          clear H
          go_wp2
          go_meet
          case rel => exact ⟨_, (t325), (by first | rfl | (simp; done) | (simp [*]; done)), H', ⟨by have := HJ5.out; first | omega | exact Nat.le_refl _⟩, ⟨by repeat (first | (with_reducible first | exact HB.out | apply below_alloc | apply pw_below_drewN | apply below_drew1) | exact HB.out)⟩⟩
      case rest =>
        clear HC14
        try clear c1
        try clear c2
        try clear p2
        try clear c7
        try clear c7b0
        try clear c7b1
        try clear c9
        try clear c15
        try clear p2
        obtain ⟨kq, x10_13, rfl, HA, HJ13, HB⟩ := hcut
        cases kq with
        | zero => exact absurd HA.out (by simp [retargetref09_Put.j1])
        | succ kj13 =>
          have H := HA.out
          clear HA
          simp only [retargetref09_Put.j1] at H
          by_cases c16 : x10_13 = 0
          · rw [if_pos c16] at H
            have c16b0 : (x10_13 == 0) = true := beq_iff_eq.mpr c16
            have c16b1 : (x10_13 != 0) = false := bne_eq_false_iff_eq.mpr c16
            clear c16
            replace H := Option.bind_eq_some_iff.mp H
            obtain ⟨t331, A170, H⟩ := H
            replace H : (retargetref09_Put.l0 kj13 a1 a3 t331 0) = some (r1, r2) := H
            have A17 := Aside0.mk A170
            clear A170
            have H' := Aside0.mk H
            clear H
            go_wp2_with (first | ((with_reducible refine gate_callee (f := 41) rfl ?_); refine goesL_ (some 36) rfl rfl Try.func41 (by kernel_rfl) rfl #[.slice A2 l2.length c2] rfl (by (try simp only [List.map_toArray, List.map_cons, List.map_nil]); first | done | rfl | (simp only [List.length_drop, List.length_take]; rfl)) ?_; (with_reducible refine (retargetref09_Places.calls kj13 _ _ l2 t331 _ ?side1 ?side2 A17.out).mono ?_); (case side1 => repeat (first | exact (Kd.C_below HR2.out HB.out) | (with_reducible refine Kd.C_alloc ?_ _) | (with_reducible refine Kd.C_drewN ?_ _) | (with_reducible refine Kd.C_drew ?_))); (case side2 => exact HC2.out); rintro e w18 ⟨v332, rfl, ho0, hb⟩; refine ⟨_, rfl, ?_⟩; have n0_ := Aside0.mk (Kd.R_lower ho0 (below_size (by repeat (first | (with_reducible first | exact HB.out | apply below_alloc | apply pw_below_drewN | apply below_drew1) | exact HB.out)))); have n1_ := Aside0.mk (below_step (by repeat (first | (with_reducible first | exact HB.out | apply below_alloc | apply pw_below_drewN | apply below_drew1) | exact HB.out)) hb); clear HB; have HO333 := n0_; have HB := n1_; clear n0_ n1_; (try clear hb); (try clear hb2); (try clear hk); (try clear hi); (try clear ho0)))
            go_loopg [1, 12] kj13 (fun kq v1 v12 w' => ∃ (x1_3 : Int) (x12_3 : Int), v1 = .int .u64 x1_3 ∧ v12 = .int .i64 x12_3 ∧ Aside0 (retargetref09_Put.l0 kq x1_3 a3 t331 x12_3 = some (r1, r2)) ∧ Aside0 (kq ≤ kj13) ∧ Aside0 (Kd.R (Kd.int .i64) 3 w' w.heap.size (fun _ => True) v332 t331) ∧ Aside0 (Below w.heap.size w w'))
            case atStart => exact ⟨(a1), (0), (by first | rfl | (simp; done) | (simp [*]; done)), (by first | rfl | (simp; done) | (simp [*]; done)), H', ⟨Nat.le_refl _⟩, ⟨by (with_reducible repeat (first | apply Kd.R_alloc | apply Kd.R_drewN | apply Kd.R_drew)); exact HO333.out⟩, ⟨by repeat (first | (with_reducible first | exact HB.out | apply below_alloc | apply pw_below_drewN | apply below_drew1) | exact HB.out)⟩⟩
            case round =>
              clear H'
              try clear c1
              try clear c2
              try clear p2
              try clear c4
              try clear c7
              try clear c7b0
              try clear c7b1
              try clear c9
              try clear c15
              try clear c16
              try clear c16b0
              try clear c16b1
              try clear p2
              obtain ⟨x1_3, x12_3, rfl, rfl, HA, HK3, HO_11, HB⟩ := hrel
              cases gk with
              | zero => exact absurd HA.out (by simp [retargetref09_Put.l0])
              | succ k3 =>
                have H := HA.out
                clear HA
                simp only [retargetref09_Put.l0] at H
                by_cases c19 : x12_3 < (t331.length : Int)
                · rw [if_pos c19] at H
                  have c19b0 : decide (x12_3 < (t331.length : Int)) = true := decide_eq_true c19
                  clear c19
                  by_cases c20 : 0 ≤ x12_3
                  · rw [if_pos c20] at H
                    have c20b0 : decide (0 ≤ x12_3) = true := decide_eq_true c20
                    clear c20
                    replace H := Option.bind_eq_some_iff.mp H
                    obtain ⟨t335, A210, H⟩ := H
                    replace H : (if t335 = 1 then ((retargetref09_value.f k3 (rd t331 x12_3)).bind fun t337 => (retargetref09_Put.j3 k3 (IntKind.u64.wrap (x1_3 - t337)) a3 t331 x12_3)) else (retargetref09_Put.j3 k3 x1_3 a3 t331 x12_3)) = some (r1, r2) := H
                    have A21 := Aside0.mk A210
                    clear A210
                    have HC22 := Aside0.mk H
                    clear H
                    obtain ⟨Ao23, co23, eo23⟩ := Kd.R_slice HO_11.out
                    subst eo23
                    have p334 : 0 ≤ (x12_3 : Int) := of_decide_eq_true (by first | (with_reducible assumption) | assumption)
                    have q334 : x12_3 < (t331.length : Int) := of_decide_eq_true (by first | (with_reducible assumption) | assumption)
                    obtain ⟨ad334, e334, hx334_0⟩ := Kd.at_int (Kd.R_reads' HO_11.out).2.2 x12_3 p334 q334
                    cases e334
                    replace p334 := eq_true p334
                    replace q334 := eq_true q334
                    go_upto_if 49 with (first | ((with_reducible refine gate_callee (f := 43) rfl ?_); refine goesL_ (some 48) rfl rfl Try.func43 (by kernel_rfl) rfl #[.int .u64 x1_3, .int .i64 (rd t331 x12_3)] rfl (by (try simp only [List.map_toArray, List.map_cons, List.map_nil]); first | done | rfl | (simp only [List.length_drop, List.length_take]; rfl)) ?_; (with_reducible refine (retargetref08_Bit.calls k3 x1_3 (rd t331 x12_3) t335 _ A21.out).mono ?_); rintro e w' ⟨rfl, ⟨nd, rfl⟩⟩; refine ⟨_, rfl, ?_⟩))
                    (try simp only [Act.put, List.setIfInBounds_toArray, List.set_cons_zero, List.set_cons_succ])
                    go_cut [1] (fun v1 wc => ∃ (kq : Nat) (x1_21 : Int), v1 = .int .u64 x1_21 ∧ Aside0 (retargetref09_Put.j3 kq x1_21 a3 t331 x12_3 = some (r1, r2)) ∧ Aside0 (kq ≤ k3) ∧ Aside0 (Kd.R (Kd.int .i64) 3 wc w.heap.size (fun _ => True) (.slice (some ad334) t331.length co23) t331) ∧ Aside0 (Below w.heap.size w wc))
                    case first =>
                      have H := HC22.out
                      clear HC22
                      by_cases c24 : t335 = 1
                      · rw [if_pos c24] at H
                        have c24b0 : (t335 == 1) = true := beq_iff_eq.mpr c24
                        have c24b1 : (t335 != 1) = false := bne_eq_false_iff_eq.mpr c24
                        clear c24
                        (first | rw [c24b0] | (simp only [i64_w, i32_w]; rw [c24b0]) | skip)
                        replace H := Option.bind_eq_some_iff.mp H
                        obtain ⟨t337, A250, H⟩ := H
                        replace H : (retargetref09_Put.j3 k3 (IntKind.u64.wrap (x1_3 - t337)) a3 t331 x12_3) = some (r1, r2) := H
                        have A25 := Aside0.mk A250
                        clear A250
                        have H' := Aside0.mk H
                        clear H
                        have p336 : 0 ≤ (x12_3 : Int) := of_decide_eq_true (by first | (with_reducible assumption) | assumption)
                        have q336 : x12_3 < (t331.length : Int) := of_decide_eq_true (by first | (with_reducible assumption) | assumption)
                        obtain ⟨ad336, e336, hx336_0⟩ := Kd.at_int (Kd.R_reads' HO_11.out).2.2 x12_3 p336 q336
                        obtain rfl : ad334 = ad336 := (by injection e336)
                        replace p336 := eq_true p336
                        replace q336 := eq_true q336
                        go_wp2_with (first | ((with_reducible refine gate_callee (f := 42) rfl ?_); refine goesL_ (some 55) rfl rfl Try.func42 (by kernel_rfl) rfl #[.int .i64 (rd t331 x12_3)] rfl (by (try simp only [List.map_toArray, List.map_cons, List.map_nil]); first | done | rfl | (simp only [List.length_drop, List.length_take]; rfl)) ?_; (with_reducible refine (retargetref09_value.calls k3 (rd t331 x12_3) t337 _ A25.out).mono ?_); rintro e w' ⟨rfl, ⟨nd, rfl⟩⟩; refine ⟨_, rfl, ?_⟩))
                        go_meet
                        case rel => exact ⟨_, (IntKind.u64.wrap (x1_3 - t337)), (by first | rfl | (simp; done) | (simp [*]; done)), H', ⟨by have := HJ5.out; have := HJ13.out; have := HK3.out; first | omega | exact Nat.le_refl _⟩, ⟨by (with_reducible repeat (first | apply Kd.R_alloc | apply Kd.R_drewN | apply Kd.R_drew)); exact HO_11.out⟩, ⟨by repeat (first | (with_reducible first | exact HB.out | apply below_alloc | apply pw_below_drewN | apply below_drew1) | exact HB.out)⟩⟩
                      · rw [if_neg c24] at H
                        have c24b0 : (t335 == 1) = false := beq_eq_false_iff_ne.mpr c24
                        have c24b1 : (t335 != 1) = true := bne_iff_ne.mpr c24
                        (first | rw [c24b0] | (simp only [i64_w, i32_w]; rw [c24b0]) | skip)
                        have H' := Aside0.mk H
                        clear H
                        go_wp2
                        go_meet
                        case rel => exact ⟨_, (x1_3), (by first | rfl | (simp; done) | (simp [*]; done)), H', ⟨by have := HJ5.out; have := HJ13.out; have := HK3.out; first | omega | exact Nat.le_refl _⟩, ⟨by (with_reducible repeat (first | apply Kd.R_alloc | apply Kd.R_drewN | apply Kd.R_drew)); exact HO_11.out⟩, ⟨by repeat (first | (with_reducible first | exact HB.out | apply below_alloc | apply pw_below_drewN | apply below_drew1) | exact HB.out)⟩⟩
                    case rest =>
                      clear HC22
                      try clear c1
                      try clear c2
                      try clear p2
                      try clear p3
                      try clear q3
                      try clear hx3
                      try clear c4
                      try clear c7
                      try clear c7b0
                      try clear c7b1
                      try clear c9
                      try clear c15
                      try clear c16
                      try clear c16b0
                      try clear c16b1
                      try clear c19
                      try clear c19b0
                      try clear c20
                      try clear c20b0
                      try clear c24
                      try clear c24b0
                      try clear c24b1
                      try clear hx334_0
                      try clear hx336_0
                      try clear p2
                      try clear p334
                      try clear p336
                      try clear q334
                      try clear q336
                      obtain ⟨kq, x1_21, rfl, HA, HJ21, HO_11, HB⟩ := hcut
                      cases kq with
                      | zero => exact absurd HA.out (by simp [retargetref09_Put.j3])
                      | succ kj21 =>
                        have H := HA.out
                        clear HA
                        simp only [retargetref09_Put.j3] at H
                        replace H := Option.bind_eq_some_iff.mp H
                        obtain ⟨t338, A260, H⟩ := H
                        replace H : (if t338 = 1 then (if 0 ≤ x12_3 then (if x12_3 < (t331.length : Int) then ((retargetref09_value.f kj21 (rd t331 x12_3)).bind fun t340 => (retargetref09_Put.l0 kj21 (IntKind.u64.wrap (x1_21 + t340)) a3 t331 (wrap64 (x12_3 + 1)))) else (none)) else (none)) else (retargetref09_Put.l0 kj21 x1_21 a3 t331 (wrap64 (x12_3 + 1)))) = some (r1, r2) := H
                        have A26 := Aside0.mk A260
                        clear A260
                        by_cases c27 : t338 = 1
                        · rw [if_pos c27] at H
                          have c27b0 : (t338 == 1) = true := beq_iff_eq.mpr c27
                          have c27b1 : (t338 != 1) = false := bne_eq_false_iff_eq.mpr c27
                          clear c27
                          by_cases c28 : 0 ≤ x12_3
                          · rw [if_pos c28] at H
                            have c28b0 : decide (0 ≤ x12_3) = true := decide_eq_true c28
                            clear c28
                            by_cases c29 : x12_3 < (t331.length : Int)
                            · rw [if_pos c29] at H
                              have c29b0 : decide (x12_3 < (t331.length : Int)) = true := decide_eq_true c29
                              clear c29
                              replace H := Option.bind_eq_some_iff.mp H
                              obtain ⟨t340, A300, H⟩ := H
                              replace H : (retargetref09_Put.l0 kj21 (IntKind.u64.wrap (x1_21 + t340)) a3 t331 (wrap64 (x12_3 + 1))) = some (r1, r2) := H
                              have A30 := Aside0.mk A300
                              clear A300
                              have H' := Aside0.mk H
                              clear H
                              go_wp2_with (first | ((with_reducible refine gate_callee (f := 43) rfl ?_); refine goesL_ (some 59) rfl rfl Try.func43 (by kernel_rfl) rfl #[.int .u64 a3, .int .i64 x12_3] rfl (by (try simp only [List.map_toArray, List.map_cons, List.map_nil]); first | done | rfl | (simp only [List.length_drop, List.length_take]; rfl)) ?_; (with_reducible refine (retargetref08_Bit.calls kj21 a3 x12_3 t338 _ A26.out).mono ?_); rintro e w' ⟨rfl, ⟨nd, rfl⟩⟩; refine ⟨_, rfl, ?_⟩; have p339 : 0 ≤ (x12_3 : Int) := of_decide_eq_true (by first | (with_reducible assumption) | assumption); have q339 : x12_3 < (t331.length : Int) := of_decide_eq_true (by first | (with_reducible assumption) | assumption); obtain ⟨ad339, e339, hx339_0⟩ := Kd.at_int (Kd.R_reads' HO_11.out).2.2 x12_3 p339 q339; obtain rfl : ad334 = ad339 := (by injection e339); replace p339 := eq_true p339; replace q339 := eq_true q339) | ((with_reducible refine gate_callee (f := 42) rfl ?_); refine goesL_ (some 66) rfl rfl Try.func42 (by kernel_rfl) rfl #[.int .i64 (rd t331 x12_3)] rfl (by (try simp only [List.map_toArray, List.map_cons, List.map_nil]); first | done | rfl | (simp only [List.length_drop, List.length_take]; rfl)) ?_; (with_reducible refine (retargetref09_value.calls kj21 (rd t331 x12_3) t340 _ A30.out).mono ?_); rintro e w' ⟨rfl, ⟨nd, rfl⟩⟩; refine ⟨_, rfl, ?_⟩))
                              go_roundg kj21
                              case measure => have := HJ5.out; have := HJ13.out; have := HK3.out; have := HJ21.out; omega
                              case rel => exact ⟨(IntKind.u64.wrap (x1_21 + t340)), (wrap64 (x12_3 + 1)), (by first | rfl | (simp; done) | (simp [*]; done)), (by first | rfl | (simp; done) | (simp [*]; done)), H', ⟨by have := HJ5.out; have := HJ13.out; have := HK3.out; have := HJ21.out; omega⟩, ⟨by (with_reducible repeat (first | apply Kd.R_alloc | apply Kd.R_drewN | apply Kd.R_drew)); exact HO_11.out⟩, ⟨by repeat (first | (with_reducible first | exact HB.out | apply below_alloc | apply pw_below_drewN | apply below_drew1) | exact HB.out)⟩⟩
                            · rw [if_neg c29] at H
                              exact absurd H (by simp)
                          · rw [if_neg c28] at H
                            exact absurd H (by simp)
                        · rw [if_neg c27] at H
                          have c27b0 : (t338 == 1) = false := beq_eq_false_iff_ne.mpr c27
                          have c27b1 : (t338 != 1) = true := bne_iff_ne.mpr c27
                          have H' := Aside0.mk H
                          clear H
                          go_wp2_with (first | ((with_reducible refine gate_callee (f := 43) rfl ?_); refine goesL_ (some 59) rfl rfl Try.func43 (by kernel_rfl) rfl #[.int .u64 a3, .int .i64 x12_3] rfl (by (try simp only [List.map_toArray, List.map_cons, List.map_nil]); first | done | rfl | (simp only [List.length_drop, List.length_take]; rfl)) ?_; (with_reducible refine (retargetref08_Bit.calls kj21 a3 x12_3 t338 _ A26.out).mono ?_); rintro e w' ⟨rfl, ⟨nd, rfl⟩⟩; refine ⟨_, rfl, ?_⟩))
                          go_roundg kj21
                          case measure => have := HJ5.out; have := HJ13.out; have := HK3.out; have := HJ21.out; omega
                          case rel => exact ⟨(x1_21), (wrap64 (x12_3 + 1)), (by first | rfl | (simp; done) | (simp [*]; done)), (by first | rfl | (simp; done) | (simp [*]; done)), H', ⟨by have := HJ5.out; have := HJ13.out; have := HK3.out; have := HJ21.out; omega⟩, ⟨by (with_reducible repeat (first | apply Kd.R_alloc | apply Kd.R_drewN | apply Kd.R_drew)); exact HO_11.out⟩, ⟨by repeat (first | (with_reducible first | exact HB.out | apply below_alloc | apply pw_below_drewN | apply below_drew1) | exact HB.out)⟩⟩
                  · rw [if_neg c20] at H
                    exact absurd H (by simp)
                · rw [if_neg c19] at H
                  have c19b0 : decide (x12_3 < (t331.length : Int)) = false := decide_eq_false c19
                  clear c19
                  simp only [Option.some.injEq, Prod.mk.injEq] at H
                  obtain ⟨rfl, rfl⟩ := H
                  obtain ⟨Ao31, co31, eo31⟩ := Kd.R_slice HO_11.out
                  subst eo31
                  go_wp2
                  go_ret2
                  exact ⟨by first | rfl | (simp [errW_none, errW_some] <;> rfl) | (simp [*, errW_none, errW_some] <;> rfl), by repeat (first | (with_reducible first | exact HB.out | apply below_alloc | apply pw_below_drewN | apply below_drew1) | exact HB.out)⟩
          · rw [if_neg c16] at H
            have c16b0 : (x10_13 == 0) = false := beq_eq_false_iff_ne.mpr c16
            have c16b1 : (x10_13 != 0) = true := bne_iff_ne.mpr c16
            simp only [Option.some.injEq, Prod.mk.injEq] at H
            obtain ⟨rfl, rfl⟩ := H
            go_wp2
            go_ret2
            exact ⟨by first | rfl | (simp [errW_none, errW_some] <;> rfl) | (simp [*, errW_none, errW_some] <;> rfl), by repeat (first | (with_reducible first | exact HB.out | apply below_alloc | apply pw_below_drewN | apply below_drew1) | exact HB.out)⟩

end Go.Proofs.Ytgbciglkfbiopaa.Q
