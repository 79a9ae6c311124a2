-- Written by wip/tools/given.py (own program over the kit's print.py) out of the translation. Not trusted: Lean checks it.
import Derived.Test.YtgbciglkfbiopaaQx0
import Derived.Test.YtgbciglkfbiopaaQx2
import Derived.Test.YtgbciglkfbiopaaQx3
import Derived.Test.YtgbciglkfbiopaaQx11
namespace Go.Proofs.Ytgbciglkfbiopaa.Q
open Go.RowKit Go.Proofs.YtgbciglkfbiopaaW.PrintWords Go.Proofs.YtgbciglkfbiopaaW.PrintLast Go.Proofs.YtgbciglkfbiopaaW.PrintMore
attribute [local go_sem] max2_int min2_int max_two min_two max_three min_three max_four min_four   -- for this text's walks alone
set_option linter.unusedVariables false
set_option linter.unusedSimpArgs false

/-! ### retargetlaw09_FormatOrder: function 10 -/
mutual
def retargetlaw09_FormatOrder.j0 : Nat → Int → Int → Int → Int → Bool → Int → Int → Int → Int → Bool → Option (Bool)
  | 0, _, _, _, _, _, _, _, _, _, _ => none
  | k + 1, x0, x1, x2, x3, x9, x10, x11, x13, x14, x73 => if x73 = true then (some false) else (if 0 ≤ (IntKind.u64.wrap (x2)) then (if x3 ≥ x10 then (if x3 ≤ x11 then (if (shl .i64 1 (IntKind.u64.wrap (x2))) = 0 then (none) else (retargetlaw09_FormatOrder.j1 k x0 x1 x2 x3 x9 x10 x11 x13 x14 (shl .i64 1 (IntKind.u64.wrap (x2))) ((Int.tmod x3 (shl .i64 1 (IntKind.u64.wrap (x2)))) == 0))) else (retargetlaw09_FormatOrder.j1 k x0 x1 x2 x3 x9 x10 x11 x13 x14 (shl .i64 1 (IntKind.u64.wrap (x2))) false)) else (retargetlaw09_FormatOrder.j1 k x0 x1 x2 x3 x9 x10 x11 x13 x14 (shl .i64 1 (IntKind.u64.wrap (x2))) false)) else (none))
def retargetlaw09_FormatOrder.j1 : Nat → Int → Int → Int → Int → Bool → Int → Int → Int → Int → Int → Bool → Option (Bool)
  | 0, _, _, _, _, _, _, _, _, _, _, _ => none
  | k + 1, x0, x1, x2, x3, x9, x10, x11, x13, x14, x15, x16 => (format_Field.f k x0 x1 x2 x10).bind fun bt440 => ((format_Field.f k x0 x1 x2 x11).bind fun bt442 => (if (x16 != (x14 == 0)) = true then (retargetlaw09_FormatOrder.j2 k x0 x1 x2 x3 x9 x11 x13 x15 x16 true) else (if x16 = true then (if bt440.2 = 0 then (if bt442.2 = 0 then (if x15 = 0 then (none) else (if 0 ≤ (IntKind.u64.wrap (x1)) then (retargetlaw09_FormatOrder.j2 k x0 x1 x2 x3 x9 x11 x13 x15 x16 ((wrap64 (Int.tdiv (wrap64 (x11 - x10)) x15)) != (wrap64 ((shl .i64 1 (IntKind.u64.wrap (x1))) - 1)))) else (none))) else (retargetlaw09_FormatOrder.j2 k x0 x1 x2 x3 x9 x11 x13 x15 x16 true)) else (retargetlaw09_FormatOrder.j2 k x0 x1 x2 x3 x9 x11 x13 x15 x16 true)) else (if x14 = 24 then (if bt440.2 = 0 then (if bt442.2 = 0 then (if x15 = 0 then (none) else (if 0 ≤ (IntKind.u64.wrap (x1)) then (retargetlaw09_FormatOrder.j2 k x0 x1 x2 x3 x9 x11 x13 x15 x16 ((wrap64 (Int.tdiv (wrap64 (x11 - x10)) x15)) != (wrap64 ((shl .i64 1 (IntKind.u64.wrap (x1))) - 1)))) else (none))) else (retargetlaw09_FormatOrder.j2 k x0 x1 x2 x3 x9 x11 x13 x15 x16 true)) else (retargetlaw09_FormatOrder.j2 k x0 x1 x2 x3 x9 x11 x13 x15 x16 true)) else (retargetlaw09_FormatOrder.j2 k x0 x1 x2 x3 x9 x11 x13 x15 x16 true)))))
def retargetlaw09_FormatOrder.j2 : Nat → Int → Int → Int → Int → Bool → Int → Int → Int → Bool → Bool → Option (Bool)
  | 0, _, _, _, _, _, _, _, _, _, _ => none
  | k + 1, x0, x1, x2, x3, x9, x11, x13, x15, x16, x138 => if x138 = true then (some false) else (if x16 = true then (if x3 > (wrap64 (x11 - x15)) then (some x9) else ((format_Field.f k x0 x1 x2 (wrap64 (x3 + x15))).bind fun bt444 => (if x9 = true then (if bt444.2 = 0 then (if bt444.1 = (IntKind.u64.wrap (x13 + 1)) then (some true) else (if bt444.1 = 0 then (if 0 ≤ (IntKind.u64.wrap (x1)) then (some (x13 == (IntKind.u64.wrap ((shl .u64 1 (IntKind.u64.wrap (x1))) - 1)))) else (none)) else (some false))) else (some false)) else (some false)))) else (some x9))
end
def retargetlaw09_FormatOrder.f (k : Nat) (a0 : Int) (a1 : Int) (a2 : Int) (a3 : Int) : Option (Bool) := (retargetlaw09_alive.f k).bind fun t434 => ((format_Range.f k a0 a1 a2).bind fun bt435 => ((format_Field.f k a0 a1 a2 a3).bind fun bt438 => (if bt435.2.2 = 0 then (if a2 < 0 then (retargetlaw09_FormatOrder.j0 k a0 a1 a2 a3 t434 bt435.1 bt435.2.1 bt438.1 bt438.2 true) else (if a2 > 3 then (retargetlaw09_FormatOrder.j0 k a0 a1 a2 a3 t434 bt435.1 bt435.2.1 bt438.1 bt438.2 true) else (if a1 < 1 then (retargetlaw09_FormatOrder.j0 k a0 a1 a2 a3 t434 bt435.1 bt435.2.1 bt438.1 bt438.2 true) else (if a1 > 32 then (retargetlaw09_FormatOrder.j0 k a0 a1 a2 a3 t434 bt435.1 bt435.2.1 bt438.1 bt438.2 true) else (if bt435.1 > 0 then (retargetlaw09_FormatOrder.j0 k a0 a1 a2 a3 t434 bt435.1 bt435.2.1 bt438.1 bt438.2 true) else (retargetlaw09_FormatOrder.j0 k a0 a1 a2 a3 t434 bt435.1 bt435.2.1 bt438.1 bt438.2 (decide (bt435.2.1 < 0)))))))) else (if t434 = true then (if bt438.2 = bt435.2.2 then (some (bt438.1 == 0)) else (some false)) else (some false)))))
theorem retargetlaw09_FormatOrder.mono_l : ∀ k, (∀ y0 y1 y2 y3 y4 y5 y6 y7 y8 y9, LeO (retargetlaw09_FormatOrder.j0 k y0 y1 y2 y3 y4 y5 y6 y7 y8 y9) (retargetlaw09_FormatOrder.j0 (k + 1) y0 y1 y2 y3 y4 y5 y6 y7 y8 y9)) ∧ (∀ y0 y1 y2 y3 y4 y5 y6 y7 y8 y9 y10, LeO (retargetlaw09_FormatOrder.j1 k y0 y1 y2 y3 y4 y5 y6 y7 y8 y9 y10) (retargetlaw09_FormatOrder.j1 (k + 1) y0 y1 y2 y3 y4 y5 y6 y7 y8 y9 y10)) ∧ (∀ y0 y1 y2 y3 y4 y5 y6 y7 y8 y9, LeO (retargetlaw09_FormatOrder.j2 k y0 y1 y2 y3 y4 y5 y6 y7 y8 y9) (retargetlaw09_FormatOrder.j2 (k + 1) y0 y1 y2 y3 y4 y5 y6 y7 y8 y9))
  | 0 => ⟨fun _ _ _ _ _ _ _ _ _ _ r h => by simp [retargetlaw09_FormatOrder.j0] at h, fun _ _ _ _ _ _ _ _ _ _ _ r h => by simp [retargetlaw09_FormatOrder.j1] at h, fun _ _ _ _ _ _ _ _ _ _ r h => by simp [retargetlaw09_FormatOrder.j2] at h⟩
  | k + 1 => by
    obtain ⟨ih0, ih1, ih2⟩ := retargetlaw09_FormatOrder.mono_l k
    refine ⟨?_, ?_, ?_⟩
    · intro y0 y1 y2 y3 y4 y5 y6 y7 y8 y9
      unfold retargetlaw09_FormatOrder.j0
      repeat' first
      | (with_reducible exact ih0 _ _ _ _ _ _ _ _ _ _)
      | (with_reducible exact ih1 _ _ _ _ _ _ _ _ _ _ _)
      | (with_reducible exact ih2 _ _ _ _ _ _ _ _ _ _)
      | (with_reducible exact format_Field.mono _ _ _ _ _)
      | (with_reducible exact format_Range.mono _ _ _ _)
      | (with_reducible exact retargetlaw09_alive.mono _)
      | (with_reducible exact LeO.refl _)
      | (with_reducible exact LeO.none _)
      | (with_reducible refine LeO.ite ?_ ?_)
      | (with_reducible refine LeO.bind ?_ (fun _ => ?_))
      | exact ih0 _ _ _ _ _ _ _ _ _ _
      | exact ih1 _ _ _ _ _ _ _ _ _ _ _
      | exact ih2 _ _ _ _ _ _ _ _ _ _
      | exact format_Field.mono _ _ _ _ _
      | exact format_Range.mono _ _ _ _
      | exact retargetlaw09_alive.mono _
      | exact LeO.none _
      | refine LeO.ite ?_ ?_
      | refine LeO.bind ?_ (fun _ => ?_)
    · intro y0 y1 y2 y3 y4 y5 y6 y7 y8 y9 y10
      unfold retargetlaw09_FormatOrder.j1
      repeat' first
      | (with_reducible exact ih0 _ _ _ _ _ _ _ _ _ _)
      | (with_reducible exact ih1 _ _ _ _ _ _ _ _ _ _ _)
      | (with_reducible exact ih2 _ _ _ _ _ _ _ _ _ _)
      | (with_reducible exact format_Field.mono _ _ _ _ _)
      | (with_reducible exact format_Range.mono _ _ _ _)
      | (with_reducible exact retargetlaw09_alive.mono _)
      | (with_reducible exact LeO.refl _)
      | (with_reducible exact LeO.none _)
      | (with_reducible refine LeO.ite ?_ ?_)
      | (with_reducible refine LeO.bind ?_ (fun _ => ?_))
      | exact ih0 _ _ _ _ _ _ _ _ _ _
      | exact ih1 _ _ _ _ _ _ _ _ _ _ _
      | exact ih2 _ _ _ _ _ _ _ _ _ _
      | exact format_Field.mono _ _ _ _ _
      | exact format_Range.mono _ _ _ _
      | exact retargetlaw09_alive.mono _
      | exact LeO.none _
      | refine LeO.ite ?_ ?_
      | refine LeO.bind ?_ (fun _ => ?_)
    · intro y0 y1 y2 y3 y4 y5 y6 y7 y8 y9
      unfold retargetlaw09_FormatOrder.j2
      repeat' first
      | (with_reducible exact ih0 _ _ _ _ _ _ _ _ _ _)
      | (with_reducible exact ih1 _ _ _ _ _ _ _ _ _ _ _)
      | (with_reducible exact ih2 _ _ _ _ _ _ _ _ _ _)
      | (with_reducible exact format_Field.mono _ _ _ _ _)
      | (with_reducible exact format_Range.mono _ _ _ _)
      | (with_reducible exact retargetlaw09_alive.mono _)
      | (with_reducible exact LeO.refl _)
      | (with_reducible exact LeO.none _)
      | (with_reducible refine LeO.ite ?_ ?_)
      | (with_reducible refine LeO.bind ?_ (fun _ => ?_))
      | exact ih0 _ _ _ _ _ _ _ _ _ _
      | exact ih1 _ _ _ _ _ _ _ _ _ _ _
      | exact ih2 _ _ _ _ _ _ _ _ _ _
      | exact format_Field.mono _ _ _ _ _
      | exact format_Range.mono _ _ _ _
      | exact retargetlaw09_alive.mono _
      | exact LeO.none _
      | refine LeO.ite ?_ ?_
      | refine LeO.bind ?_ (fun _ => ?_)
theorem retargetlaw09_FormatOrder.mono : ∀ a0 a1 a2 a3 k, LeO (retargetlaw09_FormatOrder.f k a0 a1 a2 a3) (retargetlaw09_FormatOrder.f (k + 1) a0 a1 a2 a3) := by
  intro a0 a1 a2 a3 k
  obtain ⟨ih0, ih1, ih2⟩ := retargetlaw09_FormatOrder.mono_l k
  unfold retargetlaw09_FormatOrder.f
  repeat' first
      | (with_reducible exact ih0 _ _ _ _ _ _ _ _ _ _)
      | (with_reducible exact ih1 _ _ _ _ _ _ _ _ _ _ _)
      | (with_reducible exact ih2 _ _ _ _ _ _ _ _ _ _)
      | (with_reducible exact format_Field.mono _ _ _ _ _)
      | (with_reducible exact format_Range.mono _ _ _ _)
      | (with_reducible exact retargetlaw09_alive.mono _)
      | (with_reducible exact LeO.refl _)
      | (with_reducible exact LeO.none _)
      | (with_reducible refine LeO.ite ?_ ?_)
      | (with_reducible refine LeO.bind ?_ (fun _ => ?_))
      | exact ih0 _ _ _ _ _ _ _ _ _ _
      | exact ih1 _ _ _ _ _ _ _ _ _ _ _
      | exact ih2 _ _ _ _ _ _ _ _ _ _
      | exact format_Field.mono _ _ _ _ _
      | exact format_Range.mono _ _ _ _
      | exact retargetlaw09_alive.mono _
      | exact LeO.none _
      | refine LeO.ite ?_ ?_
      | refine LeO.bind ?_ (fun _ => ?_)
set_option maxHeartbeats 8000000 in
set_option maxRecDepth 100000 in
theorem retargetlaw09_FormatOrder.calls (k : Nat) (a0 : Int) (a1 : Int) (a2 : Int) (a3 : Int) (r : Bool) (w : World) (h : retargetlaw09_FormatOrder.f k a0 a1 a2 a3 = some r) :
    Calls Try.prog 10 #[.int .u8 a0, .int .i64 a1, .int .i64 a2, .int .i64 a3] w fun e w' => e = .returned (.bool r) ∧ Below w.heap.size w w' := by
  have HB := Aside0.mk (Below.refl w.heap.size w)
  have H : ((retargetlaw09_alive.f k).bind fun t434 => ((format_Range.f k a0 a1 a2).bind fun bt435 => ((format_Field.f k a0 a1 a2 a3).bind fun bt438 => (if bt435.2.2 = 0 then (if a2 < 0 then (retargetlaw09_FormatOrder.j0 k a0 a1 a2 a3 t434 bt435.1 bt435.2.1 bt438.1 bt438.2 true) else (if a2 > 3 then (retargetlaw09_FormatOrder.j0 k a0 a1 a2 a3 t434 bt435.1 bt435.2.1 bt438.1 bt438.2 true) else (if a1 < 1 then (retargetlaw09_FormatOrder.j0 k a0 a1 a2 a3 t434 bt435.1 bt435.2.1 bt438.1 bt438.2 true) else (if a1 > 32 then (retargetlaw09_FormatOrder.j0 k a0 a1 a2 a3 t434 bt435.1 bt435.2.1 bt438.1 bt438.2 true) else (if bt435.1 > 0 then (retargetlaw09_FormatOrder.j0 k a0 a1 a2 a3 t434 bt435.1 bt435.2.1 bt438.1 bt438.2 true) else (retargetlaw09_FormatOrder.j0 k a0 a1 a2 a3 t434 bt435.1 bt435.2.1 bt438.1 bt438.2 (decide (bt435.2.1 < 0)))))))) else (if t434 = true then (if bt438.2 = bt435.2.2 then (some (bt438.1 == 0)) else (some false)) else (some false)))))) = some r := h
  clear h
  replace H := Option.bind_eq_some_iff.mp H
  obtain ⟨t434, A50, H⟩ := H
  replace H : ((format_Range.f k a0 a1 a2).bind fun bt435 => ((format_Field.f k a0 a1 a2 a3).bind fun bt438 => (if bt435.2.2 = 0 then (if a2 < 0 then (retargetlaw09_FormatOrder.j0 k a0 a1 a2 a3 t434 bt435.1 bt435.2.1 bt438.1 bt438.2 true) else (if a2 > 3 then (retargetlaw09_FormatOrder.j0 k a0 a1 a2 a3 t434 bt435.1 bt435.2.1 bt438.1 bt438.2 true) else (if a1 < 1 then (retargetlaw09_FormatOrder.j0 k a0 a1 a2 a3 t434 bt435.1 bt435.2.1 bt438.1 bt438.2 true) else (if a1 > 32 then (retargetlaw09_FormatOrder.j0 k a0 a1 a2 a3 t434 bt435.1 bt435.2.1 bt438.1 bt438.2 true) else (if bt435.1 > 0 then (retargetlaw09_FormatOrder.j0 k a0 a1 a2 a3 t434 bt435.1 bt435.2.1 bt438.1 bt438.2 true) else (retargetlaw09_FormatOrder.j0 k a0 a1 a2 a3 t434 bt435.1 bt435.2.1 bt438.1 bt438.2 (decide (bt435.2.1 < 0)))))))) else (if t434 = true then (if bt438.2 = bt435.2.2 then (some (bt438.1 == 0)) else (some false)) else (some false))))) = some r := H
  have A5 := Aside0.mk A50
  clear A50
  replace H := Option.bind_eq_some_iff.mp H
  obtain ⟨⟨t435, t436, t437⟩, A60, H⟩ := H
  replace H : ((format_Field.f k a0 a1 a2 a3).bind fun bt438 => (if t437 = 0 then (if a2 < 0 then (retargetlaw09_FormatOrder.j0 k a0 a1 a2 a3 t434 t435 t436 bt438.1 bt438.2 true) else (if a2 > 3 then (retargetlaw09_FormatOrder.j0 k a0 a1 a2 a3 t434 t435 t436 bt438.1 bt438.2 true) else (if a1 < 1 then (retargetlaw09_FormatOrder.j0 k a0 a1 a2 a3 t434 t435 t436 bt438.1 bt438.2 true) else (if a1 > 32 then (retargetlaw09_FormatOrder.j0 k a0 a1 a2 a3 t434 t435 t436 bt438.1 bt438.2 true) else (if t435 > 0 then (retargetlaw09_FormatOrder.j0 k a0 a1 a2 a3 t434 t435 t436 bt438.1 bt438.2 true) else (retargetlaw09_FormatOrder.j0 k a0 a1 a2 a3 t434 t435 t436 bt438.1 bt438.2 (decide (t436 < 0)))))))) else (if t434 = true then (if bt438.2 = t437 then (some (bt438.1 == 0)) else (some false)) else (some false)))) = some r := H
  have A6 := Aside0.mk A60
  clear A60
  replace H := Option.bind_eq_some_iff.mp H
  obtain ⟨⟨t438, t439⟩, A70, H⟩ := H
  replace H : (if t437 = 0 then (if a2 < 0 then (retargetlaw09_FormatOrder.j0 k a0 a1 a2 a3 t434 t435 t436 t438 t439 true) else (if a2 > 3 then (retargetlaw09_FormatOrder.j0 k a0 a1 a2 a3 t434 t435 t436 t438 t439 true) else (if a1 < 1 then (retargetlaw09_FormatOrder.j0 k a0 a1 a2 a3 t434 t435 t436 t438 t439 true) else (if a1 > 32 then (retargetlaw09_FormatOrder.j0 k a0 a1 a2 a3 t434 t435 t436 t438 t439 true) else (if t435 > 0 then (retargetlaw09_FormatOrder.j0 k a0 a1 a2 a3 t434 t435 t436 t438 t439 true) else (retargetlaw09_FormatOrder.j0 k a0 a1 a2 a3 t434 t435 t436 t438 t439 (decide (t436 < 0)))))))) else (if t434 = true then (if t439 = t437 then (some (t438 == 0)) else (some false)) else (some false))) = some r := H
  have A7 := Aside0.mk A70
  clear A70
  by_cases c8 : t437 = 0
  · rw [if_pos c8] at H
    have c8b0 : (t437 == 0) = true := beq_iff_eq.mpr c8
    have c8b1 : (t437 != 0) = false := bne_eq_false_iff_eq.mpr c8
    clear c8
    have HC9 := Aside0.mk H
    clear H
    go_enter Try.func10, Try.ntmps10
    go_upto_region 6 with (first | ((with_reducible refine gate_callee (f := 24) rfl ?_); refine goesL_ (some 23) rfl rfl Try.func24 (by kernel_rfl) rfl #[] rfl (by (try simp only [List.map_toArray, List.map_cons, List.map_nil]); first | done | rfl | (simp only [List.length_drop, List.length_take]; rfl)) ?_; (with_reducible refine (retargetlaw09_alive.calls k  t434 _ A5.out).mono ?_); rintro e w10 ⟨rfl, hb⟩; refine ⟨_, rfl, ?_⟩; have n0_ := Aside0.mk (below_step (by repeat (first | (with_reducible first | exact HB.out | apply below_alloc | apply pw_below_drewN | apply below_drew1) | exact HB.out)) hb); clear HB; have HB := n0_; clear n0_; (try clear hb); (try clear hb2); (try clear hk); (try clear hi)) | ((with_reducible refine gate_callee (f := 12) rfl ?_); refine goesL_ (some 28) rfl rfl Try.func12 (by kernel_rfl) rfl #[.int .u8 a0, .int .i64 a1, .int .i64 a2] rfl (by (try simp only [List.map_toArray, List.map_cons, List.map_nil]); first | done | rfl | (simp only [List.length_drop, List.length_take]; rfl)) ?_; (with_reducible refine (format_Range.calls k a0 a1 a2 t435 t436 t437 _ A6.out).mono ?_); rintro e w11 ⟨rfl, hb⟩; refine ⟨_, rfl, ?_⟩; have n0_ := Aside0.mk (below_step (by repeat (first | (with_reducible first | exact HB.out | apply below_alloc | apply pw_below_drewN | apply below_drew1) | exact HB.out)) hb); clear HB; have HB := n0_; clear n0_; (try clear hb); (try clear hb2); (try clear hk); (try clear hi)) | ((with_reducible refine gate_callee (f := 14) rfl ?_); refine goesL_ (some 37) rfl rfl Try.func14 (by kernel_rfl) rfl #[.int .u8 a0, .int .i64 a1, .int .i64 a2, .int .i64 a3] rfl (by (try simp only [List.map_toArray, List.map_cons, List.map_nil]); first | done | rfl | (simp only [List.length_drop, List.length_take]; rfl)) ?_; (with_reducible refine (format_Field.calls k a0 a1 a2 a3 t438 t439 _ A7.out).mono ?_); rintro e w12 ⟨rfl, hb⟩; refine ⟨_, rfl, ?_⟩; have n0_ := Aside0.mk (below_step (by repeat (first | (with_reducible first | exact HB.out | apply below_alloc | apply pw_below_drewN | apply below_drew1) | exact HB.out)) hb); clear HB; have HB := n0_; clear n0_; (try clear hb); (try clear hb2); (try clear hk); (try clear hi)))
    (try simp only [Act.put, List.setIfInBounds_toArray, List.set_cons_zero, List.set_cons_succ])
    go_cut [73] (fun v73 wc => ∃ (kq : Nat) (x73_8 : Bool), v73 = .bool x73_8 ∧ Aside0 (retargetlaw09_FormatOrder.j0 kq a0 a1 a2 a3 t434 t435 t436 t438 t439 x73_8 = some r) ∧ Aside0 (kq ≤ k) ∧ Aside0 (Below w.heap.size w wc))
    case first =>
      have H := HC9.out
      clear HC9
      by_cases c13 : a2 < 0
      · rw [if_pos c13] at H
        have c13b0 : decide (a2 < 0) = true := decide_eq_true c13
        clear c13
        (first | rw [c13b0] | (simp only [i64_w, i32_w]; rw [c13b0]) | skip)
        have H' := Aside0.mk H
        clear H
        go_wp2
        go_meet
        case rel => exact ⟨_, (true), (by first | rfl | (simp; done) | (simp [*]; done)), H', ⟨by first | omega | exact Nat.le_refl _⟩, ⟨by repeat (first | (with_reducible first | exact HB.out | apply below_alloc | apply pw_below_drewN | apply below_drew1) | exact HB.out)⟩⟩
      · rw [if_neg c13] at H
        have c13b0 : decide (a2 < 0) = false := decide_eq_false c13
        clear c13
        (first | rw [c13b0] | (simp only [i64_w, i32_w]; rw [c13b0]) | skip)
        by_cases c14 : a2 > 3
        · rw [if_pos c14] at H
          have c14b0 : decide (3 < a2) = true := decide_eq_true c14
          clear c14
          have H' := Aside0.mk H
          clear H
          go_wp2
          go_meet
          case rel => exact ⟨_, (true), (by first | rfl | (simp; done) | (simp [*]; done)), H', ⟨by first | omega | exact Nat.le_refl _⟩, ⟨by repeat (first | (with_reducible first | exact HB.out | apply below_alloc | apply pw_below_drewN | apply below_drew1) | exact HB.out)⟩⟩
        · rw [if_neg c14] at H
          have c14b0 : decide (3 < a2) = false := decide_eq_false c14
          clear c14
          by_cases c15 : a1 < 1
          · rw [if_pos c15] at H
            have c15b0 : decide (a1 < 1) = true := decide_eq_true c15
            clear c15
            have H' := Aside0.mk H
            clear H
            go_wp2
            go_meet
            case rel => exact ⟨_, (true), (by first | rfl | (simp; done) | (simp [*]; done)), H', ⟨by first | omega | exact Nat.le_refl _⟩, ⟨by repeat (first | (with_reducible first | exact HB.out | apply below_alloc | apply pw_below_drewN | apply below_drew1) | exact HB.out)⟩⟩
          · rw [if_neg c15] at H
            have c15b0 : decide (a1 < 1) = false := decide_eq_false c15
            clear c15
            by_cases c16 : a1 > 32
            · rw [if_pos c16] at H
              have c16b0 : decide (32 < a1) = true := decide_eq_true c16
              clear c16
              have H' := Aside0.mk H
              clear H
              go_wp2
              go_meet
              case rel => exact ⟨_, (true), (by first | rfl | (simp; done) | (simp [*]; done)), H', ⟨by first | omega | exact Nat.le_refl _⟩, ⟨by repeat (first | (with_reducible first | exact HB.out | apply below_alloc | apply pw_below_drewN | apply below_drew1) | exact HB.out)⟩⟩
            · rw [if_neg c16] at H
              have c16b0 : decide (32 < a1) = false := decide_eq_false c16
              clear c16
              by_cases c17 : t435 > 0
              · rw [if_pos c17] at H
                have c17b0 : decide (0 < t435) = true := decide_eq_true c17
                clear c17
                have H' := Aside0.mk H
                clear H
                go_wp2
                go_meet
                case rel => exact ⟨_, (true), (by first | rfl | (simp; done) | (simp [*]; done)), H', ⟨by first | omega | exact Nat.le_refl _⟩, ⟨by repeat (first | (with_reducible first | exact HB.out | apply below_alloc | apply pw_below_drewN | apply below_drew1) | exact HB.out)⟩⟩
              · rw [if_neg c17] at H
                have c17b0 : decide (0 < t435) = false := decide_eq_false c17
                clear c17
                have H' := Aside0.mk H
                clear H
                go_wp2
                go_meet
                case rel => exact ⟨_, (decide (t436 < 0)), (by first | rfl | (simp; done) | (simp [*]; done)), H', ⟨by first | omega | exact Nat.le_refl _⟩, ⟨by repeat (first | (with_reducible first | exact HB.out | apply below_alloc | apply pw_below_drewN | apply below_drew1) | exact HB.out)⟩⟩
    case rest =>
      clear HC9
      try clear c1
      try clear c2
      try clear p2
      try clear c8
      try clear c8b0
      try clear c8b1
      try clear c10
      try clear c12
      try clear c13
      try clear c13b0
      try clear c14
      try clear c14b0
      try clear c15
      try clear c15b0
      try clear c16
      try clear c16b0
      try clear c17
      try clear c17b0
      obtain ⟨kq, x73_8, rfl, HA, HJ8, HB⟩ := hcut
      cases kq with
      | zero => exact absurd HA.out (by simp [retargetlaw09_FormatOrder.j0])
      | succ kj8 =>
        have H := HA.out
        clear HA
        simp only [retargetlaw09_FormatOrder.j0] at H
        by_cases c18 : x73_8 = true
        · subst c18
          have H1 : (some false) = some r := by rw [if_pos rfl] at H; exact H
          clear H
          have H := H1
          clear H1
          obtain rfl := Option.some.inj H
          go_wp2
          go_ret
          exact ⟨by first | rfl | (simp [errW_none, errW_some] <;> rfl) | (simp [*, errW_none, errW_some] <;> rfl), by repeat (first | (with_reducible first | exact HB.out | apply below_alloc | apply pw_below_drewN | apply below_drew1) | exact HB.out)⟩
        · replace c18 := Bool.eq_false_iff.mpr c18
          subst c18
          have H1 : (if 0 ≤ (IntKind.u64.wrap (a2)) then (if a3 ≥ t435 then (if a3 ≤ t436 then (if (shl .i64 1 (IntKind.u64.wrap (a2))) = 0 then (none) else (retargetlaw09_FormatOrder.j1 kj8 a0 a1 a2 a3 t434 t435 t436 t438 t439 (shl .i64 1 (IntKind.u64.wrap (a2))) ((Int.tmod a3 (shl .i64 1 (IntKind.u64.wrap (a2)))) == 0))) else (retargetlaw09_FormatOrder.j1 kj8 a0 a1 a2 a3 t434 t435 t436 t438 t439 (shl .i64 1 (IntKind.u64.wrap (a2))) false)) else (retargetlaw09_FormatOrder.j1 kj8 a0 a1 a2 a3 t434 t435 t436 t438 t439 (shl .i64 1 (IntKind.u64.wrap (a2))) false)) else (none)) = some r := by rw [if_neg (show ¬ (false = true) by decide)] at H; exact H
          clear H
          have H := H1
          clear H1
          obtain ⟨ji19, hji19⟩ : ∃ j_ : Int, (IntKind.u64.wrap (a2)) = j_ := ⟨_, rfl⟩
          replace H : (if 0 ≤ (ji19) then (if a3 ≥ t435 then (if a3 ≤ t436 then (if (shl .i64 1 (ji19)) = 0 then (none) else (retargetlaw09_FormatOrder.j1 kj8 a0 a1 a2 a3 t434 t435 t436 t438 t439 (shl .i64 1 (ji19)) ((Int.tmod a3 (shl .i64 1 (ji19))) == 0))) else (retargetlaw09_FormatOrder.j1 kj8 a0 a1 a2 a3 t434 t435 t436 t438 t439 (shl .i64 1 (ji19)) false)) else (retargetlaw09_FormatOrder.j1 kj8 a0 a1 a2 a3 t434 t435 t436 t438 t439 (shl .i64 1 (ji19)) false)) else (none)) = some r := by first | (rw [hji19] at H; exact H) | (simp only [hji19] at H ⊢; exact H)
          by_cases c20 : 0 ≤ (ji19)
          · rw [if_pos c20] at H
            have c20b0 := eq_true c20
            have c20b1 : decide (0 ≤ (ji19)) = true := decide_eq_true c20
            clear c20
            obtain ⟨ji21, hji21⟩ : ∃ j_ : Int, (shl .i64 1 (ji19)) = j_ := ⟨_, rfl⟩
            replace H : (if a3 ≥ t435 then (if a3 ≤ t436 then (if (ji21) = 0 then (none) else (retargetlaw09_FormatOrder.j1 kj8 a0 a1 a2 a3 t434 t435 t436 t438 t439 ji21 ((Int.tmod a3 (ji21)) == 0))) else (retargetlaw09_FormatOrder.j1 kj8 a0 a1 a2 a3 t434 t435 t436 t438 t439 ji21 false)) else (retargetlaw09_FormatOrder.j1 kj8 a0 a1 a2 a3 t434 t435 t436 t438 t439 ji21 false)) = some r := by first | (rw [hji21] at H; exact H) | (simp only [hji21] at H ⊢; exact H)
            have hji21_ : (IntKind.i64.wrap (1 * 2 ^ min (ji19).toNat 64)) = ji21 := hji21
            have hji21z : (ji19) ≤ 64 → (IntKind.i64.wrap (1 * 2 ^ (ji19).toNat)) = ji21 := shl_small hji21
            have hji21u : (IntKind.i64.wrap (2 ^ min (ji19).toNat 64)) = ji21 := by have h_ := hji21_; rw [Int.one_mul] at h_; exact h_
            have hji21v : (ji19) ≤ 64 → (IntKind.i64.wrap (2 ^ (ji19).toNat)) = ji21 := fun hle_ => by have h_ := hji21z hle_; rw [Int.one_mul] at h_; exact h_
            have hji21y : (wrap64 (1 * 2 ^ min (ji19).toNat 64)) = ji21 := (i64_w _).symm.trans hji21_
            have hji21x : (ji19) ≤ 64 → (wrap64 (1 * 2 ^ (ji19).toNat)) = ji21 := fun h_ => (i64_w _).symm.trans (hji21z h_)
            have HC22 := Aside0.mk H
            clear H
            go_upto_region 9 with (fail)
            go_cut [16] (fun v16 wc => ∃ (kq : Nat) (x16_21 : Bool), v16 = .bool x16_21 ∧ Aside0 (retargetlaw09_FormatOrder.j1 kq a0 a1 a2 a3 t434 t435 t436 t438 t439 ji21 x16_21 = some r) ∧ Aside0 (kq ≤ kj8) ∧ Aside0 (Below w.heap.size w wc))
            case first =>
              have H := HC22.out
              clear HC22
              by_cases c23 : a3 ≥ t435
              · rw [if_pos c23] at H
                have c23b0 : decide (t435 ≤ a3) = true := decide_eq_true c23
                clear c23
                (first | rw [c23b0] | (simp only [i64_w, i32_w]; rw [c23b0]) | skip)
                by_cases c24 : a3 ≤ t436
                · rw [if_pos c24] at H
                  have c24b0 : decide (a3 ≤ t436) = true := decide_eq_true c24
                  clear c24
                  by_cases c25 : (ji21) = 0
                  · rw [if_pos c25] at H
                    exact absurd H (by simp)
                  · rw [if_neg c25] at H
                    have c25b0 : ((ji21) == 0) = false := beq_eq_false_iff_ne.mpr c25
                    have c25b1 : ((ji21) != 0) = true := bne_iff_ne.mpr c25
                    have H' := Aside0.mk H
                    clear H
                    go_wp2
                    go_meet
                    case rel => exact ⟨_, (((Int.tmod a3 (ji21)) == 0)), (by first | rfl | (simp; done) | (simp only [← hji21] <;> (first | rfl | simp)) | (simp [*]; done)), H', ⟨by have := HJ8.out; first | omega | exact Nat.le_refl _⟩, ⟨by repeat (first | (with_reducible first | exact HB.out | apply below_alloc | apply pw_below_drewN | apply below_drew1) | exact HB.out)⟩⟩
                · rw [if_neg c24] at H
                  have c24b0 : decide (a3 ≤ t436) = false := decide_eq_false c24
                  clear c24
                  have H' := Aside0.mk H
                  clear H
                  go_wp2
                  go_meet
                  case rel => exact ⟨_, (false), (by first | rfl | (simp; done) | (simp [*]; done)), H', ⟨by have := HJ8.out; first | omega | exact Nat.le_refl _⟩, ⟨by repeat (first | (with_reducible first | exact HB.out | apply below_alloc | apply pw_below_drewN | apply below_drew1) | exact HB.out)⟩⟩
              · rw [if_neg c23] at H
                have c23b0 : decide (t435 ≤ a3) = false := decide_eq_false c23
                clear c23
                (first | rw [c23b0] | (simp only [i64_w, i32_w]; rw [c23b0]) | skip)
                have H' := Aside0.mk H
                clear H
                go_wp2
                go_meet
                case rel => exact ⟨_, (false), (by first | rfl | (simp; done) | (simp [*]; done)), H', ⟨by have := HJ8.out; first | omega | exact Nat.le_refl _⟩, ⟨by repeat (first | (with_reducible first | exact HB.out | apply below_alloc | apply pw_below_drewN | apply below_drew1) | exact HB.out)⟩⟩
            case rest =>
              clear HC22
              try clear c1
              try clear c2
              try clear p2
              try clear p6
              try clear c8
              try clear c8b0
              try clear c8b1
              try clear c10
              try clear c12
              try clear c13
              try clear c13b0
              try clear c14
              try clear c14b0
              try clear c15
              try clear c15b0
              try clear c16
              try clear c16b0
              try clear c17
              try clear c17b0
              try clear c18
              try clear c20
              try clear c20b0
              try clear c20b1
              try clear c23
              try clear c23b0
              try clear c24
              try clear c24b0
              try clear c25
              try clear c25b0
              try clear c25b1
              try clear p2
              obtain ⟨kq, x16_21, rfl, HA, HJ21, HB⟩ := hcut
              cases kq with
              | zero => exact absurd HA.out (by simp [retargetlaw09_FormatOrder.j1])
              | succ kj21 =>
                have H := HA.out
                clear HA
                simp only [retargetlaw09_FormatOrder.j1] at H
                replace H := Option.bind_eq_some_iff.mp H
                obtain ⟨⟨t440, t441⟩, A260, H⟩ := H
                replace H : ((format_Field.f kj21 a0 a1 a2 t436).bind fun bt442 => (if (x16_21 != (t439 == 0)) = true then (retargetlaw09_FormatOrder.j2 kj21 a0 a1 a2 a3 t434 t436 t438 ji21 x16_21 true) else (if x16_21 = true then (if t441 = 0 then (if bt442.2 = 0 then (if ji21 = 0 then (none) else (if 0 ≤ (IntKind.u64.wrap (a1)) then (retargetlaw09_FormatOrder.j2 kj21 a0 a1 a2 a3 t434 t436 t438 ji21 x16_21 ((wrap64 (Int.tdiv (wrap64 (t436 - t435)) ji21)) != (wrap64 ((shl .i64 1 (IntKind.u64.wrap (a1))) - 1)))) else (none))) else (retargetlaw09_FormatOrder.j2 kj21 a0 a1 a2 a3 t434 t436 t438 ji21 x16_21 true)) else (retargetlaw09_FormatOrder.j2 kj21 a0 a1 a2 a3 t434 t436 t438 ji21 x16_21 true)) else (if t439 = 24 then (if t441 = 0 then (if bt442.2 = 0 then (if ji21 = 0 then (none) else (if 0 ≤ (IntKind.u64.wrap (a1)) then (retargetlaw09_FormatOrder.j2 kj21 a0 a1 a2 a3 t434 t436 t438 ji21 x16_21 ((wrap64 (Int.tdiv (wrap64 (t436 - t435)) ji21)) != (wrap64 ((shl .i64 1 (IntKind.u64.wrap (a1))) - 1)))) else (none))) else (retargetlaw09_FormatOrder.j2 kj21 a0 a1 a2 a3 t434 t436 t438 ji21 x16_21 true)) else (retargetlaw09_FormatOrder.j2 kj21 a0 a1 a2 a3 t434 t436 t438 ji21 x16_21 true)) else (retargetlaw09_FormatOrder.j2 kj21 a0 a1 a2 a3 t434 t436 t438 ji21 x16_21 true))))) = some r := H
                have A26 := Aside0.mk A260
                clear A260
                replace H := Option.bind_eq_some_iff.mp H
                obtain ⟨⟨t442, t443⟩, A270, H⟩ := H
                replace H : (if (x16_21 != (t439 == 0)) = true then (retargetlaw09_FormatOrder.j2 kj21 a0 a1 a2 a3 t434 t436 t438 ji21 x16_21 true) else (if x16_21 = true then (if t441 = 0 then (if t443 = 0 then (if ji21 = 0 then (none) else (if 0 ≤ (IntKind.u64.wrap (a1)) then (retargetlaw09_FormatOrder.j2 kj21 a0 a1 a2 a3 t434 t436 t438 ji21 x16_21 ((wrap64 (Int.tdiv (wrap64 (t436 - t435)) ji21)) != (wrap64 ((shl .i64 1 (IntKind.u64.wrap (a1))) - 1)))) else (none))) else (retargetlaw09_FormatOrder.j2 kj21 a0 a1 a2 a3 t434 t436 t438 ji21 x16_21 true)) else (retargetlaw09_FormatOrder.j2 kj21 a0 a1 a2 a3 t434 t436 t438 ji21 x16_21 true)) else (if t439 = 24 then (if t441 = 0 then (if t443 = 0 then (if ji21 = 0 then (none) else (if 0 ≤ (IntKind.u64.wrap (a1)) then (retargetlaw09_FormatOrder.j2 kj21 a0 a1 a2 a3 t434 t436 t438 ji21 x16_21 ((wrap64 (Int.tdiv (wrap64 (t436 - t435)) ji21)) != (wrap64 ((shl .i64 1 (IntKind.u64.wrap (a1))) - 1)))) else (none))) else (retargetlaw09_FormatOrder.j2 kj21 a0 a1 a2 a3 t434 t436 t438 ji21 x16_21 true)) else (retargetlaw09_FormatOrder.j2 kj21 a0 a1 a2 a3 t434 t436 t438 ji21 x16_21 true)) else (retargetlaw09_FormatOrder.j2 kj21 a0 a1 a2 a3 t434 t436 t438 ji21 x16_21 true)))) = some r := H
                have A27 := Aside0.mk A270
                clear A270
                have HC28 := Aside0.mk H
                clear H
                go_upto_region 12 with (first | ((with_reducible refine gate_callee (f := 14) rfl ?_); refine goesL_ (some 96) rfl rfl Try.func14 (by kernel_rfl) rfl #[.int .u8 a0, .int .i64 a1, .int .i64 a2, .int .i64 t435] rfl (by (try simp only [List.map_toArray, List.map_cons, List.map_nil]); first | done | rfl | (simp only [List.length_drop, List.length_take]; rfl)) ?_; (with_reducible refine (format_Field.calls kj21 a0 a1 a2 t435 t440 t441 _ A26.out).mono ?_); rintro e w29 ⟨rfl, hb⟩; refine ⟨_, rfl, ?_⟩; have n0_ := Aside0.mk (below_step (by repeat (first | (with_reducible first | exact HB.out | apply below_alloc | apply pw_below_drewN | apply below_drew1) | exact HB.out)) hb); clear HB; have HB := n0_; clear n0_; (try clear hb); (try clear hb2); (try clear hk); (try clear hi)) | ((with_reducible refine gate_callee (f := 14) rfl ?_); refine goesL_ (some 104) rfl rfl Try.func14 (by kernel_rfl) rfl #[.int .u8 a0, .int .i64 a1, .int .i64 a2, .int .i64 t436] rfl (by (try simp only [List.map_toArray, List.map_cons, List.map_nil]); first | done | rfl | (simp only [List.length_drop, List.length_take]; rfl)) ?_; (with_reducible refine (format_Field.calls kj21 a0 a1 a2 t436 t442 t443 _ A27.out).mono ?_); rintro e w30 ⟨rfl, hb⟩; refine ⟨_, rfl, ?_⟩; have n0_ := Aside0.mk (below_step (by repeat (first | (with_reducible first | exact HB.out | apply below_alloc | apply pw_below_drewN | apply below_drew1) | exact HB.out)) hb); clear HB; have HB := n0_; clear n0_; (try clear hb); (try clear hb2); (try clear hk); (try clear hi)))
                (try simp only [Act.put, List.setIfInBounds_toArray, List.set_cons_zero, List.set_cons_succ])
                go_cut [138] (fun v138 wc => ∃ (kq : Nat) (x138_27 : Bool), v138 = .bool x138_27 ∧ Aside0 (retargetlaw09_FormatOrder.j2 kq a0 a1 a2 a3 t434 t436 t438 ji21 x16_21 x138_27 = some r) ∧ Aside0 (kq ≤ kj21) ∧ Aside0 (Below w.heap.size w wc))
                case first =>
                  have H := HC28.out
                  clear HC28
                  by_cases c31 : (x16_21 != (t439 == 0)) = true
                  · rw [if_pos c31] at H
                    have c31b0 : (x16_21 != (t439 == 0)) = true := c31
                    (try (have c31b1 : decide (x16_21 = (t439 == 0)) = false := by simpa using c31))
                    (try (have c31b2 : (x16_21 == (t439 == 0)) = false := by simpa using c31))
                    (try (have c31b3 : ¬ (x16_21 = (t439 == 0)) := by simpa using c31))
                    clear c31
                    (first | rw [c31b0] | (simp only [i64_w, i32_w]; rw [c31b0]) | skip)
                    have H' := Aside0.mk H
                    clear H
                    go_wp2
                    go_meet
                    case rel => exact ⟨_, (true), (by first | rfl | (simp; done) | (simp [*]; done)), H', ⟨by have := HJ8.out; have := HJ21.out; first | omega | exact Nat.le_refl _⟩, ⟨by repeat (first | (with_reducible first | exact HB.out | apply below_alloc | apply pw_below_drewN | apply below_drew1) | exact HB.out)⟩⟩
                  · rw [if_neg c31] at H
                    have c31b0 : (x16_21 != (t439 == 0)) = false := by simpa using c31
                    (try (have c31b1 : decide (x16_21 = (t439 == 0)) = true := by simpa using c31))
                    (try (have c31b2 : (x16_21 == (t439 == 0)) = true := by simpa using c31))
                    clear c31
                    (first | rw [c31b0] | (simp only [i64_w, i32_w]; rw [c31b0]) | skip)
                    by_cases c32 : x16_21 = true
                    · subst c32
                      have H1 : (if t441 = 0 then (if t443 = 0 then (if ji21 = 0 then (none) else (if 0 ≤ (IntKind.u64.wrap (a1)) then (retargetlaw09_FormatOrder.j2 kj21 a0 a1 a2 a3 t434 t436 t438 ji21 true ((wrap64 (Int.tdiv (wrap64 (t436 - t435)) ji21)) != (wrap64 ((shl .i64 1 (IntKind.u64.wrap (a1))) - 1)))) else (none))) else (retargetlaw09_FormatOrder.j2 kj21 a0 a1 a2 a3 t434 t436 t438 ji21 true true)) else (retargetlaw09_FormatOrder.j2 kj21 a0 a1 a2 a3 t434 t436 t438 ji21 true true)) = some r := by rw [if_pos rfl] at H; exact H
                      clear H
                      have H := H1
                      clear H1
                      by_cases c33 : t441 = 0
                      · rw [if_pos c33] at H
                        have c33b0 : (t441 == 0) = true := beq_iff_eq.mpr c33
                        have c33b1 : (t441 != 0) = false := bne_eq_false_iff_eq.mpr c33
                        clear c33
                        by_cases c34 : t443 = 0
                        · rw [if_pos c34] at H
                          have c34b0 : (t443 == 0) = true := beq_iff_eq.mpr c34
                          have c34b1 : (t443 != 0) = false := bne_eq_false_iff_eq.mpr c34
                          clear c34
                          by_cases c35 : ji21 = 0
                          · rw [if_pos c35] at H
                            exact absurd H (by simp)
                          · rw [if_neg c35] at H
                            have c35b0 : (ji21 == 0) = false := beq_eq_false_iff_ne.mpr c35
                            have c35b1 : (ji21 != 0) = true := bne_iff_ne.mpr c35
                            obtain ⟨ji36, hji36⟩ : ∃ j_ : Int, (IntKind.u64.wrap (a1)) = j_ := ⟨_, rfl⟩
                            replace H : (if 0 ≤ (ji36) then (retargetlaw09_FormatOrder.j2 kj21 a0 a1 a2 a3 t434 t436 t438 ji21 true ((wrap64 (Int.tdiv (wrap64 (t436 - t435)) ji21)) != (wrap64 ((shl .i64 1 (ji36)) - 1)))) else (none)) = some r := by first | (rw [hji36] at H; exact H) | (simp only [hji36] at H ⊢; exact H)
                            by_cases c37 : 0 ≤ (ji36)
                            · rw [if_pos c37] at H
                              have c37b0 := eq_true c37
                              have c37b1 : decide (0 ≤ (ji36)) = true := decide_eq_true c37
                              clear c37
                              obtain ⟨ji38, hji38⟩ : ∃ j_ : Int, (shl .i64 1 (ji36)) = j_ := ⟨_, rfl⟩
                              replace H : (retargetlaw09_FormatOrder.j2 kj21 a0 a1 a2 a3 t434 t436 t438 ji21 true ((wrap64 (Int.tdiv (wrap64 (t436 - t435)) ji21)) != (wrap64 ((ji38) - 1)))) = some r := by first | (rw [hji38] at H; exact H) | (simp only [hji38] at H ⊢; exact H)
                              have hji38_ : (IntKind.i64.wrap (1 * 2 ^ min (ji36).toNat 64)) = ji38 := hji38
                              have hji38z : (ji36) ≤ 64 → (IntKind.i64.wrap (1 * 2 ^ (ji36).toNat)) = ji38 := shl_small hji38
                              have hji38u : (IntKind.i64.wrap (2 ^ min (ji36).toNat 64)) = ji38 := by have h_ := hji38_; rw [Int.one_mul] at h_; exact h_
                              have hji38v : (ji36) ≤ 64 → (IntKind.i64.wrap (2 ^ (ji36).toNat)) = ji38 := fun hle_ => by have h_ := hji38z hle_; rw [Int.one_mul] at h_; exact h_
                              have hji38y : (wrap64 (1 * 2 ^ min (ji36).toNat 64)) = ji38 := (i64_w _).symm.trans hji38_
                              have hji38x : (ji36) ≤ 64 → (wrap64 (1 * 2 ^ (ji36).toNat)) = ji38 := fun h_ => (i64_w _).symm.trans (hji38z h_)
                              have H' := Aside0.mk H
                              clear H
                              go_wp2
                              go_meet
                              case rel => exact ⟨_, (((wrap64 (Int.tdiv (wrap64 (t436 - t435)) ji21)) != (wrap64 ((ji38) - 1)))), (by first | rfl | (simp; done) | (simp only [← hji21, ← hji38] <;> (first | rfl | simp)) | (simp [*]; done)), H', ⟨by have := HJ8.out; have := HJ21.out; first | omega | exact Nat.le_refl _⟩, ⟨by repeat (first | (with_reducible first | exact HB.out | apply below_alloc | apply pw_below_drewN | apply below_drew1) | exact HB.out)⟩⟩
                            · rw [if_neg c37] at H
                              exact absurd H (by simp)
                        · rw [if_neg c34] at H
                          have c34b0 : (t443 == 0) = false := beq_eq_false_iff_ne.mpr c34
                          have c34b1 : (t443 != 0) = true := bne_iff_ne.mpr c34
                          have H' := Aside0.mk H
                          clear H
                          go_wp2
                          go_meet
                          case rel => exact ⟨_, (true), (by first | rfl | (simp; done) | (simp [*]; done)), H', ⟨by have := HJ8.out; have := HJ21.out; first | omega | exact Nat.le_refl _⟩, ⟨by repeat (first | (with_reducible first | exact HB.out | apply below_alloc | apply pw_below_drewN | apply below_drew1) | exact HB.out)⟩⟩
                      · rw [if_neg c33] at H
                        have c33b0 : (t441 == 0) = false := beq_eq_false_iff_ne.mpr c33
                        have c33b1 : (t441 != 0) = true := bne_iff_ne.mpr c33
                        have H' := Aside0.mk H
                        clear H
                        go_wp2
                        go_meet
                        case rel => exact ⟨_, (true), (by first | rfl | (simp; done) | (simp [*]; done)), H', ⟨by have := HJ8.out; have := HJ21.out; first | omega | exact Nat.le_refl _⟩, ⟨by repeat (first | (with_reducible first | exact HB.out | apply below_alloc | apply pw_below_drewN | apply below_drew1) | exact HB.out)⟩⟩
                    · replace c32 := Bool.eq_false_iff.mpr c32
                      subst c32
                      have H1 : (if t439 = 24 then (if t441 = 0 then (if t443 = 0 then (if ji21 = 0 then (none) else (if 0 ≤ (IntKind.u64.wrap (a1)) then (retargetlaw09_FormatOrder.j2 kj21 a0 a1 a2 a3 t434 t436 t438 ji21 false ((wrap64 (Int.tdiv (wrap64 (t436 - t435)) ji21)) != (wrap64 ((shl .i64 1 (IntKind.u64.wrap (a1))) - 1)))) else (none))) else (retargetlaw09_FormatOrder.j2 kj21 a0 a1 a2 a3 t434 t436 t438 ji21 false true)) else (retargetlaw09_FormatOrder.j2 kj21 a0 a1 a2 a3 t434 t436 t438 ji21 false true)) else (retargetlaw09_FormatOrder.j2 kj21 a0 a1 a2 a3 t434 t436 t438 ji21 false true)) = some r := by rw [if_neg (show ¬ (false = true) by decide)] at H; exact H
                      clear H
                      have H := H1
                      clear H1
                      by_cases c39 : t439 = 24
                      · rw [if_pos c39] at H
                        have c39b0 : (t439 == 24) = true := beq_iff_eq.mpr c39
                        have c39b1 : (t439 != 24) = false := bne_eq_false_iff_eq.mpr c39
                        clear c39
                        by_cases c40 : t441 = 0
                        · rw [if_pos c40] at H
                          have c40b0 : (t441 == 0) = true := beq_iff_eq.mpr c40
                          have c40b1 : (t441 != 0) = false := bne_eq_false_iff_eq.mpr c40
                          clear c40
                          by_cases c41 : t443 = 0
                          · rw [if_pos c41] at H
                            have c41b0 : (t443 == 0) = true := beq_iff_eq.mpr c41
                            have c41b1 : (t443 != 0) = false := bne_eq_false_iff_eq.mpr c41
                            clear c41
                            by_cases c42 : ji21 = 0
                            · rw [if_pos c42] at H
                              exact absurd H (by simp)
                            · rw [if_neg c42] at H
                              have c42b0 : (ji21 == 0) = false := beq_eq_false_iff_ne.mpr c42
                              have c42b1 : (ji21 != 0) = true := bne_iff_ne.mpr c42
                              obtain ⟨ji43, hji43⟩ : ∃ j_ : Int, (IntKind.u64.wrap (a1)) = j_ := ⟨_, rfl⟩
                              replace H : (if 0 ≤ (ji43) then (retargetlaw09_FormatOrder.j2 kj21 a0 a1 a2 a3 t434 t436 t438 ji21 false ((wrap64 (Int.tdiv (wrap64 (t436 - t435)) ji21)) != (wrap64 ((shl .i64 1 (ji43)) - 1)))) else (none)) = some r := by first | (rw [hji43] at H; exact H) | (simp only [hji43] at H ⊢; exact H)
                              by_cases c44 : 0 ≤ (ji43)
                              · rw [if_pos c44] at H
                                have c44b0 := eq_true c44
                                have c44b1 : decide (0 ≤ (ji43)) = true := decide_eq_true c44
                                clear c44
                                obtain ⟨ji45, hji45⟩ : ∃ j_ : Int, (shl .i64 1 (ji43)) = j_ := ⟨_, rfl⟩
                                replace H : (retargetlaw09_FormatOrder.j2 kj21 a0 a1 a2 a3 t434 t436 t438 ji21 false ((wrap64 (Int.tdiv (wrap64 (t436 - t435)) ji21)) != (wrap64 ((ji45) - 1)))) = some r := by first | (rw [hji45] at H; exact H) | (simp only [hji45] at H ⊢; exact H)
                                have hji45_ : (IntKind.i64.wrap (1 * 2 ^ min (ji43).toNat 64)) = ji45 := hji45
                                have hji45z : (ji43) ≤ 64 → (IntKind.i64.wrap (1 * 2 ^ (ji43).toNat)) = ji45 := shl_small hji45
                                have hji45u : (IntKind.i64.wrap (2 ^ min (ji43).toNat 64)) = ji45 := by have h_ := hji45_; rw [Int.one_mul] at h_; exact h_
                                have hji45v : (ji43) ≤ 64 → (IntKind.i64.wrap (2 ^ (ji43).toNat)) = ji45 := fun hle_ => by have h_ := hji45z hle_; rw [Int.one_mul] at h_; exact h_
                                have hji45y : (wrap64 (1 * 2 ^ min (ji43).toNat 64)) = ji45 := (i64_w _).symm.trans hji45_
                                have hji45x : (ji43) ≤ 64 → (wrap64 (1 * 2 ^ (ji43).toNat)) = ji45 := fun h_ => (i64_w _).symm.trans (hji45z h_)
                                have H' := Aside0.mk H
                                clear H
                                go_wp2
                                go_meet
                                case rel => exact ⟨_, (((wrap64 (Int.tdiv (wrap64 (t436 - t435)) ji21)) != (wrap64 ((ji45) - 1)))), (by first | rfl | (simp; done) | (simp only [← hji21, ← hji45] <;> (first | rfl | simp)) | (simp [*]; done)), H', ⟨by have := HJ8.out; have := HJ21.out; first | omega | exact Nat.le_refl _⟩, ⟨by repeat (first | (with_reducible first | exact HB.out | apply below_alloc | apply pw_below_drewN | apply below_drew1) | exact HB.out)⟩⟩
                              · rw [if_neg c44] at H
                                exact absurd H (by simp)
                          · rw [if_neg c41] at H
                            have c41b0 : (t443 == 0) = false := beq_eq_false_iff_ne.mpr c41
                            have c41b1 : (t443 != 0) = true := bne_iff_ne.mpr c41
                            have H' := Aside0.mk H
                            clear H
                            go_wp2
                            go_meet
                            case rel => exact ⟨_, (true), (by first | rfl | (simp; done) | (simp [*]; done)), H', ⟨by have := HJ8.out; have := HJ21.out; first | omega | exact Nat.le_refl _⟩, ⟨by repeat (first | (with_reducible first | exact HB.out | apply below_alloc | apply pw_below_drewN | apply below_drew1) | exact HB.out)⟩⟩
                        · rw [if_neg c40] at H
                          have c40b0 : (t441 == 0) = false := beq_eq_false_iff_ne.mpr c40
                          have c40b1 : (t441 != 0) = true := bne_iff_ne.mpr c40
                          have H' := Aside0.mk H
                          clear H
                          go_wp2
                          go_meet
                          case rel => exact ⟨_, (true), (by first | rfl | (simp; done) | (simp [*]; done)), H', ⟨by have := HJ8.out; have := HJ21.out; first | omega | exact Nat.le_refl _⟩, ⟨by repeat (first | (with_reducible first | exact HB.out | apply below_alloc | apply pw_below_drewN | apply below_drew1) | exact HB.out)⟩⟩
                      · rw [if_neg c39] at H
                        have c39b0 : (t439 == 24) = false := beq_eq_false_iff_ne.mpr c39
                        have c39b1 : (t439 != 24) = true := bne_iff_ne.mpr c39
                        have H' := Aside0.mk H
                        clear H
                        go_wp2
                        go_meet
                        case rel => exact ⟨_, (true), (by first | rfl | (simp; done) | (simp [*]; done)), H', ⟨by have := HJ8.out; have := HJ21.out; first | omega | exact Nat.le_refl _⟩, ⟨by repeat (first | (with_reducible first | exact HB.out | apply below_alloc | apply pw_below_drewN | apply below_drew1) | exact HB.out)⟩⟩
                case rest =>
                  clear HC28
                  try clear c1
                  try clear c2
                  try clear p2
                  try clear c3
                  try clear c4
                  try clear p6
                  try clear c8
                  try clear c8b0
                  try clear c8b1
                  try clear c10
                  try clear c12
                  try clear c13
                  try clear c13b0
                  try clear c14
                  try clear c14b0
                  try clear c15
                  try clear c15b0
                  try clear c16
                  try clear c16b0
                  try clear c17
                  try clear c17b0
                  try clear c18
                  try clear c20
                  try clear c20b0
                  try clear c20b1
                  try clear c23
                  try clear c23b0
                  try clear c24
                  try clear c24b0
                  try clear c25
                  try clear c25b0
                  try clear c25b1
                  try clear c31
                  try clear c31b0
                  try clear c31b1
                  try clear c31b2
                  try clear c32
                  try clear c33
                  try clear c33b0
                  try clear c33b1
                  try clear c34
                  try clear c34b0
                  try clear c34b1
                  try clear c35
                  try clear c35b0
                  try clear c35b1
                  try clear c37
                  try clear c37b0
                  try clear c37b1
                  try clear c39
                  try clear c39b0
                  try clear c39b1
                  try clear c40
                  try clear c40b0
                  try clear c40b1
                  try clear c41
                  try clear c41b0
                  try clear c41b1
                  try clear c42
                  try clear c42b0
                  try clear c42b1
                  try clear c44
                  try clear c44b0
                  try clear c44b1
                  try clear p2
                  try clear p6
                  obtain ⟨kq, x138_27, rfl, HA, HJ27, HB⟩ := hcut
                  cases kq with
                  | zero => exact absurd HA.out (by simp [retargetlaw09_FormatOrder.j2])
                  | succ kj27 =>
                    have H := HA.out
                    clear HA
                    simp only [retargetlaw09_FormatOrder.j2] at H
                    by_cases c46 : x138_27 = true
                    · subst c46
                      have H1 : (some false) = some r := by rw [if_pos rfl] at H; exact H
                      clear H
                      have H := H1
                      clear H1
                      obtain rfl := Option.some.inj H
                      go_wp2
                      go_ret
                      exact ⟨by first | rfl | (simp [errW_none, errW_some] <;> rfl) | (simp only [← hji19, ← hji21]; first | rfl | (simp [errW_none, errW_some] <;> rfl)) | (simp [*, errW_none, errW_some] <;> rfl), by repeat (first | (with_reducible first | exact HB.out | apply below_alloc | apply pw_below_drewN | apply below_drew1) | exact HB.out)⟩
                    · replace c46 := Bool.eq_false_iff.mpr c46
                      subst c46
                      have H1 : (if x16_21 = true then (if a3 > (wrap64 (t436 - ji21)) then (some t434) else ((format_Field.f kj27 a0 a1 a2 (wrap64 (a3 + ji21))).bind fun bt444 => (if t434 = true then (if bt444.2 = 0 then (if bt444.1 = (IntKind.u64.wrap (t438 + 1)) then (some true) else (if bt444.1 = 0 then (if 0 ≤ (IntKind.u64.wrap (a1)) then (some (t438 == (IntKind.u64.wrap ((shl .u64 1 (IntKind.u64.wrap (a1))) - 1)))) else (none)) else (some false))) else (some false)) else (some false)))) else (some t434)) = some r := by rw [if_neg (show ¬ (false = true) by decide)] at H; exact H
                      clear H
                      have H := H1
                      clear H1
                      by_cases c47 : x16_21 = true
                      · subst c47
                        have H1 : (if a3 > (wrap64 (t436 - ji21)) then (some t434) else ((format_Field.f kj27 a0 a1 a2 (wrap64 (a3 + ji21))).bind fun bt444 => (if t434 = true then (if bt444.2 = 0 then (if bt444.1 = (IntKind.u64.wrap (t438 + 1)) then (some true) else (if bt444.1 = 0 then (if 0 ≤ (IntKind.u64.wrap (a1)) then (some (t438 == (IntKind.u64.wrap ((shl .u64 1 (IntKind.u64.wrap (a1))) - 1)))) else (none)) else (some false))) else (some false)) else (some false)))) = some r := by rw [if_pos rfl] at H; exact H
                        clear H
                        have H := H1
                        clear H1
                        by_cases c48 : a3 > (wrap64 (t436 - ji21))
                        · rw [if_pos c48] at H
                          have c48b0 : decide ((wrap64 (t436 - ji21)) < a3) = true := decide_eq_true c48
                          clear c48
                          obtain rfl := Option.some.inj H
                          go_wp2
                          go_ret
                          exact ⟨by first | rfl | (simp [errW_none, errW_some] <;> rfl) | (simp only [← hji19, ← hji21]; first | rfl | (simp [errW_none, errW_some] <;> rfl)) | (simp [*, errW_none, errW_some] <;> rfl), by repeat (first | (with_reducible first | exact HB.out | apply below_alloc | apply pw_below_drewN | apply below_drew1) | exact HB.out)⟩
                        · rw [if_neg c48] at H
                          have c48b0 : decide ((wrap64 (t436 - ji21)) < a3) = false := decide_eq_false c48
                          clear c48
                          replace H := Option.bind_eq_some_iff.mp H
                          obtain ⟨⟨t444, t445⟩, A490, H⟩ := H
                          replace H : (if t434 = true then (if t445 = 0 then (if t444 = (IntKind.u64.wrap (t438 + 1)) then (some true) else (if t444 = 0 then (if 0 ≤ (IntKind.u64.wrap (a1)) then (some (t438 == (IntKind.u64.wrap ((shl .u64 1 (IntKind.u64.wrap (a1))) - 1)))) else (none)) else (some false))) else (some false)) else (some false)) = some r := H
                          have A49 := Aside0.mk A490
                          clear A490
                          by_cases c50 : t434 = true
                          · subst c50
                            have H1 : (if t445 = 0 then (if t444 = (IntKind.u64.wrap (t438 + 1)) then (some true) else (if t444 = 0 then (if 0 ≤ (IntKind.u64.wrap (a1)) then (some (t438 == (IntKind.u64.wrap ((shl .u64 1 (IntKind.u64.wrap (a1))) - 1)))) else (none)) else (some false))) else (some false)) = some r := by rw [if_pos rfl] at H; exact H
                            clear H
                            have H := H1
                            clear H1
                            by_cases c51 : t445 = 0
                            · rw [if_pos c51] at H
                              have c51b0 : (t445 == 0) = true := beq_iff_eq.mpr c51
                              have c51b1 : (t445 != 0) = false := bne_eq_false_iff_eq.mpr c51
                              clear c51
                              by_cases c52 : t444 = (IntKind.u64.wrap (t438 + 1))
                              · rw [if_pos c52] at H
                                have c52b0 : (t444 == (IntKind.u64.wrap (t438 + 1))) = true := beq_iff_eq.mpr c52
                                have c52b1 : (t444 != (IntKind.u64.wrap (t438 + 1))) = false := bne_eq_false_iff_eq.mpr c52
                                clear c52
                                obtain rfl := Option.some.inj H
                                go_wp2_with (first | ((with_reducible refine gate_callee (f := 14) rfl ?_); refine goesL_ (some 156) rfl rfl Try.func14 (by kernel_rfl) rfl #[.int .u8 a0, .int .i64 a1, .int .i64 a2, .int .i64 (wrap64 (a3 + ji21))] rfl (by (try simp only [List.map_toArray, List.map_cons, List.map_nil]); first | done | (simp only [hji21]; rfl) | rfl | (simp only [List.length_drop, List.length_take]; rfl)) ?_; (with_reducible refine (format_Field.calls kj27 a0 a1 a2 (wrap64 (a3 + ji21)) t444 t445 _ A49.out).mono ?_); rintro e w53 ⟨rfl, hb⟩; refine ⟨_, rfl, ?_⟩; have n0_ := Aside0.mk (below_step (by repeat (first | (with_reducible first | exact HB.out | apply below_alloc | apply pw_below_drewN | apply below_drew1) | exact HB.out)) hb); clear HB; have HB := n0_; clear n0_; (try clear hb); (try clear hb2); (try clear hk); (try clear hi)))
                                go_ret
                                exact ⟨by first | rfl | (simp [errW_none, errW_some] <;> rfl) | (simp only [← hji19, ← hji21]; first | rfl | (simp [errW_none, errW_some] <;> rfl)) | (simp [*, errW_none, errW_some] <;> rfl), by repeat (first | (with_reducible first | exact HB.out | apply below_alloc | apply pw_below_drewN | apply below_drew1) | exact HB.out)⟩
                              · rw [if_neg c52] at H
                                have c52b0 : (t444 == (IntKind.u64.wrap (t438 + 1))) = false := beq_eq_false_iff_ne.mpr c52
                                have c52b1 : (t444 != (IntKind.u64.wrap (t438 + 1))) = true := bne_iff_ne.mpr c52
                                by_cases c54 : t444 = 0
                                · rw [if_pos c54] at H
                                  have c54b0 : (t444 == 0) = true := beq_iff_eq.mpr c54
                                  have c54b1 : (t444 != 0) = false := bne_eq_false_iff_eq.mpr c54
                                  clear c54
                                  obtain ⟨ji55, hji55⟩ : ∃ j_ : Int, (IntKind.u64.wrap (a1)) = j_ := ⟨_, rfl⟩
                                  replace H : (if 0 ≤ (ji55) then (some (t438 == (IntKind.u64.wrap ((shl .u64 1 (ji55)) - 1)))) else (none)) = some r := by first | (rw [hji55] at H; exact H) | (simp only [hji55] at H ⊢; exact H)
                                  (try rw [hji55] at A49)
                                  by_cases c56 : 0 ≤ (ji55)
                                  · rw [if_pos c56] at H
                                    have c56b0 := eq_true c56
                                    have c56b1 : decide (0 ≤ (ji55)) = true := decide_eq_true c56
                                    clear c56
                                    obtain ⟨ji57, hji57⟩ : ∃ j_ : Int, (shl .u64 1 (ji55)) = j_ := ⟨_, rfl⟩
                                    replace H : (some (t438 == (IntKind.u64.wrap ((ji57) - 1)))) = some r := by first | (rw [hji57] at H; exact H) | (simp only [hji57] at H ⊢; exact H)
                                    (try rw [hji57] at A49)
                                    have hji57_ : (IntKind.u64.wrap (1 * 2 ^ min (ji55).toNat 64)) = ji57 := hji57
                                    have hji57z : (ji55) ≤ 64 → (IntKind.u64.wrap (1 * 2 ^ (ji55).toNat)) = ji57 := shl_small hji57
                                    have hji57u : (IntKind.u64.wrap (2 ^ min (ji55).toNat 64)) = ji57 := by have h_ := hji57_; rw [Int.one_mul] at h_; exact h_
                                    have hji57v : (ji55) ≤ 64 → (IntKind.u64.wrap (2 ^ (ji55).toNat)) = ji57 := fun hle_ => by have h_ := hji57z hle_; rw [Int.one_mul] at h_; exact h_
                                    obtain rfl := Option.some.inj H
                                    go_wp2_with (first | ((with_reducible refine gate_callee (f := 14) rfl ?_); refine goesL_ (some 156) rfl rfl Try.func14 (by kernel_rfl) rfl #[.int .u8 a0, .int .i64 a1, .int .i64 a2, .int .i64 (wrap64 (a3 + ji21))] rfl (by (try simp only [List.map_toArray, List.map_cons, List.map_nil]); first | done | (simp only [hji21]; rfl) | rfl | (simp only [List.length_drop, List.length_take]; rfl)) ?_; (with_reducible refine (format_Field.calls kj27 a0 a1 a2 (wrap64 (a3 + ji21)) t444 t445 _ A49.out).mono ?_); rintro e w58 ⟨rfl, hb⟩; refine ⟨_, rfl, ?_⟩; have n0_ := Aside0.mk (below_step (by repeat (first | (with_reducible first | exact HB.out | apply below_alloc | apply pw_below_drewN | apply below_drew1) | exact HB.out)) hb); clear HB; have HB := n0_; clear n0_; (try clear hb); (try clear hb2); (try clear hk); (try clear hi)))
                                    go_ret
                                    exact ⟨by first | rfl | (simp [errW_none, errW_some] <;> rfl) | (simp only [← hji19, ← hji21, ← hji55, ← hji57]; first | rfl | (simp [errW_none, errW_some] <;> rfl)) | (simp [*, errW_none, errW_some] <;> rfl), by repeat (first | (with_reducible first | exact HB.out | apply below_alloc | apply pw_below_drewN | apply below_drew1) | exact HB.out)⟩
                                  · rw [if_neg c56] at H
                                    exact absurd H (by simp)
                                · rw [if_neg c54] at H
                                  have c54b0 : (t444 == 0) = false := beq_eq_false_iff_ne.mpr c54
                                  have c54b1 : (t444 != 0) = true := bne_iff_ne.mpr c54
                                  obtain rfl := Option.some.inj H
                                  go_wp2_with (first | ((with_reducible refine gate_callee (f := 14) rfl ?_); refine goesL_ (some 156) rfl rfl Try.func14 (by kernel_rfl) rfl #[.int .u8 a0, .int .i64 a1, .int .i64 a2, .int .i64 (wrap64 (a3 + ji21))] rfl (by (try simp only [List.map_toArray, List.map_cons, List.map_nil]); first | done | (simp only [hji21]; rfl) | rfl | (simp only [List.length_drop, List.length_take]; rfl)) ?_; (with_reducible refine (format_Field.calls kj27 a0 a1 a2 (wrap64 (a3 + ji21)) t444 t445 _ A49.out).mono ?_); rintro e w59 ⟨rfl, hb⟩; refine ⟨_, rfl, ?_⟩; have n0_ := Aside0.mk (below_step (by repeat (first | (with_reducible first | exact HB.out | apply below_alloc | apply pw_below_drewN | apply below_drew1) | exact HB.out)) hb); clear HB; have HB := n0_; clear n0_; (try clear hb); (try clear hb2); (try clear hk); (try clear hi)))
                                  go_ret
                                  exact ⟨by first | rfl | (simp [errW_none, errW_some] <;> rfl) | (simp only [← hji19, ← hji21]; first | rfl | (simp [errW_none, errW_some] <;> rfl)) | (simp [*, errW_none, errW_some] <;> rfl), by repeat (first | (with_reducible first | exact HB.out | apply below_alloc | apply pw_below_drewN | apply below_drew1) | exact HB.out)⟩
                            · rw [if_neg c51] at H
                              have c51b0 : (t445 == 0) = false := beq_eq_false_iff_ne.mpr c51
                              have c51b1 : (t445 != 0) = true := bne_iff_ne.mpr c51
                              obtain rfl := Option.some.inj H
                              go_wp2_with (first | ((with_reducible refine gate_callee (f := 14) rfl ?_); refine goesL_ (some 156) rfl rfl Try.func14 (by kernel_rfl) rfl #[.int .u8 a0, .int .i64 a1, .int .i64 a2, .int .i64 (wrap64 (a3 + ji21))] rfl (by (try simp only [List.map_toArray, List.map_cons, List.map_nil]); first | done | (simp only [hji21]; rfl) | rfl | (simp only [List.length_drop, List.length_take]; rfl)) ?_; (with_reducible refine (format_Field.calls kj27 a0 a1 a2 (wrap64 (a3 + ji21)) t444 t445 _ A49.out).mono ?_); rintro e w60 ⟨rfl, hb⟩; refine ⟨_, rfl, ?_⟩; have n0_ := Aside0.mk (below_step (by repeat (first | (with_reducible first | exact HB.out | apply below_alloc | apply pw_below_drewN | apply below_drew1) | exact HB.out)) hb); clear HB; have HB := n0_; clear n0_; (try clear hb); (try clear hb2); (try clear hk); (try clear hi)))
                              go_ret
                              exact ⟨by first | rfl | (simp [errW_none, errW_some] <;> rfl) | (simp only [← hji19, ← hji21]; first | rfl | (simp [errW_none, errW_some] <;> rfl)) | (simp [*, errW_none, errW_some] <;> rfl), by repeat (first | (with_reducible first | exact HB.out | apply below_alloc | apply pw_below_drewN | apply below_drew1) | exact HB.out)⟩
                          · replace c50 := Bool.eq_false_iff.mpr c50
                            subst c50
                            have H1 : (some false) = some r := by rw [if_neg (show ¬ (false = true) by decide)] at H; exact H
                            clear H
                            have H := H1
                            clear H1
                            obtain rfl := Option.some.inj H
                            go_wp2_with (first | ((with_reducible refine gate_callee (f := 14) rfl ?_); refine goesL_ (some 156) rfl rfl Try.func14 (by kernel_rfl) rfl #[.int .u8 a0, .int .i64 a1, .int .i64 a2, .int .i64 (wrap64 (a3 + ji21))] rfl (by (try simp only [List.map_toArray, List.map_cons, List.map_nil]); first | done | (simp only [hji21]; rfl) | rfl | (simp only [List.length_drop, List.length_take]; rfl)) ?_; (with_reducible refine (format_Field.calls kj27 a0 a1 a2 (wrap64 (a3 + ji21)) t444 t445 _ A49.out).mono ?_); rintro e w61 ⟨rfl, hb⟩; refine ⟨_, rfl, ?_⟩; have n0_ := Aside0.mk (below_step (by repeat (first | (with_reducible first | exact HB.out | apply below_alloc | apply pw_below_drewN | apply below_drew1) | exact HB.out)) hb); clear HB; have HB := n0_; clear n0_; (try clear hb); (try clear hb2); (try clear hk); (try clear hi)))
                            go_ret
                            exact ⟨by first | rfl | (simp [errW_none, errW_some] <;> rfl) | (simp only [← hji19, ← hji21]; first | rfl | (simp [errW_none, errW_some] <;> rfl)) | (simp [*, errW_none, errW_some] <;> rfl), by repeat (first | (with_reducible first | exact HB.out | apply below_alloc | apply pw_below_drewN | apply below_drew1) | exact HB.out)⟩
                      · replace c47 := Bool.eq_false_iff.mpr c47
                        subst c47
                        have H1 : (some t434) = some r := by rw [if_neg (show ¬ (false = true) by decide)] at H; exact H
                        clear H
                        have H := H1
                        clear H1
                        obtain rfl := Option.some.inj H
                        go_wp2
                        go_ret
                        exact ⟨by first | rfl | (simp [errW_none, errW_some] <;> rfl) | (simp only [← hji19, ← hji21]; first | rfl | (simp [errW_none, errW_some] <;> rfl)) | (simp [*, errW_none, errW_some] <;> rfl), by repeat (first | (with_reducible first | exact HB.out | apply below_alloc | apply pw_below_drewN | apply below_drew1) | exact HB.out)⟩
          · rw [if_neg c20] at H
            exact absurd H (by simp)
  · rw [if_neg c8] at H
    have c8b0 : (t437 == 0) = false := beq_eq_false_iff_ne.mpr c8
    have c8b1 : (t437 != 0) = true := bne_iff_ne.mpr c8
    by_cases c62 : t434 = true
    · subst c62
      have H1 : (if t439 = t437 then (some (t438 == 0)) else (some false)) = some r := by rw [if_pos rfl] at H; exact H
      clear H
      have H := H1
      clear H1
      by_cases c63 : t439 = t437
      · rw [if_pos c63] at H
        have c63b0 : (t439 == t437) = true := beq_iff_eq.mpr c63
        have c63b1 : (t439 != t437) = false := bne_eq_false_iff_eq.mpr c63
        clear c63
        obtain rfl := Option.some.inj H
        go_enter Try.func10, Try.ntmps10
        go_wp2_with (first | ((with_reducible refine gate_callee (f := 24) rfl ?_); refine goesL_ (some 23) rfl rfl Try.func24 (by kernel_rfl) rfl #[] rfl (by (try simp only [List.map_toArray, List.map_cons, List.map_nil]); first | done | rfl | (simp only [List.length_drop, List.length_take]; rfl)) ?_; (with_reducible refine (retargetlaw09_alive.calls k  true _ A5.out).mono ?_); rintro e w64 ⟨rfl, hb⟩; refine ⟨_, rfl, ?_⟩; have n0_ := Aside0.mk (below_step (by repeat (first | (with_reducible first | exact HB.out | apply below_alloc | apply pw_below_drewN | apply below_drew1) | exact HB.out)) hb); clear HB; have HB := n0_; clear n0_; (try clear hb); (try clear hb2); (try clear hk); (try clear hi)) | ((with_reducible refine gate_callee (f := 12) rfl ?_); refine goesL_ (some 28) rfl rfl Try.func12 (by kernel_rfl) rfl #[.int .u8 a0, .int .i64 a1, .int .i64 a2] rfl (by (try simp only [List.map_toArray, List.map_cons, List.map_nil]); first | done | rfl | (simp only [List.length_drop, List.length_take]; rfl)) ?_; (with_reducible refine (format_Range.calls k a0 a1 a2 t435 t436 t437 _ A6.out).mono ?_); rintro e w65 ⟨rfl, hb⟩; refine ⟨_, rfl, ?_⟩; have n0_ := Aside0.mk (below_step (by repeat (first | (with_reducible first | exact HB.out | apply below_alloc | apply pw_below_drewN | apply below_drew1) | exact HB.out)) hb); clear HB; have HB := n0_; clear n0_; (try clear hb); (try clear hb2); (try clear hk); (try clear hi)) | ((with_reducible refine gate_callee (f := 14) rfl ?_); refine goesL_ (some 37) rfl rfl Try.func14 (by kernel_rfl) rfl #[.int .u8 a0, .int .i64 a1, .int .i64 a2, .int .i64 a3] rfl (by (try simp only [List.map_toArray, List.map_cons, List.map_nil]); first | done | rfl | (simp only [List.length_drop, List.length_take]; rfl)) ?_; (with_reducible refine (format_Field.calls k a0 a1 a2 a3 t438 t439 _ A7.out).mono ?_); rintro e w66 ⟨rfl, hb⟩; refine ⟨_, rfl, ?_⟩; have n0_ := Aside0.mk (below_step (by repeat (first | (with_reducible first | exact HB.out | apply below_alloc | apply pw_below_drewN | apply below_drew1) | exact HB.out)) hb); clear HB; have HB := n0_; clear n0_; (try clear hb); (try clear hb2); (try clear hk); (try clear hi)))
        go_ret
        exact ⟨by first | rfl | (simp [errW_none, errW_some] <;> rfl) | (simp [*, errW_none, errW_some] <;> rfl), by repeat (first | (with_reducible first | exact HB.out | apply below_alloc | apply pw_below_drewN | apply below_drew1) | exact HB.out)⟩
      · rw [if_neg c63] at H
        have c63b0 : (t439 == t437) = false := beq_eq_false_iff_ne.mpr c63
        have c63b1 : (t439 != t437) = true := bne_iff_ne.mpr c63
        obtain rfl := Option.some.inj H
        go_enter Try.func10, Try.ntmps10
        go_wp2_with (first | ((with_reducible refine gate_callee (f := 24) rfl ?_); refine goesL_ (some 23) rfl rfl Try.func24 (by kernel_rfl) rfl #[] rfl (by (try simp only [List.map_toArray, List.map_cons, List.map_nil]); first | done | rfl | (simp only [List.length_drop, List.length_take]; rfl)) ?_; (with_reducible refine (retargetlaw09_alive.calls k  true _ A5.out).mono ?_); rintro e w67 ⟨rfl, hb⟩; refine ⟨_, rfl, ?_⟩; have n0_ := Aside0.mk (below_step (by repeat (first | (with_reducible first | exact HB.out | apply below_alloc | apply pw_below_drewN | apply below_drew1) | exact HB.out)) hb); clear HB; have HB := n0_; clear n0_; (try clear hb); (try clear hb2); (try clear hk); (try clear hi)) | ((with_reducible refine gate_callee (f := 12) rfl ?_); refine goesL_ (some 28) rfl rfl Try.func12 (by kernel_rfl) rfl #[.int .u8 a0, .int .i64 a1, .int .i64 a2] rfl (by (try simp only [List.map_toArray, List.map_cons, List.map_nil]); first | done | rfl | (simp only [List.length_drop, List.length_take]; rfl)) ?_; (with_reducible refine (format_Range.calls k a0 a1 a2 t435 t436 t437 _ A6.out).mono ?_); rintro e w68 ⟨rfl, hb⟩; refine ⟨_, rfl, ?_⟩; have n0_ := Aside0.mk (below_step (by repeat (first | (with_reducible first | exact HB.out | apply below_alloc | apply pw_below_drewN | apply below_drew1) | exact HB.out)) hb); clear HB; have HB := n0_; clear n0_; (try clear hb); (try clear hb2); (try clear hk); (try clear hi)) | ((with_reducible refine gate_callee (f := 14) rfl ?_); refine goesL_ (some 37) rfl rfl Try.func14 (by kernel_rfl) rfl #[.int .u8 a0, .int .i64 a1, .int .i64 a2, .int .i64 a3] rfl (by (try simp only [List.map_toArray, List.map_cons, List.map_nil]); first | done | rfl | (simp only [List.length_drop, List.length_take]; rfl)) ?_; (with_reducible refine (format_Field.calls k a0 a1 a2 a3 t438 t439 _ A7.out).mono ?_); rintro e w69 ⟨rfl, hb⟩; refine ⟨_, rfl, ?_⟩; have n0_ := Aside0.mk (below_step (by repeat (first | (with_reducible first | exact HB.out | apply below_alloc | apply pw_below_drewN | apply below_drew1) | exact HB.out)) hb); clear HB; have HB := n0_; clear n0_; (try clear hb); (try clear hb2); (try clear hk); (try clear hi)))
        go_ret
        exact ⟨by first | rfl | (simp [errW_none, errW_some] <;> rfl) | (simp [*, errW_none, errW_some] <;> rfl), by repeat (first | (with_reducible first | exact HB.out | apply below_alloc | apply pw_below_drewN | apply below_drew1) | exact HB.out)⟩
    · replace c62 := Bool.eq_false_iff.mpr c62
      subst c62
      have H1 : (some false) = some r := by rw [if_neg (show ¬ (false = true) by decide)] at H; exact H
      clear H
      have H := H1
      clear H1
      obtain rfl := Option.some.inj H
      go_enter Try.func10, Try.ntmps10
      go_wp2_with (first | ((with_reducible refine gate_callee (f := 24) rfl ?_); refine goesL_ (some 23) rfl rfl Try.func24 (by kernel_rfl) rfl #[] rfl (by (try simp only [List.map_toArray, List.map_cons, List.map_nil]); first | done | rfl | (simp only [List.length_drop, List.length_take]; rfl)) ?_; (with_reducible refine (retargetlaw09_alive.calls k  false _ A5.out).mono ?_); rintro e w70 ⟨rfl, hb⟩; refine ⟨_, rfl, ?_⟩; have n0_ := Aside0.mk (below_step (by repeat (first | (with_reducible first | exact HB.out | apply below_alloc | apply pw_below_drewN | apply below_drew1) | exact HB.out)) hb); clear HB; have HB := n0_; clear n0_; (try clear hb); (try clear hb2); (try clear hk); (try clear hi)) | ((with_reducible refine gate_callee (f := 12) rfl ?_); refine goesL_ (some 28) rfl rfl Try.func12 (by kernel_rfl) rfl #[.int .u8 a0, .int .i64 a1, .int .i64 a2] rfl (by (try simp only [List.map_toArray, List.map_cons, List.map_nil]); first | done | rfl | (simp only [List.length_drop, List.length_take]; rfl)) ?_; (with_reducible refine (format_Range.calls k a0 a1 a2 t435 t436 t437 _ A6.out).mono ?_); rintro e w71 ⟨rfl, hb⟩; refine ⟨_, rfl, ?_⟩; have n0_ := Aside0.mk (below_step (by repeat (first | (with_reducible first | exact HB.out | apply below_alloc | apply pw_below_drewN | apply below_drew1) | exact HB.out)) hb); clear HB; have HB := n0_; clear n0_; (try clear hb); (try clear hb2); (try clear hk); (try clear hi)) | ((with_reducible refine gate_callee (f := 14) rfl ?_); refine goesL_ (some 37) rfl rfl Try.func14 (by kernel_rfl) rfl #[.int .u8 a0, .int .i64 a1, .int .i64 a2, .int .i64 a3] rfl (by (try simp only [List.map_toArray, List.map_cons, List.map_nil]); first | done | rfl | (simp only [List.length_drop, List.length_take]; rfl)) ?_; (with_reducible refine (format_Field.calls k a0 a1 a2 a3 t438 t439 _ A7.out).mono ?_); rintro e w72 ⟨rfl, hb⟩; refine ⟨_, rfl, ?_⟩; have n0_ := Aside0.mk (below_step (by repeat (first | (with_reducible first | exact HB.out | apply below_alloc | apply pw_below_drewN | apply below_drew1) | exact HB.out)) hb); clear HB; have HB := n0_; clear n0_; (try clear hb); (try clear hb2); (try clear hk); (try clear hi)))
      go_ret
      exact ⟨by first | rfl | (simp [errW_none, errW_some] <;> rfl) | (simp [*, errW_none, errW_some] <;> rfl), by repeat (first | (with_reducible first | exact HB.out | apply below_alloc | apply pw_below_drewN | apply below_drew1) | exact HB.out)⟩

/-- THE ONE PURE STATEMENT of retargetlaw09_FormatOrder: yours. -/
def retargetlaw09_FormatOrder.Pure : Prop := ∀ (a0 : Int) (a1 : Int) (a2 : Int) (a3 : Int), (Lit.int .u8 a0).wf = true → (Lit.int .i64 a1).wf = true → (Lit.int .i64 a2).wf = true → (Lit.int .i64 a3).wf = true → ∃ k, retargetlaw09_FormatOrder.f k a0 a1 a2 a3 = some true
theorem retargetlaw09_FormatOrder.walk (P : retargetlaw09_FormatOrder.Pure) (a0 : Int) (a1 : Int) (a2 : Int) (a3 : Int) (w : World) (w0 : (Lit.int .u8 a0).wf = true) (w1 : (Lit.int .i64 a1).wf = true) (w2 : (Lit.int .i64 a2).wf = true) (w3 : (Lit.int .i64 a3).wf = true) :
    Calls Try.prog 10 #[.int .u8 a0, .int .i64 a1, .int .i64 a2, .int .i64 a3] w fun e w' => e = .returned (.bool true) ∧ Below w.heap.size w w' := by
  obtain ⟨k, h⟩ := P a0 a1 a2 a3 w0 w1 w2 w3
  refine (retargetlaw09_FormatOrder.calls k a0 a1 a2 a3 true w h).mono ?_
  rintro e w' ⟨rfl, hd⟩
  exact ⟨rfl, hd⟩

end Go.Proofs.Ytgbciglkfbiopaa.Q
