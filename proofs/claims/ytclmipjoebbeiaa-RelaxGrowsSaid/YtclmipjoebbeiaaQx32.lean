-- Written by wip/tools/given.py (own program over the kit's print.py) out of the translation. Not trusted: Lean checks it.
import Derived.Test.YtclmipjoebbeiaaQx0
import Derived.Test.YtclmipjoebbeiaaQx2
import Derived.Test.YtclmipjoebbeiaaQx25
import Derived.Test.YtclmipjoebbeiaaQx31
namespace Go.Proofs.Ytclmipjoebbeiaa.Q
open Go.RowKit Go.Proofs.YtclmipjoebbeiaaW.PrintWords Go.Proofs.YtclmipjoebbeiaaW.PrintLast Go.Proofs.YtclmipjoebbeiaaW.PrintMore
attribute [local go_sem] max2_int min2_int max_two min_two max_three min_three max_four min_four   -- for this text's walks alone
set_option linter.unusedVariables false
set_option linter.unusedSimpArgs false

/-! ### retargetlaw40_RelaxGrows: function 5 -/
mutual
def retargetlaw40_RelaxGrows.j0 : Nat → Int → Int → Bool → Bool → List (S48) → List Int → Option (Bool)
  | 0, _, _, _, _, _, _ => none
  | k + 1, x1, x2, x7, x39, x248000, x248001 => if x39 = true then (some x7) else ((some (([] : List (S48)) : List (S48))).bind fun y250 => (if y250.length + x248000.length < 2513169434916 then ((some (y250 ++ x248000 : List (S48))).bind fun y253 => (if 0 ≤ x1 then (if x1 < (y253.length : Int) then ((some (y253.set (x1 : Int).toNat (⟨wrap64 (((rd_T48 y253 x1).f0) + x2), (rd_T48 y253 x1).f1, (rd_T48 y253 x1).f2, (rd_T48 y253 x1).f3, (rd_T48 y253 x1).f4, (rd_T48 y253 x1).f5, (rd_T48 y253 x1).f6⟩ : S48) : List (S48))).bind fun y258 => (if ((rd_T48 y253 x1).f2) ≥ 0 then (retargetlaw40_RelaxGrows.j1 k x7 x248000 x248001 (y258.set (x1 : Int).toNat (⟨(rd_T48 y258 x1).f0, wrap64 (((rd_T48 y258 x1).f1) + x2), (rd_T48 y258 x1).f2, (rd_T48 y258 x1).f3, (rd_T48 y258 x1).f4, (rd_T48 y258 x1).f5, (rd_T48 y258 x1).f6⟩ : S48)) x248001) else (retargetlaw40_RelaxGrows.j1 k x7 x248000 x248001 y258 x248001))) else (none)) else (none))) else (none)))
def retargetlaw40_RelaxGrows.j1 : Nat → Bool → List (S48) → List Int → List (S48) → List Int → Option (Bool)
  | 0, _, _, _, _, _ => none
  | k + 1, x7, x248000, x248001, x257000, x257001 => (relax_Solve.f k x248000 x248001).bind fun bt262 => ((relax_Solve.f k x257000 x257001).bind fun bt266 => (if bt262.2 = 0 then (retargetlaw40_RelaxGrows.j2 k x7 bt262.1 bt262.2 bt266.1 bt266.2 (bt266.2 != 0)) else (retargetlaw40_RelaxGrows.j2 k x7 bt262.1 bt262.2 bt266.1 bt266.2 true)))
def retargetlaw40_RelaxGrows.j2 : Nat → Bool → List Bool → Int → List Bool → Int → Bool → Option (Bool)
  | 0, _, _, _, _, _, _ => none
  | k + 1, x7, x9, x10, x11, x12, x96 => if x96 = true then (if x7 = true then (if x10 = 24 then (some (x12 != 0)) else (some true)) else (some false)) else (if (x9.length : Int) = (x11.length : Int) then (retargetlaw40_RelaxGrows.l0 k x7 x9 x11 0) else (some false))
def retargetlaw40_RelaxGrows.l0 : Nat → Bool → List Bool → List Bool → Int → Option (Bool)
  | 0, _, _, _, _ => none
  | k + 1, x7, x9, x11, x13 => if x13 < (x9.length : Int) then (if 0 ≤ x13 then (if rdOf false x9 x13 = true then (if x13 < (x11.length : Int) then (if rdOf false x11 x13 = true then (retargetlaw40_RelaxGrows.l0 k x7 x9 x11 (wrap64 (x13 + 1))) else (some false)) else (none)) else (retargetlaw40_RelaxGrows.l0 k x7 x9 x11 (wrap64 (x13 + 1)))) else (none)) else (some x7)
end
def retargetlaw40_RelaxGrows.f (k : Nat) (l0_0 : List (S48)) (l0_1 : List Int) (a1 : Int) (a2 : Int) : Option (Bool) := (retargetlaw40_alive.f).bind fun t248 => ((retargetref40_Great.f l0_0 l0_1).bind fun t249 => (if t249 = true then (retargetlaw40_RelaxGrows.j0 k a1 a2 t248 true l0_0 l0_1) else (if a1 < 0 then (retargetlaw40_RelaxGrows.j0 k a1 a2 t248 true l0_0 l0_1) else (if a1 ≥ (l0_0.length : Int) then (retargetlaw40_RelaxGrows.j0 k a1 a2 t248 true l0_0 l0_1) else (if a2 < 0 then (retargetlaw40_RelaxGrows.j0 k a1 a2 t248 true l0_0 l0_1) else (if a2 > 1000 then (retargetlaw40_RelaxGrows.j0 k a1 a2 t248 true l0_0 l0_1) else (retargetlaw40_RelaxGrows.j0 k a1 a2 t248 (!t248) l0_0 l0_1)))))))
theorem retargetlaw40_RelaxGrows.mono_l : ∀ k, (∀ y0 y1 y2 y3 y4 y5, LeO (retargetlaw40_RelaxGrows.j0 k y0 y1 y2 y3 y4 y5) (retargetlaw40_RelaxGrows.j0 (k + 1) y0 y1 y2 y3 y4 y5)) ∧ (∀ y0 y1 y2 y3 y4, LeO (retargetlaw40_RelaxGrows.j1 k y0 y1 y2 y3 y4) (retargetlaw40_RelaxGrows.j1 (k + 1) y0 y1 y2 y3 y4)) ∧ (∀ y0 y1 y2 y3 y4 y5, LeO (retargetlaw40_RelaxGrows.j2 k y0 y1 y2 y3 y4 y5) (retargetlaw40_RelaxGrows.j2 (k + 1) y0 y1 y2 y3 y4 y5)) ∧ (∀ y0 y1 y2 y3, LeO (retargetlaw40_RelaxGrows.l0 k y0 y1 y2 y3) (retargetlaw40_RelaxGrows.l0 (k + 1) y0 y1 y2 y3))
  | 0 => ⟨fun _ _ _ _ _ _ r h => by simp [retargetlaw40_RelaxGrows.j0] at h, fun _ _ _ _ _ r h => by simp [retargetlaw40_RelaxGrows.j1] at h, fun _ _ _ _ _ _ r h => by simp [retargetlaw40_RelaxGrows.j2] at h, fun _ _ _ _ r h => by simp [retargetlaw40_RelaxGrows.l0] at h⟩
  | k + 1 => by
    obtain ⟨ih0, ih1, ih2, ih3⟩ := retargetlaw40_RelaxGrows.mono_l k
    refine ⟨?_, ?_, ?_, ?_⟩
    · intro y0 y1 y2 y3 y4 y5
      unfold retargetlaw40_RelaxGrows.j0
      repeat' first
      | (with_reducible exact ih0 _ _ _ _ _ _)
      | (with_reducible exact ih1 _ _ _ _ _)
      | (with_reducible exact ih2 _ _ _ _ _ _)
      | (with_reducible exact ih3 _ _ _ _)
      | (with_reducible exact relax_Solve.mono _ _ _)
      | (with_reducible exact LeO.refl _)
      | (with_reducible exact LeO.none _)
      | (with_reducible refine LeO.ite ?_ ?_)
      | (with_reducible refine LeO.bind ?_ (fun _ => ?_))
      | exact ih0 _ _ _ _ _ _
      | exact ih1 _ _ _ _ _
      | exact ih2 _ _ _ _ _ _
      | exact ih3 _ _ _ _
      | exact relax_Solve.mono _ _ _
      | exact LeO.none _
      | refine LeO.ite ?_ ?_
      | refine LeO.bind ?_ (fun _ => ?_)
    · intro y0 y1 y2 y3 y4
      unfold retargetlaw40_RelaxGrows.j1
      repeat' first
      | (with_reducible exact ih0 _ _ _ _ _ _)
      | (with_reducible exact ih1 _ _ _ _ _)
      | (with_reducible exact ih2 _ _ _ _ _ _)
      | (with_reducible exact ih3 _ _ _ _)
      | (with_reducible exact relax_Solve.mono _ _ _)
      | (with_reducible exact LeO.refl _)
      | (with_reducible exact LeO.none _)
      | (with_reducible refine LeO.ite ?_ ?_)
      | (with_reducible refine LeO.bind ?_ (fun _ => ?_))
      | exact ih0 _ _ _ _ _ _
      | exact ih1 _ _ _ _ _
      | exact ih2 _ _ _ _ _ _
      | exact ih3 _ _ _ _
      | exact relax_Solve.mono _ _ _
      | exact LeO.none _
      | refine LeO.ite ?_ ?_
      | refine LeO.bind ?_ (fun _ => ?_)
    · intro y0 y1 y2 y3 y4 y5
      unfold retargetlaw40_RelaxGrows.j2
      repeat' first
      | (with_reducible exact ih0 _ _ _ _ _ _)
      | (with_reducible exact ih1 _ _ _ _ _)
      | (with_reducible exact ih2 _ _ _ _ _ _)
      | (with_reducible exact ih3 _ _ _ _)
      | (with_reducible exact relax_Solve.mono _ _ _)
      | (with_reducible exact LeO.refl _)
      | (with_reducible exact LeO.none _)
      | (with_reducible refine LeO.ite ?_ ?_)
      | (with_reducible refine LeO.bind ?_ (fun _ => ?_))
      | exact ih0 _ _ _ _ _ _
      | exact ih1 _ _ _ _ _
      | exact ih2 _ _ _ _ _ _
      | exact ih3 _ _ _ _
      | exact relax_Solve.mono _ _ _
      | exact LeO.none _
      | refine LeO.ite ?_ ?_
      | refine LeO.bind ?_ (fun _ => ?_)
    · intro y0 y1 y2 y3
      unfold retargetlaw40_RelaxGrows.l0
      repeat' first
      | (with_reducible exact ih0 _ _ _ _ _ _)
      | (with_reducible exact ih1 _ _ _ _ _)
      | (with_reducible exact ih2 _ _ _ _ _ _)
      | (with_reducible exact ih3 _ _ _ _)
      | (with_reducible exact relax_Solve.mono _ _ _)
      | (with_reducible exact LeO.refl _)
      | (with_reducible exact LeO.none _)
      | (with_reducible refine LeO.ite ?_ ?_)
      | (with_reducible refine LeO.bind ?_ (fun _ => ?_))
      | exact ih0 _ _ _ _ _ _
      | exact ih1 _ _ _ _ _
      | exact ih2 _ _ _ _ _ _
      | exact ih3 _ _ _ _
      | exact relax_Solve.mono _ _ _
      | exact LeO.none _
      | refine LeO.ite ?_ ?_
      | refine LeO.bind ?_ (fun _ => ?_)
theorem retargetlaw40_RelaxGrows.mono : ∀ a0 a1 a2 a3 k, LeO (retargetlaw40_RelaxGrows.f k a0 a1 a2 a3) (retargetlaw40_RelaxGrows.f (k + 1) a0 a1 a2 a3) := by
  intro a0 a1 a2 a3 k
  obtain ⟨ih0, ih1, ih2, ih3⟩ := retargetlaw40_RelaxGrows.mono_l k
  unfold retargetlaw40_RelaxGrows.f
  repeat' first
      | (with_reducible exact ih0 _ _ _ _ _ _)
      | (with_reducible exact ih1 _ _ _ _ _)
      | (with_reducible exact ih2 _ _ _ _ _ _)
      | (with_reducible exact ih3 _ _ _ _)
      | (with_reducible exact relax_Solve.mono _ _ _)
      | (with_reducible exact LeO.refl _)
      | (with_reducible exact LeO.none _)
      | (with_reducible refine LeO.ite ?_ ?_)
      | (with_reducible refine LeO.bind ?_ (fun _ => ?_))
      | exact ih0 _ _ _ _ _ _
      | exact ih1 _ _ _ _ _
      | exact ih2 _ _ _ _ _ _
      | exact ih3 _ _ _ _
      | exact relax_Solve.mono _ _ _
      | exact LeO.none _
      | refine LeO.ite ?_ ?_
      | refine LeO.bind ?_ (fun _ => ?_)
def retargetlaw40_RelaxGrows.T4 : Bool × List (List Nat × List Nat) := (true, [([], []), ([], []), ([1], [1]), ([0, 2], [0, 2]), ([], []), ([4], [4]), ([3, 5], [3, 5]), ([], []), ([7, 6, 3, 0, 1, 2, 3, 4, 5, 6, 7], [6, 7])])
def retargetlaw40_RelaxGrows.B4 : List Nat := [0, 0, 2, 7, 0, 16, 63, 0, 255]
theorem retargetlaw40_RelaxGrows.tab4 : rtab .any (opsOf Try.f5 4) = retargetlaw40_RelaxGrows.T4 := by kernel_rfl
theorem retargetlaw40_RelaxGrows.bits4 : waitsOk retargetlaw40_RelaxGrows.T4.2 retargetlaw40_RelaxGrows.B4 = true := by kernel_rfl
def retargetlaw40_RelaxGrows.T5 : Bool × List (List Nat × List Nat) := (true, [([], []), ([0], [0]), ([], []), ([], []), ([3], [3]), ([], []), ([4, 5], [4, 5]), ([6], [6]), ([7], [7]), ([], []), ([8, 9], [8, 9]), ([1, 2, 0, 1, 2, 3, 4, 5, 6, 7, 8, 9, 10], [1, 2]), ([11, 0, 1, 2, 3, 4, 5, 6, 7, 8, 9, 10], [11]), ([12, 10, 0, 1, 2, 3, 4, 5, 6, 7, 8, 9, 10], [10, 12])])
def retargetlaw40_RelaxGrows.B5 : List Nat := [0, 1, 0, 0, 8, 0, 56, 120, 248, 0, 1016, 2047, 4095, 8191]
theorem retargetlaw40_RelaxGrows.tab5 : rtab .any (opsOf Try.f5 5) = retargetlaw40_RelaxGrows.T5 := by kernel_rfl
theorem retargetlaw40_RelaxGrows.bits5 : waitsOk retargetlaw40_RelaxGrows.T5.2 retargetlaw40_RelaxGrows.B5 = true := by kernel_rfl
def retargetlaw40_RelaxGrows.T7 : Bool × List (List Nat × List Nat) := (true, [([], []), ([0], [0]), ([], []), ([], []), ([3], [3]), ([], []), ([4, 5], [4, 5]), ([6], [6]), ([7], [7]), ([], []), ([8, 9], [8, 9]), ([1, 2, 0, 1, 2, 3, 4, 5, 6, 7, 8, 9, 10], [1, 2]), ([11, 0, 1, 2, 3, 4, 5, 6, 7, 8, 9, 10], [11]), ([12, 10, 0, 1, 2, 3, 4, 5, 6, 7, 8, 9, 10], [10, 12])])
def retargetlaw40_RelaxGrows.B7 : List Nat := [0, 1, 0, 0, 8, 0, 56, 120, 248, 0, 1016, 2047, 4095, 8191]
theorem retargetlaw40_RelaxGrows.tab7 : rtab .any (opsOf Try.f5 7) = retargetlaw40_RelaxGrows.T7 := by kernel_rfl
theorem retargetlaw40_RelaxGrows.bits7 : waitsOk retargetlaw40_RelaxGrows.T7.2 retargetlaw40_RelaxGrows.B7 = true := by kernel_rfl
set_option maxHeartbeats 8000000 in
set_option maxRecDepth 100000 in
theorem retargetlaw40_RelaxGrows.calls (k : Nat) (A0_0 : Option Addr) (c0_0 : Nat) (l0_0 : List (S48)) (A0_1 : Option Addr) (c0_1 : Nat) (l0_1 : List Int) (a1 : Int) (a2 : Int) (r : Bool) (w : World) (hr0_0 : Kd.C k48 w A0_0 l0_0.length l0_0) (hc0_0 : l0_0.length ≤ c0_0) (hr0_1 : Kd.C (Kd.int .i64) w A0_1 l0_1.length l0_1) (hc0_1 : l0_1.length ≤ c0_1) (h : retargetlaw40_RelaxGrows.f k l0_0 l0_1 a1 a2 = some r) (hrt_ : r = true) :
    Calls Try.prog 5 #[.agg #[.slice A0_0 l0_0.length c0_0, .slice A0_1 l0_1.length c0_1], .int .i64 a1, .int .i64 a2] w fun e w' => e = .returned (.bool r) ∧ Below w.heap.size w w' := by
  have hu25 := Try.underlying25
  have HR0_0 := Aside0.mk hr0_0
  have HC0_0 := Aside0.mk hc0_0
  clear hr0_0 hc0_0
  have HR0_1 := Aside0.mk hr0_1
  have HC0_1 := Aside0.mk hc0_1
  clear hr0_1 hc0_1
  have HB := Aside0.mk (Below.refl w.heap.size w)
  have H : ((retargetlaw40_alive.f).bind fun t248 => ((retargetref40_Great.f l0_0 l0_1).bind fun t249 => (if t249 = true then (retargetlaw40_RelaxGrows.j0 k a1 a2 t248 true l0_0 l0_1) else (if a1 < 0 then (retargetlaw40_RelaxGrows.j0 k a1 a2 t248 true l0_0 l0_1) else (if a1 ≥ (l0_0.length : Int) then (retargetlaw40_RelaxGrows.j0 k a1 a2 t248 true l0_0 l0_1) else (if a2 < 0 then (retargetlaw40_RelaxGrows.j0 k a1 a2 t248 true l0_0 l0_1) else (if a2 > 1000 then (retargetlaw40_RelaxGrows.j0 k a1 a2 t248 true l0_0 l0_1) else (retargetlaw40_RelaxGrows.j0 k a1 a2 t248 (!t248) l0_0 l0_1)))))))) = some r := h
  clear h
  replace H := Option.bind_eq_some_iff.mp H
  obtain ⟨t248, A40, H⟩ := H
  replace H : ((retargetref40_Great.f l0_0 l0_1).bind fun t249 => (if t249 = true then (retargetlaw40_RelaxGrows.j0 k a1 a2 t248 true l0_0 l0_1) else (if a1 < 0 then (retargetlaw40_RelaxGrows.j0 k a1 a2 t248 true l0_0 l0_1) else (if a1 ≥ (l0_0.length : Int) then (retargetlaw40_RelaxGrows.j0 k a1 a2 t248 true l0_0 l0_1) else (if a2 < 0 then (retargetlaw40_RelaxGrows.j0 k a1 a2 t248 true l0_0 l0_1) else (if a2 > 1000 then (retargetlaw40_RelaxGrows.j0 k a1 a2 t248 true l0_0 l0_1) else (retargetlaw40_RelaxGrows.j0 k a1 a2 t248 (!t248) l0_0 l0_1))))))) = some r := H
  have A4 := Aside0.mk A40
  clear A40
  have HC5 := Aside0.mk H
  clear H
  go_enter Try.func5, Try.ntmps5
  go_upto_region 2 with (first | ((with_reducible refine gate_dst (N := 3) rfl ?_); (try (refine gate_guard (by rfl) ?_; dsimp only)); refine box_event ?hg (N := 3) ?hd (cs := #[.slice A0_0 l0_0.length c0_0, .slice A0_1 l0_1.length c0_1]) (t := 25) ?hr ?_; (case hd => rfl); (case hg => rfl); (case hr => first | (go_simp; done) | (go_simp; rfl)); intro gb247 hg w6 hbox hb; have n0_ := Aside0.mk (below_step (by repeat (first | (with_reducible first | exact HB.out | apply below_alloc | apply pw_below_drewN | apply below_drew1) | exact HB.out)) hb); have n1_ := Aside0.mk (hbox); have n2_ := Aside0.mk ((by rw [hg]; exact (below_size (by repeat (first | (with_reducible first | exact HB.out | apply below_alloc | apply pw_below_drewN | apply below_drew1) | exact HB.out))) : w.heap.size ≤ gb247)); have n3_ := Aside0.mk ((by rw [hg]; exact (below_size (by repeat (first | (with_reducible first | exact HB.out | apply below_alloc | apply pw_below_drewN | apply below_drew1) | exact HB.out))) : w.heap.size ≤ gb247)); clear HB; have HB := n0_; have BK247 := n1_; have GW247 := n2_; have GE247 := n3_; clear n0_ n1_ n2_ n3_; clear hb hbox hg) | ((with_reducible refine gate_callee (f := 23) rfl ?_); refine goesL_ (some 14) rfl rfl Try.func23 (by kernel_rfl) rfl #[] rfl (by (try simp only [List.map_toArray, List.map_cons, List.map_nil]); first | done | rfl | (simp only [List.length_drop, List.length_take]; rfl)) ?_; (with_reducible refine (retargetlaw40_alive.calls  t248 _ A4.out).mono ?_); rintro e w7 ⟨rfl, hb⟩; refine ⟨_, rfl, ?_⟩; have n0_ := Aside0.mk (blk_below (g := gb247) (o := .cells #[.slice A0_0 l0_0.length c0_0, .slice A0_1 l0_1.length c0_1] 25 (0, 0)) (by (with_reducible repeat (first | refine blk_drewN ?_ _ | refine blk_drew ?_ | refine blk_alloc ?_ _)); exact BK247.out) hb); have n1_ := Aside0.mk (below_step (by repeat (first | (with_reducible first | exact HB.out | apply below_alloc | apply pw_below_drewN | apply below_drew1 | refine below_set ?_ GE247.out) | exact HB.out)) hb); clear BK247; clear HB; have BK247 := n0_; have HB := n1_; clear n0_ n1_; (try clear hb); (try clear hb2); (try clear hk); (try clear hi)))
  (try simp only [Act.put, List.setIfInBounds_toArray, List.set_cons_zero, List.set_cons_succ])
  go_cut [39] (fun v39 wc => ∃ (kq : Nat) (x39_4 : Bool), v39 = .bool x39_4 ∧ Aside0 (retargetlaw40_RelaxGrows.j0 kq a1 a2 t248 x39_4 l0_0 l0_1 = some r) ∧ Aside0 (kq ≤ k) ∧ Aside0 (wc.heap[gb247]? = some (.cells #[(.slice A0_0 l0_0.length c0_0), (.slice A0_1 l0_1.length c0_1)] 25 (0, 0))) ∧ Aside0 (Below w.heap.size w wc))
  case first =>
    have H := HC5.out
    clear HC5
    replace H := Option.bind_eq_some_iff.mp H
    obtain ⟨t249, A80, H⟩ := H
    replace H : (if t249 = true then (retargetlaw40_RelaxGrows.j0 k a1 a2 t248 true l0_0 l0_1) else (if a1 < 0 then (retargetlaw40_RelaxGrows.j0 k a1 a2 t248 true l0_0 l0_1) else (if a1 ≥ (l0_0.length : Int) then (retargetlaw40_RelaxGrows.j0 k a1 a2 t248 true l0_0 l0_1) else (if a2 < 0 then (retargetlaw40_RelaxGrows.j0 k a1 a2 t248 true l0_0 l0_1) else (if a2 > 1000 then (retargetlaw40_RelaxGrows.j0 k a1 a2 t248 true l0_0 l0_1) else (retargetlaw40_RelaxGrows.j0 k a1 a2 t248 (!t248) l0_0 l0_1)))))) = some r := H
    have A8 := Aside0.mk A80
    clear A80
    by_cases c9 : t249 = true
    · subst c9
      have H1 : (retargetlaw40_RelaxGrows.j0 k a1 a2 t248 true l0_0 l0_1) = some r := by rw [if_pos rfl] at H; exact H
      clear H
      have H := H1
      clear H1
      have H' := Aside0.mk H
      clear H
      have hcz10_0 : w7.cell? ⟨gb247, 0, none⟩ = some (.slice A0_0 l0_0.length c0_0) := (blk_cell BK247.out 0).trans rfl
      have hcz10_1 : w7.cell? ⟨gb247, 1, none⟩ = some (.slice A0_1 l0_1.length c0_1) := (blk_cell BK247.out 1).trans rfl
      have hfz10_0 := blk_frozen BK247.out 0
      have hfz10_1 := blk_frozen BK247.out 1
      go_wp2_with (first | ((with_reducible refine gate_callee (f := 12) rfl ?_); refine goesL_ (some 16) rfl rfl Try.func12 (by kernel_rfl) rfl #[.agg #[.slice A0_0 l0_0.length c0_0, .slice A0_1 l0_1.length c0_1]] rfl (by (try simp only [List.map_toArray, List.map_cons, List.map_nil]); first | done | rfl | (simp only [List.length_drop, List.length_take]; rfl)) ?_; (with_reducible refine (retargetref40_Great.calls _ _ l0_0 _ _ l0_1 true _ ?side1 ?side2 ?side3 ?side4 A8.out).mono ?_); (case side1 => repeat (first | exact (Kd.C_below HR0_0.out HB.out) | (with_reducible refine Kd.C_alloc ?_ _) | (with_reducible refine Kd.C_drewN ?_ _) | (with_reducible refine Kd.C_drew ?_))); (case side2 => exact HC0_0.out); (case side3 => repeat (first | exact (Kd.C_below HR0_1.out HB.out) | (with_reducible refine Kd.C_alloc ?_ _) | (with_reducible refine Kd.C_drewN ?_ _) | (with_reducible refine Kd.C_drew ?_))); (case side4 => exact HC0_1.out); rintro e w11 ⟨rfl, hb⟩; refine ⟨_, rfl, ?_⟩; have n0_ := Aside0.mk (blk_below (g := gb247) (o := .cells #[.slice A0_0 l0_0.length c0_0, .slice A0_1 l0_1.length c0_1] 25 (0, 0)) (by (with_reducible repeat (first | refine blk_drewN ?_ _ | refine blk_drew ?_ | refine blk_alloc ?_ _)); exact BK247.out) hb); have n1_ := Aside0.mk (below_step (by repeat (first | (with_reducible first | exact HB.out | apply below_alloc | apply pw_below_drewN | apply below_drew1 | refine below_set ?_ GE247.out) | exact HB.out)) hb); clear BK247; clear HB; have BK247 := n0_; have HB := n1_; clear n0_ n1_; (try clear hb); (try clear hb2); (try clear hk); (try clear hi)))
      go_meet
      case rel => exact ⟨_, (true), (by first | rfl | (simp; done) | (simp [*]; done)), H', ⟨by first | omega | exact Nat.le_refl _⟩, ⟨by (with_reducible repeat (first | refine blk_drewN ?_ _ | refine blk_drew ?_ | refine blk_alloc ?_ _)); exact BK247.out⟩, ⟨by repeat (first | (with_reducible first | exact HB.out | apply below_alloc | apply pw_below_drewN | apply below_drew1 | refine below_set ?_ GE247.out) | exact HB.out)⟩⟩
    · replace c9 := Bool.eq_false_iff.mpr c9
      subst c9
      have H1 : (if a1 < 0 then (retargetlaw40_RelaxGrows.j0 k a1 a2 t248 true l0_0 l0_1) else (if a1 ≥ (l0_0.length : Int) then (retargetlaw40_RelaxGrows.j0 k a1 a2 t248 true l0_0 l0_1) else (if a2 < 0 then (retargetlaw40_RelaxGrows.j0 k a1 a2 t248 true l0_0 l0_1) else (if a2 > 1000 then (retargetlaw40_RelaxGrows.j0 k a1 a2 t248 true l0_0 l0_1) else (retargetlaw40_RelaxGrows.j0 k a1 a2 t248 (!t248) l0_0 l0_1))))) = some r := by rw [if_neg (show ¬ (false = true) by decide)] at H; exact H
      clear H
      have H := H1
      clear H1
      by_cases c12 : a1 < 0
      · rw [if_pos c12] at H
        have c12b0 : decide (a1 < 0) = true := decide_eq_true c12
        clear c12
        (first | rw [c12b0] | (simp only [i64_w, i32_w]; rw [c12b0]) | skip)
        have H' := Aside0.mk H
        clear H
        have hcz13_0 : w7.cell? ⟨gb247, 0, none⟩ = some (.slice A0_0 l0_0.length c0_0) := (blk_cell BK247.out 0).trans rfl
        have hcz13_1 : w7.cell? ⟨gb247, 1, none⟩ = some (.slice A0_1 l0_1.length c0_1) := (blk_cell BK247.out 1).trans rfl
        have hfz13_0 := blk_frozen BK247.out 0
        have hfz13_1 := blk_frozen BK247.out 1
        go_wp2_with (first | ((with_reducible refine gate_callee (f := 12) rfl ?_); refine goesL_ (some 16) rfl rfl Try.func12 (by kernel_rfl) rfl #[.agg #[.slice A0_0 l0_0.length c0_0, .slice A0_1 l0_1.length c0_1]] rfl (by (try simp only [List.map_toArray, List.map_cons, List.map_nil]); first | done | rfl | (simp only [List.length_drop, List.length_take]; rfl)) ?_; (with_reducible refine (retargetref40_Great.calls _ _ l0_0 _ _ l0_1 false _ ?side1 ?side2 ?side3 ?side4 A8.out).mono ?_); (case side1 => repeat (first | exact (Kd.C_below HR0_0.out HB.out) | (with_reducible refine Kd.C_alloc ?_ _) | (with_reducible refine Kd.C_drewN ?_ _) | (with_reducible refine Kd.C_drew ?_))); (case side2 => exact HC0_0.out); (case side3 => repeat (first | exact (Kd.C_below HR0_1.out HB.out) | (with_reducible refine Kd.C_alloc ?_ _) | (with_reducible refine Kd.C_drewN ?_ _) | (with_reducible refine Kd.C_drew ?_))); (case side4 => exact HC0_1.out); rintro e w14 ⟨rfl, hb⟩; refine ⟨_, rfl, ?_⟩; have n0_ := Aside0.mk (blk_below (g := gb247) (o := .cells #[.slice A0_0 l0_0.length c0_0, .slice A0_1 l0_1.length c0_1] 25 (0, 0)) (by (with_reducible repeat (first | refine blk_drewN ?_ _ | refine blk_drew ?_ | refine blk_alloc ?_ _)); exact BK247.out) hb); have n1_ := Aside0.mk (below_step (by repeat (first | (with_reducible first | exact HB.out | apply below_alloc | apply pw_below_drewN | apply below_drew1 | refine below_set ?_ GE247.out) | exact HB.out)) hb); clear BK247; clear HB; have BK247 := n0_; have HB := n1_; clear n0_ n1_; (try clear hb); (try clear hb2); (try clear hk); (try clear hi)))
        go_meet
        case rel => exact ⟨_, (true), (by first | rfl | (simp; done) | (simp [*]; done)), H', ⟨by first | omega | exact Nat.le_refl _⟩, ⟨by (with_reducible repeat (first | refine blk_drewN ?_ _ | refine blk_drew ?_ | refine blk_alloc ?_ _)); exact BK247.out⟩, ⟨by repeat (first | (with_reducible first | exact HB.out | apply below_alloc | apply pw_below_drewN | apply below_drew1 | refine below_set ?_ GE247.out) | exact HB.out)⟩⟩
      · rw [if_neg c12] at H
        have c12b0 : decide (a1 < 0) = false := decide_eq_false c12
        clear c12
        (first | rw [c12b0] | (simp only [i64_w, i32_w]; rw [c12b0]) | skip)
        by_cases c15 : a1 ≥ (l0_0.length : Int)
        · rw [if_pos c15] at H
          have c15b0 : decide ((l0_0.length : Int) ≤ a1) = true := decide_eq_true c15
          clear c15
          have H' := Aside0.mk H
          clear H
          have hcz16_0 : w7.cell? ⟨gb247, 0, none⟩ = some (.slice A0_0 l0_0.length c0_0) := (blk_cell BK247.out 0).trans rfl
          have hcz16_1 : w7.cell? ⟨gb247, 1, none⟩ = some (.slice A0_1 l0_1.length c0_1) := (blk_cell BK247.out 1).trans rfl
          have hfz16_0 := blk_frozen BK247.out 0
          have hfz16_1 := blk_frozen BK247.out 1
          go_wp2_with (first | ((with_reducible refine gate_callee (f := 12) rfl ?_); refine goesL_ (some 16) rfl rfl Try.func12 (by kernel_rfl) rfl #[.agg #[.slice A0_0 l0_0.length c0_0, .slice A0_1 l0_1.length c0_1]] rfl (by (try simp only [List.map_toArray, List.map_cons, List.map_nil]); first | done | rfl | (simp only [List.length_drop, List.length_take]; rfl)) ?_; (with_reducible refine (retargetref40_Great.calls _ _ l0_0 _ _ l0_1 false _ ?side1 ?side2 ?side3 ?side4 A8.out).mono ?_); (case side1 => repeat (first | exact (Kd.C_below HR0_0.out HB.out) | (with_reducible refine Kd.C_alloc ?_ _) | (with_reducible refine Kd.C_drewN ?_ _) | (with_reducible refine Kd.C_drew ?_))); (case side2 => exact HC0_0.out); (case side3 => repeat (first | exact (Kd.C_below HR0_1.out HB.out) | (with_reducible refine Kd.C_alloc ?_ _) | (with_reducible refine Kd.C_drewN ?_ _) | (with_reducible refine Kd.C_drew ?_))); (case side4 => exact HC0_1.out); rintro e w17 ⟨rfl, hb⟩; refine ⟨_, rfl, ?_⟩; have n0_ := Aside0.mk (blk_below (g := gb247) (o := .cells #[.slice A0_0 l0_0.length c0_0, .slice A0_1 l0_1.length c0_1] 25 (0, 0)) (by (with_reducible repeat (first | refine blk_drewN ?_ _ | refine blk_drew ?_ | refine blk_alloc ?_ _)); exact BK247.out) hb); have n1_ := Aside0.mk (below_step (by repeat (first | (with_reducible first | exact HB.out | apply below_alloc | apply pw_below_drewN | apply below_drew1 | refine below_set ?_ GE247.out) | exact HB.out)) hb); clear BK247; clear HB; have BK247 := n0_; have HB := n1_; clear n0_ n1_; (try clear hb); (try clear hb2); (try clear hk); (try clear hi); have hcz18_0 : w17.cell? ⟨gb247, 0, none⟩ = some (.slice A0_0 l0_0.length c0_0) := (blk_cell BK247.out 0).trans rfl; have hcz18_1 : w17.cell? ⟨gb247, 1, none⟩ = some (.slice A0_1 l0_1.length c0_1) := (blk_cell BK247.out 1).trans rfl; have hfz18_0 := blk_frozen BK247.out 0; have hfz18_1 := blk_frozen BK247.out 1))
          go_meet
          case rel => exact ⟨_, (true), (by first | rfl | (simp; done) | (simp [*]; done)), H', ⟨by first | omega | exact Nat.le_refl _⟩, ⟨by (with_reducible repeat (first | refine blk_drewN ?_ _ | refine blk_drew ?_ | refine blk_alloc ?_ _)); exact BK247.out⟩, ⟨by repeat (first | (with_reducible first | exact HB.out | apply below_alloc | apply pw_below_drewN | apply below_drew1 | refine below_set ?_ GE247.out) | exact HB.out)⟩⟩
        · rw [if_neg c15] at H
          have c15b0 : decide ((l0_0.length : Int) ≤ a1) = false := decide_eq_false c15
          clear c15
          by_cases c19 : a2 < 0
          · rw [if_pos c19] at H
            have c19b0 : decide (a2 < 0) = true := decide_eq_true c19
            clear c19
            have H' := Aside0.mk H
            clear H
            have hcz20_0 : w7.cell? ⟨gb247, 0, none⟩ = some (.slice A0_0 l0_0.length c0_0) := (blk_cell BK247.out 0).trans rfl
            have hcz20_1 : w7.cell? ⟨gb247, 1, none⟩ = some (.slice A0_1 l0_1.length c0_1) := (blk_cell BK247.out 1).trans rfl
            have hfz20_0 := blk_frozen BK247.out 0
            have hfz20_1 := blk_frozen BK247.out 1
            go_wp2_with (first | ((with_reducible refine gate_callee (f := 12) rfl ?_); refine goesL_ (some 16) rfl rfl Try.func12 (by kernel_rfl) rfl #[.agg #[.slice A0_0 l0_0.length c0_0, .slice A0_1 l0_1.length c0_1]] rfl (by (try simp only [List.map_toArray, List.map_cons, List.map_nil]); first | done | rfl | (simp only [List.length_drop, List.length_take]; rfl)) ?_; (with_reducible refine (retargetref40_Great.calls _ _ l0_0 _ _ l0_1 false _ ?side1 ?side2 ?side3 ?side4 A8.out).mono ?_); (case side1 => repeat (first | exact (Kd.C_below HR0_0.out HB.out) | (with_reducible refine Kd.C_alloc ?_ _) | (with_reducible refine Kd.C_drewN ?_ _) | (with_reducible refine Kd.C_drew ?_))); (case side2 => exact HC0_0.out); (case side3 => repeat (first | exact (Kd.C_below HR0_1.out HB.out) | (with_reducible refine Kd.C_alloc ?_ _) | (with_reducible refine Kd.C_drewN ?_ _) | (with_reducible refine Kd.C_drew ?_))); (case side4 => exact HC0_1.out); rintro e w21 ⟨rfl, hb⟩; refine ⟨_, rfl, ?_⟩; have n0_ := Aside0.mk (blk_below (g := gb247) (o := .cells #[.slice A0_0 l0_0.length c0_0, .slice A0_1 l0_1.length c0_1] 25 (0, 0)) (by (with_reducible repeat (first | refine blk_drewN ?_ _ | refine blk_drew ?_ | refine blk_alloc ?_ _)); exact BK247.out) hb); have n1_ := Aside0.mk (below_step (by repeat (first | (with_reducible first | exact HB.out | apply below_alloc | apply pw_below_drewN | apply below_drew1 | refine below_set ?_ GE247.out) | exact HB.out)) hb); clear BK247; clear HB; have BK247 := n0_; have HB := n1_; clear n0_ n1_; (try clear hb); (try clear hb2); (try clear hk); (try clear hi); have hcz22_0 : w21.cell? ⟨gb247, 0, none⟩ = some (.slice A0_0 l0_0.length c0_0) := (blk_cell BK247.out 0).trans rfl; have hcz22_1 : w21.cell? ⟨gb247, 1, none⟩ = some (.slice A0_1 l0_1.length c0_1) := (blk_cell BK247.out 1).trans rfl; have hfz22_0 := blk_frozen BK247.out 0; have hfz22_1 := blk_frozen BK247.out 1))
            go_meet
            case rel => exact ⟨_, (true), (by first | rfl | (simp; done) | (simp [*]; done)), H', ⟨by first | omega | exact Nat.le_refl _⟩, ⟨by (with_reducible repeat (first | refine blk_drewN ?_ _ | refine blk_drew ?_ | refine blk_alloc ?_ _)); exact BK247.out⟩, ⟨by repeat (first | (with_reducible first | exact HB.out | apply below_alloc | apply pw_below_drewN | apply below_drew1 | refine below_set ?_ GE247.out) | exact HB.out)⟩⟩
          · rw [if_neg c19] at H
            have c19b0 : decide (a2 < 0) = false := decide_eq_false c19
            clear c19
            by_cases c23 : a2 > 1000
            · rw [if_pos c23] at H
              have c23b0 : decide (1000 < a2) = true := decide_eq_true c23
              clear c23
              have H' := Aside0.mk H
              clear H
              have hcz24_0 : w7.cell? ⟨gb247, 0, none⟩ = some (.slice A0_0 l0_0.length c0_0) := (blk_cell BK247.out 0).trans rfl
              have hcz24_1 : w7.cell? ⟨gb247, 1, none⟩ = some (.slice A0_1 l0_1.length c0_1) := (blk_cell BK247.out 1).trans rfl
              have hfz24_0 := blk_frozen BK247.out 0
              have hfz24_1 := blk_frozen BK247.out 1
              go_wp2_with (first | ((with_reducible refine gate_callee (f := 12) rfl ?_); refine goesL_ (some 16) rfl rfl Try.func12 (by kernel_rfl) rfl #[.agg #[.slice A0_0 l0_0.length c0_0, .slice A0_1 l0_1.length c0_1]] rfl (by (try simp only [List.map_toArray, List.map_cons, List.map_nil]); first | done | rfl | (simp only [List.length_drop, List.length_take]; rfl)) ?_; (with_reducible refine (retargetref40_Great.calls _ _ l0_0 _ _ l0_1 false _ ?side1 ?side2 ?side3 ?side4 A8.out).mono ?_); (case side1 => repeat (first | exact (Kd.C_below HR0_0.out HB.out) | (with_reducible refine Kd.C_alloc ?_ _) | (with_reducible refine Kd.C_drewN ?_ _) | (with_reducible refine Kd.C_drew ?_))); (case side2 => exact HC0_0.out); (case side3 => repeat (first | exact (Kd.C_below HR0_1.out HB.out) | (with_reducible refine Kd.C_alloc ?_ _) | (with_reducible refine Kd.C_drewN ?_ _) | (with_reducible refine Kd.C_drew ?_))); (case side4 => exact HC0_1.out); rintro e w25 ⟨rfl, hb⟩; refine ⟨_, rfl, ?_⟩; have n0_ := Aside0.mk (blk_below (g := gb247) (o := .cells #[.slice A0_0 l0_0.length c0_0, .slice A0_1 l0_1.length c0_1] 25 (0, 0)) (by (with_reducible repeat (first | refine blk_drewN ?_ _ | refine blk_drew ?_ | refine blk_alloc ?_ _)); exact BK247.out) hb); have n1_ := Aside0.mk (below_step (by repeat (first | (with_reducible first | exact HB.out | apply below_alloc | apply pw_below_drewN | apply below_drew1 | refine below_set ?_ GE247.out) | exact HB.out)) hb); clear BK247; clear HB; have BK247 := n0_; have HB := n1_; clear n0_ n1_; (try clear hb); (try clear hb2); (try clear hk); (try clear hi); have hcz26_0 : w25.cell? ⟨gb247, 0, none⟩ = some (.slice A0_0 l0_0.length c0_0) := (blk_cell BK247.out 0).trans rfl; have hcz26_1 : w25.cell? ⟨gb247, 1, none⟩ = some (.slice A0_1 l0_1.length c0_1) := (blk_cell BK247.out 1).trans rfl; have hfz26_0 := blk_frozen BK247.out 0; have hfz26_1 := blk_frozen BK247.out 1))
              go_meet
              case rel => exact ⟨_, (true), (by first | rfl | (simp; done) | (simp [*]; done)), H', ⟨by first | omega | exact Nat.le_refl _⟩, ⟨by (with_reducible repeat (first | refine blk_drewN ?_ _ | refine blk_drew ?_ | refine blk_alloc ?_ _)); exact BK247.out⟩, ⟨by repeat (first | (with_reducible first | exact HB.out | apply below_alloc | apply pw_below_drewN | apply below_drew1 | refine below_set ?_ GE247.out) | exact HB.out)⟩⟩
            · rw [if_neg c23] at H
              have c23b0 : decide (1000 < a2) = false := decide_eq_false c23
              clear c23
              have H' := Aside0.mk H
              clear H
              have hcz27_0 : w7.cell? ⟨gb247, 0, none⟩ = some (.slice A0_0 l0_0.length c0_0) := (blk_cell BK247.out 0).trans rfl
              have hcz27_1 : w7.cell? ⟨gb247, 1, none⟩ = some (.slice A0_1 l0_1.length c0_1) := (blk_cell BK247.out 1).trans rfl
              have hfz27_0 := blk_frozen BK247.out 0
              have hfz27_1 := blk_frozen BK247.out 1
              go_wp2_with (first | ((with_reducible refine gate_callee (f := 12) rfl ?_); refine goesL_ (some 16) rfl rfl Try.func12 (by kernel_rfl) rfl #[.agg #[.slice A0_0 l0_0.length c0_0, .slice A0_1 l0_1.length c0_1]] rfl (by (try simp only [List.map_toArray, List.map_cons, List.map_nil]); first | done | rfl | (simp only [List.length_drop, List.length_take]; rfl)) ?_; (with_reducible refine (retargetref40_Great.calls _ _ l0_0 _ _ l0_1 false _ ?side1 ?side2 ?side3 ?side4 A8.out).mono ?_); (case side1 => repeat (first | exact (Kd.C_below HR0_0.out HB.out) | (with_reducible refine Kd.C_alloc ?_ _) | (with_reducible refine Kd.C_drewN ?_ _) | (with_reducible refine Kd.C_drew ?_))); (case side2 => exact HC0_0.out); (case side3 => repeat (first | exact (Kd.C_below HR0_1.out HB.out) | (with_reducible refine Kd.C_alloc ?_ _) | (with_reducible refine Kd.C_drewN ?_ _) | (with_reducible refine Kd.C_drew ?_))); (case side4 => exact HC0_1.out); rintro e w28 ⟨rfl, hb⟩; refine ⟨_, rfl, ?_⟩; have n0_ := Aside0.mk (blk_below (g := gb247) (o := .cells #[.slice A0_0 l0_0.length c0_0, .slice A0_1 l0_1.length c0_1] 25 (0, 0)) (by (with_reducible repeat (first | refine blk_drewN ?_ _ | refine blk_drew ?_ | refine blk_alloc ?_ _)); exact BK247.out) hb); have n1_ := Aside0.mk (below_step (by repeat (first | (with_reducible first | exact HB.out | apply below_alloc | apply pw_below_drewN | apply below_drew1 | refine below_set ?_ GE247.out) | exact HB.out)) hb); clear BK247; clear HB; have BK247 := n0_; have HB := n1_; clear n0_ n1_; (try clear hb); (try clear hb2); (try clear hk); (try clear hi); have hcz29_0 : w28.cell? ⟨gb247, 0, none⟩ = some (.slice A0_0 l0_0.length c0_0) := (blk_cell BK247.out 0).trans rfl; have hcz29_1 : w28.cell? ⟨gb247, 1, none⟩ = some (.slice A0_1 l0_1.length c0_1) := (blk_cell BK247.out 1).trans rfl; have hfz29_0 := blk_frozen BK247.out 0; have hfz29_1 := blk_frozen BK247.out 1))
              go_meet
              case rel => exact ⟨_, (!t248), (by first | rfl | (simp; done) | (simp [*]; done)), H', ⟨by first | omega | exact Nat.le_refl _⟩, ⟨by (with_reducible repeat (first | refine blk_drewN ?_ _ | refine blk_drew ?_ | refine blk_alloc ?_ _)); exact BK247.out⟩, ⟨by repeat (first | (with_reducible first | exact HB.out | apply below_alloc | apply pw_below_drewN | apply below_drew1 | refine below_set ?_ GE247.out) | exact HB.out)⟩⟩
  case rest =>
    clear HC5
    try clear c1
    try clear c2
    try clear p2
    try clear c5
    try clear c9
    try clear c12
    try clear c12b0
    try clear c15
    try clear c15b0
    try clear c19
    try clear c19b0
    try clear c23
    try clear c23b0
    try clear hcz10_0
    try clear hcz10_1
    try clear hcz13_0
    try clear hcz13_1
    try clear hcz16_0
    try clear hcz16_1
    try clear hcz18_0
    try clear hcz18_1
    try clear hcz20_0
    try clear hcz20_1
    try clear hcz22_0
    try clear hcz22_1
    try clear hcz24_0
    try clear hcz24_1
    try clear hcz26_0
    try clear hcz26_1
    try clear hcz27_0
    try clear hcz27_1
    try clear hcz29_0
    try clear hcz29_1
    try clear hfz10_0
    try clear hfz10_1
    try clear hfz13_0
    try clear hfz13_1
    try clear hfz16_0
    try clear hfz16_1
    try clear hfz18_0
    try clear hfz18_1
    try clear hfz20_0
    try clear hfz20_1
    try clear hfz22_0
    try clear hfz22_1
    try clear hfz24_0
    try clear hfz24_1
    try clear hfz26_0
    try clear hfz26_1
    try clear hfz27_0
    try clear hfz27_1
    try clear hfz29_0
    try clear hfz29_1
    obtain ⟨kq, x39_4, rfl, HA, HJ4, BK247, HB⟩ := hcut
    cases kq with
    | zero => exact absurd HA.out (by simp [retargetlaw40_RelaxGrows.j0])
    | succ kj4 =>
      have H := HA.out
      clear HA
      simp only [retargetlaw40_RelaxGrows.j0] at H
      by_cases c30 : x39_4 = true
      · subst c30
        have H1 : (some t248) = some r := by rw [if_pos rfl] at H; exact H
        clear H
        have H := H1
        clear H1
        obtain rfl := Option.some.inj H
        go_wp2
        go_ret
        exact ⟨by first | rfl | (simp [errW_none, errW_some] <;> rfl) | (simp [*, errW_none, errW_some] <;> rfl), by repeat (first | (with_reducible first | exact HB.out | apply below_alloc | apply pw_below_drewN | apply below_drew1 | refine below_set ?_ GE247.out) | exact HB.out)⟩
      · replace c30 := Bool.eq_false_iff.mpr c30
        subst c30
        have H1 : ((some (([] : List (S48)) : List (S48))).bind fun y250 => (if y250.length + l0_0.length < 2513169434916 then ((some (y250 ++ l0_0 : List (S48))).bind fun y253 => (if 0 ≤ a1 then (if a1 < (y253.length : Int) then ((some (y253.set (a1 : Int).toNat (⟨wrap64 (((rd_T48 y253 a1).f0) + a2), (rd_T48 y253 a1).f1, (rd_T48 y253 a1).f2, (rd_T48 y253 a1).f3, (rd_T48 y253 a1).f4, (rd_T48 y253 a1).f5, (rd_T48 y253 a1).f6⟩ : S48) : List (S48))).bind fun y258 => (if ((rd_T48 y253 a1).f2) ≥ 0 then (retargetlaw40_RelaxGrows.j1 kj4 t248 l0_0 l0_1 (y258.set (a1 : Int).toNat (⟨(rd_T48 y258 a1).f0, wrap64 (((rd_T48 y258 a1).f1) + a2), (rd_T48 y258 a1).f2, (rd_T48 y258 a1).f3, (rd_T48 y258 a1).f4, (rd_T48 y258 a1).f5, (rd_T48 y258 a1).f6⟩ : S48)) l0_1) else (retargetlaw40_RelaxGrows.j1 kj4 t248 l0_0 l0_1 y258 l0_1))) else (none)) else (none))) else (none))) = some r := by rw [if_neg (show ¬ (false = true) by decide)] at H; exact H
        clear H
        have H := H1
        clear H1
        obtain ⟨y250, hy250⟩ : ∃ y_ : List (S48), y_ = (([] : List (S48))) := ⟨_, rfl⟩
        replace H : (if y250.length + l0_0.length < 2513169434916 then ((some (y250 ++ l0_0 : List (S48))).bind fun y253 => (if 0 ≤ a1 then (if a1 < (y253.length : Int) then ((some (y253.set (a1 : Int).toNat (⟨wrap64 (((rd_T48 y253 a1).f0) + a2), (rd_T48 y253 a1).f1, (rd_T48 y253 a1).f2, (rd_T48 y253 a1).f3, (rd_T48 y253 a1).f4, (rd_T48 y253 a1).f5, (rd_T48 y253 a1).f6⟩ : S48) : List (S48))).bind fun y258 => (if ((rd_T48 y253 a1).f2) ≥ 0 then (retargetlaw40_RelaxGrows.j1 kj4 t248 l0_0 l0_1 (y258.set (a1 : Int).toNat (⟨(rd_T48 y258 a1).f0, wrap64 (((rd_T48 y258 a1).f1) + a2), (rd_T48 y258 a1).f2, (rd_T48 y258 a1).f3, (rd_T48 y258 a1).f4, (rd_T48 y258 a1).f5, (rd_T48 y258 a1).f6⟩ : S48)) l0_1) else (retargetlaw40_RelaxGrows.j1 kj4 t248 l0_0 l0_1 y258 l0_1))) else (none)) else (none))) else (none)) = some r := by first | (rw [hy250]; with_reducible exact H) | (have H2_ := (Option.bind_some _ _).symm.trans H; rw [hy250]; with_reducible exact H2_) | (have H2_ := (Option.bind_some _ _).symm.trans H; with_reducible exact H2_) | with_reducible exact H | (rw [hy250]; exact H) | exact H
        have Ny250 := Aside0.mk hy250
        clear hy250
        by_cases c31 : y250.length + l0_0.length < 2513169434916
        · rw [if_pos c31] at H
          have LMc31 := Aside0.mk c31
          clear c31
          obtain ⟨y253, hy253⟩ : ∃ y_ : List (S48), y_ = (y250 ++ l0_0) := ⟨_, rfl⟩
          replace H : (if 0 ≤ a1 then (if a1 < (y253.length : Int) then ((some (y253.set (a1 : Int).toNat (⟨wrap64 (((rd_T48 y253 a1).f0) + a2), (rd_T48 y253 a1).f1, (rd_T48 y253 a1).f2, (rd_T48 y253 a1).f3, (rd_T48 y253 a1).f4, (rd_T48 y253 a1).f5, (rd_T48 y253 a1).f6⟩ : S48) : List (S48))).bind fun y258 => (if ((rd_T48 y253 a1).f2) ≥ 0 then (retargetlaw40_RelaxGrows.j1 kj4 t248 l0_0 l0_1 (y258.set (a1 : Int).toNat (⟨(rd_T48 y258 a1).f0, wrap64 (((rd_T48 y258 a1).f1) + a2), (rd_T48 y258 a1).f2, (rd_T48 y258 a1).f3, (rd_T48 y258 a1).f4, (rd_T48 y258 a1).f5, (rd_T48 y258 a1).f6⟩ : S48)) l0_1) else (retargetlaw40_RelaxGrows.j1 kj4 t248 l0_0 l0_1 y258 l0_1))) else (none)) else (none)) = some r := by first | (rw [hy253]; with_reducible exact H) | (have H2_ := (Option.bind_some _ _).symm.trans H; rw [hy253]; with_reducible exact H2_) | (have H2_ := (Option.bind_some _ _).symm.trans H; with_reducible exact H2_) | with_reducible exact H | (rw [hy253]; exact H) | exact H
          have Ny253 := Aside0.mk hy253
          clear hy253
          by_cases c32 : 0 ≤ a1
          · rw [if_pos c32] at H
            have c32b0 : decide (0 ≤ a1) = true := decide_eq_true c32
            clear c32
            by_cases c33 : a1 < (y253.length : Int)
            · rw [if_pos c33] at H
              have c33b0 : decide (a1 < (y253.length : Int)) = true := decide_eq_true c33
              clear c33
              obtain ⟨y258, hy258⟩ : ∃ y_ : List (S48), y_ = (y253.set (a1 : Int).toNat (⟨wrap64 (((rd_T48 y253 a1).f0) + a2), (rd_T48 y253 a1).f1, (rd_T48 y253 a1).f2, (rd_T48 y253 a1).f3, (rd_T48 y253 a1).f4, (rd_T48 y253 a1).f5, (rd_T48 y253 a1).f6⟩ : S48)) := ⟨_, rfl⟩
              replace H : (if ((rd_T48 y253 a1).f2) ≥ 0 then (retargetlaw40_RelaxGrows.j1 kj4 t248 l0_0 l0_1 (y258.set (a1 : Int).toNat (⟨(rd_T48 y258 a1).f0, wrap64 (((rd_T48 y258 a1).f1) + a2), (rd_T48 y258 a1).f2, (rd_T48 y258 a1).f3, (rd_T48 y258 a1).f4, (rd_T48 y258 a1).f5, (rd_T48 y258 a1).f6⟩ : S48)) l0_1) else (retargetlaw40_RelaxGrows.j1 kj4 t248 l0_0 l0_1 y258 l0_1)) = some r := by first | (rw [hy258]; with_reducible exact H) | (have H2_ := (Option.bind_some _ _).symm.trans H; rw [hy258]; with_reducible exact H2_) | (have H2_ := (Option.bind_some _ _).symm.trans H; with_reducible exact H2_) | with_reducible exact H | (rw [hy258]; exact H) | exact H
              have Ny258 := Aside0.mk hy258
              clear hy258
              have HC36 := Aside0.mk H
              clear H
              try go_wp2
              have n0_ := Aside0.mk (blk_drew BK247.out)
              have n1_ := Aside0.mk (below_drew1 HB.out)
              clear BK247
              clear HB
              have BK247 := n0_
              have HB := n1_
              clear n0_ n1_
              refine start_ (n := 9) (S := fun w' => w'.cell? ⟨gb247, 0, none⟩ = some (.slice A0_0 l0_0.length c0_0) ∧ w'.cell? ⟨gb247, 1, none⟩ = some (.slice A0_1 l0_1.length c0_1)) (ds := []) #[false, false, false, false, false, false, false, false, false] (by kernel_rfl) rfl rfl ⟨(blk_cell BK247.out 0).trans rfl, (blk_cell BK247.out 1).trans rfl⟩ (fun hHeld => ?_); refine with_tabW retargetlaw40_RelaxGrows.tab4 retargetlaw40_RelaxGrows.bits4 (fun HT_ HW_ => ?_)
              generalize wc.drew = w37 at BK247 HB hHeld ⊢
              refine pure_ (i := 1) (N := some 42) (v := ?_) (a' := ?_) #[false, true, false, false, false, false, false, false, false] rfl rfl (any_of HT_.out (by kernel_rfl)) (fun _ _ _ h => h) (Or.inl ⟨by rfl, ?_⟩) ?_ ?_
              rotate_left
              · intro w'
                go_simp
                with_reducible rfl
              rotate_left
              · simp only [Act.put, List.setIfInBounds_toArray, List.set_cons_zero, List.set_cons_succ, i64_w, i32_w]
                rfl
              refine pure_ (i := 4) (N := some 45) (v := ?_) (a' := ?_) #[false, true, false, false, true, false, false, false, false] rfl rfl (any_of HT_.out (by kernel_rfl)) (fun _ _ _ h => h) (Or.inl ⟨by rfl, ?_⟩) ?_ ?_
              rotate_left
              · intro w'
                go_simp
                with_reducible rfl
              rotate_left
              · simp only [Act.put, List.setIfInBounds_toArray, List.set_cons_zero, List.set_cons_succ, i64_w, i32_w]
                rfl
              refine take_ (i := 2) (N := some 43) (v := ?_) (a' := ?_) #[false, true, true, false, true, false, false, false, false] rfl rfl (take_ofW HT_.out HW_.out (by kernel_rfl)) (fun _ _ _ h => h) (Or.inl ⟨by rfl, ?_⟩) hHeld ?_ ?_
              rotate_left
              · rintro w' ⟨s0, s1⟩
                go_simp
                with_reducible rfl
              rotate_left
              · simp only [Act.put, List.setIfInBounds_toArray, List.set_cons_zero, List.set_cons_succ, i64_w, i32_w]
                rfl
              refine take_ (i := 5) (N := some 46) (v := ?_) (a' := ?_) #[false, true, true, false, true, true, false, false, false] rfl rfl (take_ofW HT_.out HW_.out (by kernel_rfl)) (fun _ _ _ h => h) (Or.inl ⟨by rfl, ?_⟩) hHeld ?_ ?_
              rotate_left
              · rintro w' ⟨s0, s1⟩
                go_simp
                with_reducible rfl
              rotate_left
              · simp only [Act.put, List.setIfInBounds_toArray, List.set_cons_zero, List.set_cons_succ, i64_w, i32_w]
                rfl
              refine join_ (σ := Value × Value × Nat) 1 #[true, true, true, true, true, true, true, true, false] (fun s_ => [(41, s_.1), (44, s_.2.1), (8, .pointer (some ⟨s_.2.2, 0, none⟩)), (47, .agg #[s_.2.1, .slice A0_1 l0_1.length c0_1])]) (fun s_ w' => (w'.cell? ⟨gb247, 0, none⟩ = some (.slice A0_0 l0_0.length c0_0) ∧ w'.cell? ⟨gb247, 1, none⟩ = some (.slice A0_1 l0_1.length c0_1)) ∧ (Kd.R k48 48 w' w.heap.size (fun _ => True) s_.2.1 y253) ∧ (w'.heap[gb247]? = some (.cells #[.slice A0_0 l0_0.length c0_0, .slice A0_1 l0_1.length c0_1] 25 (0, 0))) ∧ (w'.heap[s_.2.2]? = some (.cells #[.slice none 0 0, .slice none 0 0] 25 (0, 0))) ∧ (w.heap.size ≤ s_.2.2) ∧ (w.heap.size ≤ s_.2.2) ∧ (gb247 ≠ s_.2.2) ∧ (s_.2.2 ≠ gb247) ∧ (Below w.heap.size w w')) ?_ ?_
              rotate_left
              · intro hCont
                refine two_ (i := 0) (j := 7) (Ni := some 41) (Nj := some 8) #[true, true, true, false, true, true, false, false, false] #[false, true, true, false, true, true, false, true, false] rfl rfl rfl rfl (two_of HT_.out (by kernel_rfl)) (by decide) (by decide) (fun K hK => ?_) (fun K hK => ?_)
                · skip
                  refine Kd.R_lit_step k48 _ 48 ?hg (N := 41) ?hd (xs := ([] : List (S48))) (inner := []) (ok := fun _ => True) (okp := fun _ => True) ?hr ?hp (fun _ hk => hk) trivial (Below.refl _ _) (Nat.le_refl _) (by simp) ?_; (case hd => rfl); (case hg => rfl); (case hr => first | (go_simp; done) | (go_simp; rfl)); (case hp => exact (Reps.none _ _))
                  intro v251 w38 ho39 hb hg_ hnew_
                  clear hg_ hnew_
                  (first | rw [← Ny250.out] at ho39 | (simp only [Int.reduceToNat] at ho39; rw [← Ny250.out] at ho39))
                  have n0_ := Aside0.mk (Kd.R_lower ho39 (below_size (by repeat (first | (with_reducible first | exact HB.out | apply below_alloc | apply pw_below_drewN | apply below_drew1 | refine below_set ?_ GE247.out) | exact HB.out))))
                  have n1_ := Aside0.mk (blk_below (g := gb247) (o := .cells #[.slice A0_0 l0_0.length c0_0, .slice A0_1 l0_1.length c0_1] 25 (0, 0)) (by (with_reducible repeat (first | refine blk_drewN ?_ _ | refine blk_drew ?_ | refine blk_alloc ?_ _)); exact BK247.out) hb)
                  have n2_ := Aside0.mk (below_step (by repeat (first | (with_reducible first | exact HB.out | apply below_alloc | apply pw_below_drewN | apply below_drew1 | refine below_set ?_ GE247.out) | exact HB.out)) hb)
                  clear BK247
                  clear HB
                  have HO252 := n0_
                  have BK247 := n1_
                  have HB := n2_
                  clear n0_ n1_ n2_
                  clear hb ho39
                  refine hK.out _ _ ⟨(blk_cell BK247.out 0).trans rfl, (blk_cell BK247.out 1).trans rfl⟩ (fun hHeld => ?_)
                  clear hK K
                  refine norm_ (a' := ?_) ?_ ?_
                  rotate_left
                  · show Act.put _ (some 41) _ = _
                    simp only [Act.put, List.setIfInBounds_toArray, List.set_cons_zero, List.set_cons_succ, i64_w, i32_w]
                    rfl
                  refine two_ (i := 3) (j := 7) (Ni := some 44) (Nj := some 8) #[true, true, true, true, true, true, false, false, false] #[true, true, true, false, true, true, false, true, false] rfl rfl rfl rfl (two_of HT_.out (by kernel_rfl)) (by decide) (by decide) (fun K hK => ?_) (fun K hK => ?_)
                  · skip
                    refine Kd.R_append_rows_step k48 (w0 := w) w.heap.size (by rfl) (.tmp 41) (.tmp 43) 22 48 (.agg #[(.int .i64 0), (.int .i64 0), (.int .i64 0), (.int .i64 0), (.int .i64 0), (.int .i64 0), (.int .i64 0)]) 56 rfl Try.underlying22 info48 rfl (by decide) (by omega) v251 y250 l0_0 _ _ _ (fun _ => True) (fun _ => False) rfl rfl ?aO ?aR (fun _ _ h => h) (fun _ h => h.elim) ?aF ?aB ?aS ?aL ?_
                    (case aR => repeat (first | exact (Kd.C_below HR0_0.out HB.out) | (with_reducible refine Kd.C_alloc ?_ _) | (with_reducible refine Kd.C_drewN ?_ _) | (with_reducible refine Kd.C_drew ?_)))
                    (case aB => exact (by repeat (first | (with_reducible first | exact HB.out | apply below_alloc | apply pw_below_drewN | apply below_drew1 | refine below_set ?_ GE247.out) | exact HB.out)))
                    (case aF => exact (fun _ _ => trivial))
                    (case aO => exact (by (with_reducible repeat (first | apply Kd.R_alloc | apply Kd.R_drewN | apply Kd.R_drew)); exact HO252.out))
                    (case aS => exact (below_size (by repeat (first | (with_reducible first | exact HB.out | apply below_alloc | apply pw_below_drewN | apply below_drew1 | refine below_set ?_ GE247.out) | exact HB.out))))
                    (case aL => have := LMc31.out; omega)
                    intro v254 w40 ho hb hg hat
                    rw [← Ny253.out] at ho
                    have n0_ := Aside0.mk (blk_grown (g := gb247) (o := .cells #[.slice A0_0 l0_0.length c0_0, .slice A0_1 l0_1.length c0_1] 25 (0, 0)) (by (with_reducible repeat (first | refine blk_drewN ?_ _ | refine blk_drew ?_ | refine blk_alloc ?_ _)); exact BK247.out) hg (Kd.R_ne HO252.out BK247.out (by decide)))
                    have n1_ := Aside0.mk (hb)
                    have n2_ := Aside0.mk (ho)
                    clear BK247
                    clear HB
                    clear HO252
                    have BK247 := n0_
                    have HB := n1_
                    have HO255 := n2_
                    clear n0_ n1_ n2_
                    clear ho hb hg hat
                    obtain ⟨Ao41, co41, eo41⟩ := Kd.R_slice HO255.out
                    (first | subst eo41 | (injection eo41 with f1_ f2_ f3_; have f4_ := f1_.symm; have f5_ := f3_.symm; clear f1_ f2_ f3_; subst f4_; subst f5_))
                    refine hK.out _ _ ⟨(blk_cell BK247.out 0).trans rfl, (blk_cell BK247.out 1).trans rfl⟩ (fun hHeld => ?_)
                    clear hK K
                    refine norm_ (a' := ?_) ?_ ?_
                    rotate_left
                    · show Act.put _ (some 44) _ = _
                      simp only [Act.put, List.setIfInBounds_toArray, List.set_cons_zero, List.set_cons_succ, i64_w, i32_w]
                      rfl
                    refine pure_ (i := 6) (N := some 47) (v := ?_) (a' := ?_) #[true, true, true, true, true, true, true, false, false] rfl rfl (any_of HT_.out (by kernel_rfl)) (fun _ _ _ h => h) (Or.inl ⟨by rfl, ?_⟩) ?_ ?_
                    rotate_left
                    · intro w'
                      go_simp
                      with_reducible rfl
                    rotate_left
                    · simp only [Act.put, List.setIfInBounds_toArray, List.set_cons_zero, List.set_cons_succ, i64_w, i32_w]
                      rfl
                    refine one_ (i := 7) (N := some 8) #[true, true, true, true, true, true, true, true, false] rfl rfl (one_of HT_.out (by kernel_rfl)) (by decide) (fun K hK => ?_)
                    refine box_step ?hg (N := 8) ?hd (cs := #[.slice none 0 0, .slice none 0 0]) (t := 25) ?hr ?_; (case hd => rfl); (case hg => rfl); (case hr => first | (go_simp; done) | (go_simp; rfl))
                    intro gb256 hg w42 hbox hb
                    have n0_ := Aside0.mk (Kd.R_below (by (with_reducible repeat (first | apply Kd.R_alloc | apply Kd.R_drewN | apply Kd.R_drew)); exact HO255.out) hb)
                    have n1_ := Aside0.mk (blk_below (g := gb247) (o := .cells #[.slice A0_0 l0_0.length c0_0, .slice A0_1 l0_1.length c0_1] 25 (0, 0)) (by (with_reducible repeat (first | refine blk_drewN ?_ _ | refine blk_drew ?_ | refine blk_alloc ?_ _)); exact BK247.out) hb)
                    have n2_ := Aside0.mk (below_step (by repeat (first | (with_reducible first | exact HB.out | apply below_alloc | apply pw_below_drewN | apply below_drew1 | refine below_set ?_ GE247.out) | exact HB.out)) hb)
                    have n3_ := Aside0.mk (hbox)
                    have n4_ := Aside0.mk ((by rw [hg]; exact (below_size (by repeat (first | (with_reducible first | exact HB.out | apply below_alloc | apply pw_below_drewN | apply below_drew1 | refine below_set ?_ GE247.out) | exact HB.out))) : w.heap.size ≤ gb256))
                    have n5_ := Aside0.mk ((by rw [hg]; exact (below_size (by repeat (first | (with_reducible first | exact HB.out | apply below_alloc | apply pw_below_drewN | apply below_drew1 | refine below_set ?_ GE247.out) | exact HB.out))) : w.heap.size ≤ gb256))
                    have n6_ := Aside0.mk ((by rw [hg]; exact Nat.ne_of_lt (blk_lt (g := gb247) (o := .cells #[.slice A0_0 l0_0.length c0_0, .slice A0_1 l0_1.length c0_1] 25 (0, 0)) (by (with_reducible repeat (first | refine blk_drewN ?_ _ | refine blk_drew ?_ | refine blk_alloc ?_ _)); exact BK247.out)) : gb247 ≠ gb256))
                    have n7_ := Aside0.mk ((by rw [hg]; exact Nat.ne_of_gt (blk_lt (g := gb247) (o := .cells #[.slice A0_0 l0_0.length c0_0, .slice A0_1 l0_1.length c0_1] 25 (0, 0)) (by (with_reducible repeat (first | refine blk_drewN ?_ _ | refine blk_drew ?_ | refine blk_alloc ?_ _)); exact BK247.out)) : gb256 ≠ gb247))
                    clear HO255
                    clear BK247
                    clear HB
                    have HO255 := n0_
                    have BK247 := n1_
                    have HB := n2_
                    have BK256 := n3_
                    have GW256 := n4_
                    have GE256 := n5_
                    have NB247_256 := n6_
                    have NB256_247 := n7_
                    clear n0_ n1_ n2_ n3_ n4_ n5_ n6_ n7_
                    clear hb hbox hg
                    refine hK.out _ _ ⟨(blk_cell BK247.out 0).trans rfl, (blk_cell BK247.out 1).trans rfl⟩ (fun hHeld => ?_)
                    clear hK K
                    refine norm_ (a' := ?_) ?_ ?_
                    rotate_left
                    · show Act.put _ (some 8) _ = _
                      simp only [Act.put, List.setIfInBounds_toArray, List.set_cons_zero, List.set_cons_succ, i64_w, i32_w]
                      rfl
                    exact norm_ (by simp only [putAll, Act.put, List.setIfInBounds_toArray, List.set_cons_zero, List.set_cons_succ]) (hCont (v251, .slice Ao41 y253.length co41, gb256) _ ⟨hHeld, (by (with_reducible repeat (first | apply Kd.R_alloc | apply Kd.R_drewN | apply Kd.R_drew)); exact HO255.out), (by (with_reducible repeat (first | refine blk_drewN ?_ _ | refine blk_drew ?_ | refine blk_alloc ?_ _)); exact BK247.out), (by (with_reducible repeat (first | refine blk_drewN ?_ _ | refine blk_drew ?_ | refine blk_alloc ?_ _)); exact BK256.out), GW256.out, GE256.out, NB247_256.out, NB256_247.out, (by repeat (first | (with_reducible first | exact HB.out | apply below_alloc | apply pw_below_drewN | apply below_drew1 | refine below_set ?_ GE247.out | refine below_set ?_ GE256.out) | exact HB.out))⟩)
                  · skip
                    refine box_step ?hg (N := 8) ?hd (cs := #[.slice none 0 0, .slice none 0 0]) (t := 25) ?hr ?_; (case hd => rfl); (case hg => rfl); (case hr => first | (go_simp; done) | (go_simp; rfl))
                    intro gb256 hg w40 hbox hb
                    have n0_ := Aside0.mk (Kd.R_below (by (with_reducible repeat (first | apply Kd.R_alloc | apply Kd.R_drewN | apply Kd.R_drew)); exact HO252.out) hb)
                    have n1_ := Aside0.mk (blk_below (g := gb247) (o := .cells #[.slice A0_0 l0_0.length c0_0, .slice A0_1 l0_1.length c0_1] 25 (0, 0)) (by (with_reducible repeat (first | refine blk_drewN ?_ _ | refine blk_drew ?_ | refine blk_alloc ?_ _)); exact BK247.out) hb)
                    have n2_ := Aside0.mk (below_step (by repeat (first | (with_reducible first | exact HB.out | apply below_alloc | apply pw_below_drewN | apply below_drew1 | refine below_set ?_ GE247.out) | exact HB.out)) hb)
                    have n3_ := Aside0.mk (hbox)
                    have n4_ := Aside0.mk ((by rw [hg]; exact (below_size (by repeat (first | (with_reducible first | exact HB.out | apply below_alloc | apply pw_below_drewN | apply below_drew1 | refine below_set ?_ GE247.out) | exact HB.out))) : w.heap.size ≤ gb256))
                    have n5_ := Aside0.mk ((by rw [hg]; exact (below_size (by repeat (first | (with_reducible first | exact HB.out | apply below_alloc | apply pw_below_drewN | apply below_drew1 | refine below_set ?_ GE247.out) | exact HB.out))) : w.heap.size ≤ gb256))
                    have n6_ := Aside0.mk ((by rw [hg]; exact Nat.ne_of_lt (blk_lt (g := gb247) (o := .cells #[.slice A0_0 l0_0.length c0_0, .slice A0_1 l0_1.length c0_1] 25 (0, 0)) (by (with_reducible repeat (first | refine blk_drewN ?_ _ | refine blk_drew ?_ | refine blk_alloc ?_ _)); exact BK247.out)) : gb247 ≠ gb256))
                    have n7_ := Aside0.mk ((by rw [hg]; exact Nat.ne_of_gt (blk_lt (g := gb247) (o := .cells #[.slice A0_0 l0_0.length c0_0, .slice A0_1 l0_1.length c0_1] 25 (0, 0)) (by (with_reducible repeat (first | refine blk_drewN ?_ _ | refine blk_drew ?_ | refine blk_alloc ?_ _)); exact BK247.out)) : gb256 ≠ gb247))
                    clear HO252
                    clear BK247
                    clear HB
                    have HO252 := n0_
                    have BK247 := n1_
                    have HB := n2_
                    have BK256 := n3_
                    have GW256 := n4_
                    have GE256 := n5_
                    have NB247_256 := n6_
                    have NB256_247 := n7_
                    clear n0_ n1_ n2_ n3_ n4_ n5_ n6_ n7_
                    clear hb hbox hg
                    refine hK.out _ _ ⟨(blk_cell BK247.out 0).trans rfl, (blk_cell BK247.out 1).trans rfl⟩ (fun hHeld => ?_)
                    clear hK K
                    refine norm_ (a' := ?_) ?_ ?_
                    rotate_left
                    · show Act.put _ (some 8) _ = _
                      simp only [Act.put, List.setIfInBounds_toArray, List.set_cons_zero, List.set_cons_succ, i64_w, i32_w]
                      rfl
                    refine one_ (i := 3) (N := some 44) #[true, true, true, true, true, true, false, true, false] rfl rfl (one_of HT_.out (by kernel_rfl)) (by decide) (fun K hK => ?_)
                    refine Kd.R_append_rows_step k48 (w0 := w) w.heap.size (by rfl) (.tmp 41) (.tmp 43) 22 48 (.agg #[(.int .i64 0), (.int .i64 0), (.int .i64 0), (.int .i64 0), (.int .i64 0), (.int .i64 0), (.int .i64 0)]) 56 rfl Try.underlying22 info48 rfl (by decide) (by omega) v251 y250 l0_0 _ _ _ (fun _ => True) (fun _ => False) rfl rfl ?aO ?aR (fun _ _ h => h) (fun _ h => h.elim) ?aF ?aB ?aS ?aL ?_
                    (case aR => repeat (first | exact (Kd.C_below HR0_0.out HB.out) | (with_reducible refine Kd.C_alloc ?_ _) | (with_reducible refine Kd.C_drewN ?_ _) | (with_reducible refine Kd.C_drew ?_)))
                    (case aB => exact (by repeat (first | (with_reducible first | exact HB.out | apply below_alloc | apply pw_below_drewN | apply below_drew1 | refine below_set ?_ GE247.out | refine below_set ?_ GE256.out) | exact HB.out)))
                    (case aF => exact (fun _ _ => trivial))
                    (case aO => exact (by (with_reducible repeat (first | apply Kd.R_alloc | apply Kd.R_drewN | apply Kd.R_drew)); exact HO252.out))
                    (case aS => exact (below_size (by repeat (first | (with_reducible first | exact HB.out | apply below_alloc | apply pw_below_drewN | apply below_drew1 | refine below_set ?_ GE247.out | refine below_set ?_ GE256.out) | exact HB.out))))
                    (case aL => have := LMc31.out; omega)
                    intro v254 w41 ho hb hg hat
                    rw [← Ny253.out] at ho
                    have n0_ := Aside0.mk (blk_grown (g := gb247) (o := .cells #[.slice A0_0 l0_0.length c0_0, .slice A0_1 l0_1.length c0_1] 25 (0, 0)) (by (with_reducible repeat (first | refine blk_drewN ?_ _ | refine blk_drew ?_ | refine blk_alloc ?_ _)); exact BK247.out) hg (Kd.R_ne HO252.out BK247.out (by decide)))
                    have n1_ := Aside0.mk (blk_grown (g := gb256) (o := .cells #[.slice none 0 0, .slice none 0 0] 25 (0, 0)) (by (with_reducible repeat (first | refine blk_drewN ?_ _ | refine blk_drew ?_ | refine blk_alloc ?_ _)); exact BK256.out) hg (Kd.R_ne HO252.out BK256.out (by decide)))
                    have n2_ := Aside0.mk (hb)
                    have n3_ := Aside0.mk (ho)
                    clear BK247
                    clear BK256
                    clear HB
                    clear HO252
                    have BK247 := n0_
                    have BK256 := n1_
                    have HB := n2_
                    have HO255 := n3_
                    clear n0_ n1_ n2_ n3_
                    clear ho hb hg hat
                    obtain ⟨Ao42, co42, eo42⟩ := Kd.R_slice HO255.out
                    (first | subst eo42 | (injection eo42 with f1_ f2_ f3_; have f4_ := f1_.symm; have f5_ := f3_.symm; clear f1_ f2_ f3_; subst f4_; subst f5_))
                    refine hK.out _ _ ⟨(blk_cell BK247.out 0).trans rfl, (blk_cell BK247.out 1).trans rfl⟩ (fun hHeld => ?_)
                    clear hK K
                    refine norm_ (a' := ?_) ?_ ?_
                    rotate_left
                    · show Act.put _ (some 44) _ = _
                      simp only [Act.put, List.setIfInBounds_toArray, List.set_cons_zero, List.set_cons_succ, i64_w, i32_w]
                      rfl
                    refine pure_ (i := 6) (N := some 47) (v := ?_) (a' := ?_) #[true, true, true, true, true, true, true, true, false] rfl rfl (any_of HT_.out (by kernel_rfl)) (fun _ _ _ h => h) (Or.inl ⟨by rfl, ?_⟩) ?_ ?_
                    rotate_left
                    · intro w'
                      go_simp
                      with_reducible rfl
                    rotate_left
                    · simp only [Act.put, List.setIfInBounds_toArray, List.set_cons_zero, List.set_cons_succ, i64_w, i32_w]
                      rfl
                    exact norm_ (by simp only [putAll, Act.put, List.setIfInBounds_toArray, List.set_cons_zero, List.set_cons_succ]) (hCont (v251, .slice Ao42 y253.length co42, gb256) _ ⟨hHeld, (by (with_reducible repeat (first | apply Kd.R_alloc | apply Kd.R_drewN | apply Kd.R_drew)); exact HO255.out), (by (with_reducible repeat (first | refine blk_drewN ?_ _ | refine blk_drew ?_ | refine blk_alloc ?_ _)); exact BK247.out), (by (with_reducible repeat (first | refine blk_drewN ?_ _ | refine blk_drew ?_ | refine blk_alloc ?_ _)); exact BK256.out), GW256.out, GE256.out, NB247_256.out, NB256_247.out, (by repeat (first | (with_reducible first | exact HB.out | apply below_alloc | apply pw_below_drewN | apply below_drew1 | refine below_set ?_ GE247.out | refine below_set ?_ GE256.out) | exact HB.out))⟩)
                · skip
                  refine box_step ?hg (N := 8) ?hd (cs := #[.slice none 0 0, .slice none 0 0]) (t := 25) ?hr ?_; (case hd => rfl); (case hg => rfl); (case hr => first | (go_simp; done) | (go_simp; rfl))
                  intro gb256 hg w38 hbox hb
                  have n0_ := Aside0.mk (blk_below (g := gb247) (o := .cells #[.slice A0_0 l0_0.length c0_0, .slice A0_1 l0_1.length c0_1] 25 (0, 0)) (by (with_reducible repeat (first | refine blk_drewN ?_ _ | refine blk_drew ?_ | refine blk_alloc ?_ _)); exact BK247.out) hb)
                  have n1_ := Aside0.mk (below_step (by repeat (first | (with_reducible first | exact HB.out | apply below_alloc | apply pw_below_drewN | apply below_drew1 | refine below_set ?_ GE247.out) | exact HB.out)) hb)
                  have n2_ := Aside0.mk (hbox)
                  have n3_ := Aside0.mk ((by rw [hg]; exact (below_size (by repeat (first | (with_reducible first | exact HB.out | apply below_alloc | apply pw_below_drewN | apply below_drew1 | refine below_set ?_ GE247.out) | exact HB.out))) : w.heap.size ≤ gb256))
                  have n4_ := Aside0.mk ((by rw [hg]; exact (below_size (by repeat (first | (with_reducible first | exact HB.out | apply below_alloc | apply pw_below_drewN | apply below_drew1 | refine below_set ?_ GE247.out) | exact HB.out))) : w.heap.size ≤ gb256))
                  have n5_ := Aside0.mk ((by rw [hg]; exact Nat.ne_of_lt (blk_lt (g := gb247) (o := .cells #[.slice A0_0 l0_0.length c0_0, .slice A0_1 l0_1.length c0_1] 25 (0, 0)) (by (with_reducible repeat (first | refine blk_drewN ?_ _ | refine blk_drew ?_ | refine blk_alloc ?_ _)); exact BK247.out)) : gb247 ≠ gb256))
                  have n6_ := Aside0.mk ((by rw [hg]; exact Nat.ne_of_gt (blk_lt (g := gb247) (o := .cells #[.slice A0_0 l0_0.length c0_0, .slice A0_1 l0_1.length c0_1] 25 (0, 0)) (by (with_reducible repeat (first | refine blk_drewN ?_ _ | refine blk_drew ?_ | refine blk_alloc ?_ _)); exact BK247.out)) : gb256 ≠ gb247))
                  clear BK247
                  clear HB
                  have BK247 := n0_
                  have HB := n1_
                  have BK256 := n2_
                  have GW256 := n3_
                  have GE256 := n4_
                  have NB247_256 := n5_
                  have NB256_247 := n6_
                  clear n0_ n1_ n2_ n3_ n4_ n5_ n6_
                  clear hb hbox hg
                  refine hK.out _ _ ⟨(blk_cell BK247.out 0).trans rfl, (blk_cell BK247.out 1).trans rfl⟩ (fun hHeld => ?_)
                  clear hK K
                  refine norm_ (a' := ?_) ?_ ?_
                  rotate_left
                  · show Act.put _ (some 8) _ = _
                    simp only [Act.put, List.setIfInBounds_toArray, List.set_cons_zero, List.set_cons_succ, i64_w, i32_w]
                    rfl
                  refine one_ (i := 0) (N := some 41) #[true, true, true, false, true, true, false, true, false] rfl rfl (one_of HT_.out (by kernel_rfl)) (by decide) (fun K hK => ?_)
                  refine Kd.R_lit_step k48 _ 48 ?hg (N := 41) ?hd (xs := ([] : List (S48))) (inner := []) (ok := fun _ => True) (okp := fun _ => True) ?hr ?hp (fun _ hk => hk) trivial (Below.refl _ _) (Nat.le_refl _) (by simp) ?_; (case hd => rfl); (case hg => rfl); (case hr => first | (go_simp; done) | (go_simp; rfl)); (case hp => exact (Reps.none _ _))
                  intro v251 w39 ho40 hb hg_ hnew_
                  clear hg_ hnew_
                  (first | rw [← Ny250.out] at ho40 | (simp only [Int.reduceToNat] at ho40; rw [← Ny250.out] at ho40))
                  have n0_ := Aside0.mk (Kd.R_lower ho40 (below_size (by repeat (first | (with_reducible first | exact HB.out | apply below_alloc | apply pw_below_drewN | apply below_drew1 | refine below_set ?_ GE247.out | refine below_set ?_ GE256.out) | exact HB.out))))
                  have n1_ := Aside0.mk (blk_below (g := gb247) (o := .cells #[.slice A0_0 l0_0.length c0_0, .slice A0_1 l0_1.length c0_1] 25 (0, 0)) (by (with_reducible repeat (first | refine blk_drewN ?_ _ | refine blk_drew ?_ | refine blk_alloc ?_ _)); exact BK247.out) hb)
                  have n2_ := Aside0.mk (blk_below (g := gb256) (o := .cells #[.slice none 0 0, .slice none 0 0] 25 (0, 0)) (by (with_reducible repeat (first | refine blk_drewN ?_ _ | refine blk_drew ?_ | refine blk_alloc ?_ _)); exact BK256.out) hb)
                  have n3_ := Aside0.mk (below_step (by repeat (first | (with_reducible first | exact HB.out | apply below_alloc | apply pw_below_drewN | apply below_drew1 | refine below_set ?_ GE247.out | refine below_set ?_ GE256.out) | exact HB.out)) hb)
                  clear BK247
                  clear BK256
                  clear HB
                  have HO252 := n0_
                  have BK247 := n1_
                  have BK256 := n2_
                  have HB := n3_
                  clear n0_ n1_ n2_ n3_
                  clear hb ho40
                  refine hK.out _ _ ⟨(blk_cell BK247.out 0).trans rfl, (blk_cell BK247.out 1).trans rfl⟩ (fun hHeld => ?_)
                  clear hK K
                  refine norm_ (a' := ?_) ?_ ?_
                  rotate_left
                  · show Act.put _ (some 41) _ = _
                    simp only [Act.put, List.setIfInBounds_toArray, List.set_cons_zero, List.set_cons_succ, i64_w, i32_w]
                    rfl
                  refine one_ (i := 3) (N := some 44) #[true, true, true, true, true, true, false, true, false] rfl rfl (one_of HT_.out (by kernel_rfl)) (by decide) (fun K hK => ?_)
                  refine Kd.R_append_rows_step k48 (w0 := w) w.heap.size (by rfl) (.tmp 41) (.tmp 43) 22 48 (.agg #[(.int .i64 0), (.int .i64 0), (.int .i64 0), (.int .i64 0), (.int .i64 0), (.int .i64 0), (.int .i64 0)]) 56 rfl Try.underlying22 info48 rfl (by decide) (by omega) v251 y250 l0_0 _ _ _ (fun _ => True) (fun _ => False) rfl rfl ?aO ?aR (fun _ _ h => h) (fun _ h => h.elim) ?aF ?aB ?aS ?aL ?_
                  (case aR => repeat (first | exact (Kd.C_below HR0_0.out HB.out) | (with_reducible refine Kd.C_alloc ?_ _) | (with_reducible refine Kd.C_drewN ?_ _) | (with_reducible refine Kd.C_drew ?_)))
                  (case aB => exact (by repeat (first | (with_reducible first | exact HB.out | apply below_alloc | apply pw_below_drewN | apply below_drew1 | refine below_set ?_ GE247.out | refine below_set ?_ GE256.out) | exact HB.out)))
                  (case aF => exact (fun _ _ => trivial))
                  (case aO => exact (by (with_reducible repeat (first | apply Kd.R_alloc | apply Kd.R_drewN | apply Kd.R_drew)); exact HO252.out))
                  (case aS => exact (below_size (by repeat (first | (with_reducible first | exact HB.out | apply below_alloc | apply pw_below_drewN | apply below_drew1 | refine below_set ?_ GE247.out | refine below_set ?_ GE256.out) | exact HB.out))))
                  (case aL => have := LMc31.out; omega)
                  intro v254 w41 ho hb hg hat
                  rw [← Ny253.out] at ho
                  have n0_ := Aside0.mk (blk_grown (g := gb247) (o := .cells #[.slice A0_0 l0_0.length c0_0, .slice A0_1 l0_1.length c0_1] 25 (0, 0)) (by (with_reducible repeat (first | refine blk_drewN ?_ _ | refine blk_drew ?_ | refine blk_alloc ?_ _)); exact BK247.out) hg (Kd.R_ne HO252.out BK247.out (by decide)))
                  have n1_ := Aside0.mk (blk_grown (g := gb256) (o := .cells #[.slice none 0 0, .slice none 0 0] 25 (0, 0)) (by (with_reducible repeat (first | refine blk_drewN ?_ _ | refine blk_drew ?_ | refine blk_alloc ?_ _)); exact BK256.out) hg (Kd.R_ne HO252.out BK256.out (by decide)))
                  have n2_ := Aside0.mk (hb)
                  have n3_ := Aside0.mk (ho)
                  clear BK247
                  clear BK256
                  clear HB
                  clear HO252
                  have BK247 := n0_
                  have BK256 := n1_
                  have HB := n2_
                  have HO255 := n3_
                  clear n0_ n1_ n2_ n3_
                  clear ho hb hg hat
                  obtain ⟨Ao42, co42, eo42⟩ := Kd.R_slice HO255.out
                  (first | subst eo42 | (injection eo42 with f1_ f2_ f3_; have f4_ := f1_.symm; have f5_ := f3_.symm; clear f1_ f2_ f3_; subst f4_; subst f5_))
                  refine hK.out _ _ ⟨(blk_cell BK247.out 0).trans rfl, (blk_cell BK247.out 1).trans rfl⟩ (fun hHeld => ?_)
                  clear hK K
                  refine norm_ (a' := ?_) ?_ ?_
                  rotate_left
                  · show Act.put _ (some 44) _ = _
                    simp only [Act.put, List.setIfInBounds_toArray, List.set_cons_zero, List.set_cons_succ, i64_w, i32_w]
                    rfl
                  refine pure_ (i := 6) (N := some 47) (v := ?_) (a' := ?_) #[true, true, true, true, true, true, true, true, false] rfl rfl (any_of HT_.out (by kernel_rfl)) (fun _ _ _ h => h) (Or.inl ⟨by rfl, ?_⟩) ?_ ?_
                  rotate_left
                  · intro w'
                    go_simp
                    with_reducible rfl
                  rotate_left
                  · simp only [Act.put, List.setIfInBounds_toArray, List.set_cons_zero, List.set_cons_succ, i64_w, i32_w]
                    rfl
                  exact norm_ (by simp only [putAll, Act.put, List.setIfInBounds_toArray, List.set_cons_zero, List.set_cons_succ]) (hCont (v251, .slice Ao42 y253.length co42, gb256) _ ⟨hHeld, (by (with_reducible repeat (first | apply Kd.R_alloc | apply Kd.R_drewN | apply Kd.R_drew)); exact HO255.out), (by (with_reducible repeat (first | refine blk_drewN ?_ _ | refine blk_drew ?_ | refine blk_alloc ?_ _)); exact BK247.out), (by (with_reducible repeat (first | refine blk_drewN ?_ _ | refine blk_drew ?_ | refine blk_alloc ?_ _)); exact BK256.out), GW256.out, GE256.out, NB247_256.out, NB256_247.out, (by repeat (first | (with_reducible first | exact HB.out | apply below_alloc | apply pw_below_drewN | apply below_drew1 | refine below_set ?_ GE247.out | refine below_set ?_ GE256.out) | exact HB.out))⟩)
              rintro ⟨v251, v254, gb256⟩ w43 ⟨hS_, h0_, h1_, h2_, h3_, h4_, h5_, h6_, h7_⟩
              have n0_ : Aside0 (Kd.R k48 48 w43 w.heap.size (fun _ => True) v254 y253) := ⟨h0_⟩
              have n1_ : Aside0 (w43.heap[gb247]? = some (.cells #[.slice A0_0 l0_0.length c0_0, .slice A0_1 l0_1.length c0_1] 25 (0, 0))) := ⟨h1_⟩
              have n2_ : Aside0 (w43.heap[gb256]? = some (.cells #[.slice none 0 0, .slice none 0 0] 25 (0, 0))) := ⟨h2_⟩
              have n3_ : Aside0 (w.heap.size ≤ gb256) := ⟨h3_⟩
              have n4_ : Aside0 (w.heap.size ≤ gb256) := ⟨h4_⟩
              have n5_ : Aside0 (gb247 ≠ gb256) := ⟨h5_⟩
              have n6_ : Aside0 (gb256 ≠ gb247) := ⟨h6_⟩
              have n7_ : Aside0 (Below w.heap.size w w43) := ⟨h7_⟩
              clear BK247
              clear HB
              clear h0_ h1_ h2_ h3_ h4_ h5_ h6_ h7_
              have HO255 := n0_
              have BK247 := n1_
              have BK256 := n2_
              have GW256 := n3_
              have GE256 := n4_
              have NB247_256 := n5_
              have NB256_247 := n6_
              have HB := n7_
              clear n0_ n1_ n2_ n3_ n4_ n5_ n6_ n7_
              have hHeld : w43.cell? ⟨gb247, 0, none⟩ = some (.slice A0_0 l0_0.length c0_0) ∧ w43.cell? ⟨gb247, 1, none⟩ = some (.slice A0_1 l0_1.length c0_1) := hS_
              obtain ⟨Ao44, co44, eo44⟩ := Kd.R_slice HO255.out
              (first | subst eo44 | (injection eo44 with f1_ f2_ f3_; have f4_ := f1_.symm; have f5_ := f3_.symm; clear f1_ f2_ f3_; subst f4_; subst f5_))
              refine norm_ (a' := ?_) ?_ ?_
              rotate_left
              · simp only [putAll, Act.put, List.setIfInBounds_toArray, List.set_cons_zero, List.set_cons_succ]
                rfl
              refine one_ (i := 8) (N := none) #[true, true, true, true, true, true, true, true, true] rfl rfl (one_of HT_.out (by kernel_rfl)) (by decide) (fun K hK => ?_)
              have hs45 : w43.cell? ⟨gb256, 0, none⟩ = some (.slice none 0 0) := (blk_cell BK256.out 0).trans rfl
              have hfs45 := blk_frozen BK256.out 0
              have hns45_0 := NB247_256.out
              have hms45_0 := NB256_247.out
              have hs46 : w43.cell? ⟨gb256, 1, none⟩ = some (.slice none 0 0) := (blk_cell BK256.out 1).trans rfl
              have hfs46 := blk_frozen BK256.out 1
              have hns46_0 := NB247_256.out
              have hms46_0 := NB256_247.out
              refine skip_ (w1 := ?_) (by rfl) rfl ?_ ?_
              rotate_left
              · go_simp
                rfl
              refine hK.out _ _ ⟨((cell_far (p := ⟨gb256, _, none⟩) NB247_256.out _).trans (((cell_far (p := ⟨gb256, _, none⟩) NB247_256.out _).trans (hHeld.1)))), ((cell_far (p := ⟨gb256, _, none⟩) NB247_256.out _).trans (((cell_far (p := ⟨gb256, _, none⟩) NB247_256.out _).trans (hHeld.2))))⟩ (fun hHeld => ?_)
              clear hK K
              refine done_ (done_of HT_.out (by kernel_rfl)) ?_
              try go_wp2
              have n0_ : Aside0 (Kd.R k48 48 ((w43.setCell ⟨gb256, 0, none⟩ (.slice Ao44 y253.length co44)).setCell ⟨gb256, 1, none⟩ (.slice A0_1 l0_1.length c0_1)) w.heap.size (fun _ => True) (.slice Ao44 y253.length co44) y253) := ⟨by (with_reducible repeat (first | apply Kd.R_alloc | apply Kd.R_drewN | apply Kd.R_drew)); exact Kd.R_mono (Kd.R_far (p := ⟨gb256, 1, none⟩) (Kd.R_far (p := ⟨gb256, 0, none⟩) (Kd.R_types HO255.out BK256.out (by decide)) (fun _ hk => hk.2) (.slice Ao44 y253.length co44)) (fun _ hk => hk.2) (.slice A0_1 l0_1.length c0_1)) (fun _ hk => trivial)⟩
              have n1_ : Aside0 (((w43.setCell ⟨gb256, 0, none⟩ (.slice Ao44 y253.length co44)).setCell ⟨gb256, 1, none⟩ (.slice A0_1 l0_1.length c0_1)).heap[gb247]? = some (.cells #[.slice A0_0 l0_0.length c0_0, .slice A0_1 l0_1.length c0_1] 25 (0, 0))) := ⟨by (with_reducible repeat (first | refine blk_drewN ?_ _ | refine blk_drew ?_ | refine blk_alloc ?_ _)); refine blk_far ?_ NB247_256.out _; (with_reducible repeat (first | refine blk_drewN ?_ _ | refine blk_drew ?_ | refine blk_alloc ?_ _)); refine blk_far ?_ NB247_256.out _; (with_reducible repeat (first | refine blk_drewN ?_ _ | refine blk_drew ?_ | refine blk_alloc ?_ _)); exact BK247.out⟩
              have n2_ : Aside0 (((w43.setCell ⟨gb256, 0, none⟩ (.slice Ao44 y253.length co44)).setCell ⟨gb256, 1, none⟩ (.slice A0_1 l0_1.length c0_1)).heap[gb256]? = some (.cells #[.slice Ao44 y253.length co44, .slice A0_1 l0_1.length c0_1] 25 (0, 0))) := ⟨by (with_reducible repeat (first | refine blk_drewN ?_ _ | refine blk_drew ?_ | refine blk_alloc ?_ _)); refine blk_put (cs := #[.slice Ao44 y253.length co44, .slice none 0 0]) ?_ 1 _ rfl; (with_reducible repeat (first | refine blk_drewN ?_ _ | refine blk_drew ?_ | refine blk_alloc ?_ _)); refine blk_put (cs := #[.slice none 0 0, .slice none 0 0]) ?_ 0 _ rfl; (with_reducible repeat (first | refine blk_drewN ?_ _ | refine blk_drew ?_ | refine blk_alloc ?_ _)); exact BK256.out⟩
              have n3_ : Aside0 (Below w.heap.size w ((w43.setCell ⟨gb256, 0, none⟩ (.slice Ao44 y253.length co44)).setCell ⟨gb256, 1, none⟩ (.slice A0_1 l0_1.length c0_1))) := ⟨by repeat (first | (with_reducible first | exact HB.out | apply below_alloc | apply pw_below_drewN | apply below_drew1 | refine below_set ?_ GE247.out | refine below_set ?_ GE256.out) | exact HB.out)⟩
              (try clear HO255)
              (try clear BK247)
              (try clear BK256)
              (try clear HB)
              generalize ((w43.setCell ⟨gb256, 0, none⟩ (.slice Ao44 y253.length co44)).setCell ⟨gb256, 1, none⟩ (.slice A0_1 l0_1.length c0_1)) = w47 at n0_ n1_ n2_ n3_ ⊢
              have HO255 := n0_
              have BK247 := n1_
              have BK256 := n2_
              have HB := n3_
              clear n0_ n1_ n2_ n3_
              have n0_ := Aside0.mk (Kd.R_drew HO255.out)
              have n1_ := Aside0.mk (blk_drew BK247.out)
              have n2_ := Aside0.mk (blk_drew BK256.out)
              have n3_ := Aside0.mk (below_drew1 HB.out)
              clear HO255
              clear BK247
              clear BK256
              clear HB
              have HO255 := n0_
              have BK247 := n1_
              have BK256 := n2_
              have HB := n3_
              clear n0_ n1_ n2_ n3_
              have p257 : 0 ≤ (a1 : Int) := of_decide_eq_true (by first | (with_reducible assumption) | assumption)
              have q257 : a1 < (y253.length : Int) := of_decide_eq_true (by first | (with_reducible assumption) | assumption)
              obtain ⟨ad257, e257, hx257_0, hx257_1, hx257_2, hx257_3, hx257_4, hx257_5, hx257_6⟩ := at_T48 (Kd.R_reads' HO255.out).2.2 a1 p257 q257
              cases e257
              replace p257 := eq_true p257
              replace q257 := eq_true q257
              have p34 : 0 ≤ (a1 : Int) := of_decide_eq_true (by first | (with_reducible assumption) | assumption)
              have q34 : (a1 : Int) < ((y253.length : Int) : Int) := of_decide_eq_true (by first | (with_reducible assumption) | assumption)
              obtain ⟨go34, co34, eo34, gb34, gl34, cl34, HG34⟩ := Kd.R_form HO255.out (by omega)
              (first | cases eo34 | (injection eo34 with ea_ en_ ec_; (first | subst ea_ | (injection ea_ with ea_; subst ea_)); subst ec_; clear en_))
              have GB34 := Aside0.mk gb34
              have GG34 := Aside0.mk HG34
              clear gb34 gl34 HG34
              (first | simp only [add_plain] at hx257_0 | skip)
              (first | simp only [add_plain] at hx257_1 | skip)
              (first | simp only [add_plain] at hx257_2 | skip)
              (first | simp only [add_plain] at hx257_3 | skip)
              (first | simp only [add_plain] at hx257_4 | skip)
              (first | simp only [add_plain] at hx257_5 | skip)
              (first | simp only [add_plain] at hx257_6 | skip)
              obtain ⟨ce34, hcl34, hM34, hcc34, hfr34⟩ := Kd.R_elem HO255.out z48 (a1 : Int) p34 q34
              obtain rfl := k48_openM hM34
              have hx34_0 : World.cell? _ ⟨go34, (a1 : Int).toNat * 7, none⟩ = some (.int .i64 ((rd_T48 y253 a1).f0)) := hcc34 0 _ rfl
              have hx34_1 : World.cell? _ ⟨go34, (a1 : Int).toNat * 7 + 1, none⟩ = some (.int .i64 ((rd_T48 y253 a1).f1)) := hcc34 1 _ rfl
              have hx34_2 : World.cell? _ ⟨go34, (a1 : Int).toNat * 7 + 2, none⟩ = some (.int .i64 ((rd_T48 y253 a1).f2)) := hcc34 2 _ rfl
              have hx34_3 : World.cell? _ ⟨go34, (a1 : Int).toNat * 7 + 3, none⟩ = some (.int .i64 ((rd_T48 y253 a1).f3)) := hcc34 3 _ rfl
              have hx34_4 : World.cell? _ ⟨go34, (a1 : Int).toNat * 7 + 4, none⟩ = some (.int .i64 ((rd_T48 y253 a1).f4)) := hcc34 4 _ rfl
              have hx34_5 : World.cell? _ ⟨go34, (a1 : Int).toNat * 7 + 5, none⟩ = some (.int .i64 ((rd_T48 y253 a1).f5)) := hcc34 5 _ rfl
              have hx34_6 : World.cell? _ ⟨go34, (a1 : Int).toNat * 7 + 6, none⟩ = some (.int .i64 ((rd_T48 y253 a1).f6)) := hcc34 6 _ rfl
              have hf34_0 : World.frozen? _ ⟨go34, (a1 : Int).toNat * 7, none⟩ = false := hfr34 0
              have hf34_1 : World.frozen? _ ⟨go34, (a1 : Int).toNat * 7 + 1, none⟩ = false := hfr34 1
              have hf34_2 : World.frozen? _ ⟨go34, (a1 : Int).toNat * 7 + 2, none⟩ = false := hfr34 2
              have hf34_3 : World.frozen? _ ⟨go34, (a1 : Int).toNat * 7 + 3, none⟩ = false := hfr34 3
              have hf34_4 : World.frozen? _ ⟨go34, (a1 : Int).toNat * 7 + 4, none⟩ = false := hfr34 4
              have hf34_5 : World.frozen? _ ⟨go34, (a1 : Int).toNat * 7 + 5, none⟩ = false := hfr34 5
              have hf34_6 : World.frozen? _ ⟨go34, (a1 : Int).toNat * 7 + 6, none⟩ = false := hfr34 6
              clear hcl34 hcc34 hfr34 hM34
              replace p34 := eq_true p34
              replace q34 := eq_true q34
              obtain ⟨ce49, hcl49, hM49, hcc49, hfr49⟩ := Kd.R_elem HO255.out z48 (a1 : Int) (of_decide_eq_true (by first | (with_reducible assumption) | assumption)) (by have h_ : (a1 : Int) < ((y253.length : Int) : Int) := of_decide_eq_true (by first | (with_reducible assumption) | assumption); first | exact h_ | (have e_ := (Kd.R_reads' HO255.out).1; omega) | simpa using h_)
              obtain rfl := k48_openM hM49
              have HP49 := (Kd.R_seg HO255.out (a1 : Int) (of_decide_eq_true (by first | (with_reducible assumption) | assumption)) (by have h_ : (a1 : Int) < ((y253.length : Int) : Int) := of_decide_eq_true (by first | (with_reducible assumption) | assumption); first | exact h_ | (have e_ := (Kd.R_reads' HO255.out).1; omega) | simpa using h_) (seg := [.int .i64 (wrap64 (((rd_T48 y253 a1).f0) + a2))]) (j := 0) hcl49 hcc49 (show 1 ≤ 7 from by decide) (x' := (⟨wrap64 (((rd_T48 y253 a1).f0) + a2), (rd_T48 y253 a1).f1, (rd_T48 y253 a1).f2, (rd_T48 y253 a1).f3, (rd_T48 y253 a1).f4, (rd_T48 y253 a1).f5, (rd_T48 y253 a1).f6⟩ : S48)) (k48_mkM _ _ _ (⟨wrap64 (((rd_T48 y253 a1).f0) + a2), (rd_T48 y253 a1).f1, (rd_T48 y253 a1).f2, (rd_T48 y253 a1).f3, (rd_T48 y253 a1).f4, (rd_T48 y253 a1).f5, (rd_T48 y253 a1).f6⟩ : S48) ) (fun _ hk => hk)).1
              rw [← Ny258.out] at HP49
              have HQ49 := Aside0.mk HP49
              clear hcl49 hcc49 hfr49 hM49 HP49
              refine start_ (n := 14) (S := fun w' => w'.cell? ⟨gb256, 0, none⟩ = some (.slice (some ⟨go34, 0, none⟩) y253.length co44) ∧ w'.cell? ⟨gb256, 1, none⟩ = some (.slice A0_1 l0_1.length c0_1) ∧ w'.cell? ⟨go34, ((a1).toNat * 7), none⟩ = some (.int .i64 ((rd_T48 y253 a1).f0)) ∧ w'.cell? ⟨go34, ((a1).toNat * 7) + 1, none⟩ = some (.int .i64 ((rd_T48 y253 a1).f1)) ∧ w'.cell? ⟨go34, ((a1).toNat * 7) + 2, none⟩ = some (.int .i64 ((rd_T48 y253 a1).f2)) ∧ w'.cell? ⟨go34, ((a1).toNat * 7) + 3, none⟩ = some (.int .i64 ((rd_T48 y253 a1).f3)) ∧ w'.cell? ⟨go34, ((a1).toNat * 7) + 4, none⟩ = some (.int .i64 ((rd_T48 y253 a1).f4)) ∧ w'.cell? ⟨go34, ((a1).toNat * 7) + 5, none⟩ = some (.int .i64 ((rd_T48 y253 a1).f5)) ∧ w'.cell? ⟨go34, ((a1).toNat * 7) + 6, none⟩ = some (.int .i64 ((rd_T48 y253 a1).f6))) (ds := [13]) #[false, false, false, false, false, false, false, false, false, false, false, false, false, false] (by kernel_rfl) rfl rfl ⟨(blk_cell BK256.out 0).trans rfl, (blk_cell BK256.out 1).trans rfl, hx257_0, hx257_1, hx257_2, hx257_3, hx257_4, hx257_5, hx257_6⟩ (fun hHeld => ?_); refine with_tabW retargetlaw40_RelaxGrows.tab5 retargetlaw40_RelaxGrows.bits5 (fun HT_ HW_ => ?_)
              generalize w47.drew = w48 at HO255 BK247 BK256 HB GG34 HQ49 hf34_0 hf34_1 hf34_2 hf34_3 hf34_4 hf34_5 hf34_6 hx257_0 hx257_1 hx257_2 hx257_3 hx257_4 hx257_5 hx257_6 hx34_0 hx34_1 hx34_2 hx34_3 hx34_4 hx34_5 hx34_6 hHeld ⊢
              refine pure_ (i := 0) (N := some 48) (v := ?_) (a' := ?_) #[true, false, false, false, false, false, false, false, false, false, false, false, false, false] rfl rfl (any_of HT_.out (by kernel_rfl)) (fun _ _ _ h => h) (Or.inl ⟨by rfl, ?_⟩) ?_ ?_
              rotate_left
              · intro w'
                go_simp
                with_reducible rfl
              rotate_left
              · simp only [Act.put, List.setIfInBounds_toArray, List.set_cons_zero, List.set_cons_succ, i64_w, i32_w]
                rfl
              refine pure_ (i := 2) (N := some 50) (v := ?_) (a' := ?_) #[true, false, true, false, false, false, false, false, false, false, false, false, false, false] rfl rfl (any_of HT_.out (by kernel_rfl)) (fun _ _ _ h => h) (Or.inl ⟨by rfl, ?_⟩) ?_ ?_
              rotate_left
              · intro w'
                go_simp
                with_reducible rfl
              rotate_left
              · simp only [Act.put, List.setIfInBounds_toArray, List.set_cons_zero, List.set_cons_succ, i64_w, i32_w]
                rfl
              refine pure_ (i := 3) (N := some 51) (v := ?_) (a' := ?_) #[true, false, true, true, false, false, false, false, false, false, false, false, false, false] rfl rfl (any_of HT_.out (by kernel_rfl)) (fun _ _ _ h => h) (Or.inl ⟨by rfl, ?_⟩) ?_ ?_
              rotate_left
              · intro w'
                go_simp
                with_reducible rfl
              rotate_left
              · simp only [Act.put, List.setIfInBounds_toArray, List.set_cons_zero, List.set_cons_succ, i64_w, i32_w]
                rfl
              refine pure_ (i := 5) (N := some 53) (v := ?_) (a' := ?_) #[true, false, true, true, false, true, false, false, false, false, false, false, false, false] rfl rfl (any_of HT_.out (by kernel_rfl)) (fun _ _ _ h => h) (Or.inl ⟨by rfl, ?_⟩) ?_ ?_
              rotate_left
              · intro w'
                go_simp
                with_reducible rfl
              rotate_left
              · simp only [Act.put, List.setIfInBounds_toArray, List.set_cons_zero, List.set_cons_succ, i64_w, i32_w]
                rfl
              refine pure_ (i := 9) (N := some 57) (v := ?_) (a' := ?_) #[true, false, true, true, false, true, false, false, false, true, false, false, false, false] rfl rfl (any_of HT_.out (by kernel_rfl)) (fun _ _ _ h => h) (Or.inl ⟨by rfl, ?_⟩) ?_ ?_
              rotate_left
              · intro w'
                go_simp
                with_reducible rfl
              rotate_left
              · simp only [Act.put, List.setIfInBounds_toArray, List.set_cons_zero, List.set_cons_succ, i64_w, i32_w]
                rfl
              refine take_ (i := 1) (N := some 49) (v := ?_) (a' := ?_) #[true, true, true, true, false, true, false, false, false, true, false, false, false, false] rfl rfl (take_ofW HT_.out HW_.out (by kernel_rfl)) (fun _ _ _ h => h) (Or.inl ⟨by rfl, ?_⟩) hHeld ?_ ?_
              rotate_left
              · rintro w' ⟨s0, s1, s2, s3, s4, s5, s6, s7, s8⟩
                go_simp
                with_reducible rfl
              rotate_left
              · simp only [Act.put, List.setIfInBounds_toArray, List.set_cons_zero, List.set_cons_succ, i64_w, i32_w]
                rfl
              refine take_ (i := 4) (N := some 52) (v := ?_) (a' := ?_) #[true, true, true, true, true, true, false, false, false, true, false, false, false, false] rfl rfl (take_ofW HT_.out HW_.out (by kernel_rfl)) (fun _ _ _ h => h) (Or.inl ⟨by rfl, ?_⟩) hHeld ?_ ?_
              rotate_left
              · rintro w' ⟨s0, s1, s2, s3, s4, s5, s6, s7, s8⟩
                go_simp
                with_reducible rfl
              rotate_left
              · simp only [Act.put, List.setIfInBounds_toArray, List.set_cons_zero, List.set_cons_succ, i64_w, i32_w]
                rfl
              refine pure_ (i := 6) (N := some 54) (v := ?_) (a' := ?_) #[true, true, true, true, true, true, true, false, false, true, false, false, false, false] rfl rfl (any_of HT_.out (by kernel_rfl)) (fun _ _ _ h => h) (Or.inl ⟨by rfl, ?_⟩) ?_ ?_
              rotate_left
              · intro w'
                go_simp
                with_reducible rfl
              rotate_left
              · simp only [Act.put, List.setIfInBounds_toArray, List.set_cons_zero, List.set_cons_succ, i64_w, i32_w]
                rfl
              refine pure_ (i := 7) (N := some 55) (v := ?_) (a' := ?_) #[true, true, true, true, true, true, true, true, false, true, false, false, false, false] rfl rfl (any_of HT_.out (by kernel_rfl)) (fun _ _ _ h => h) (Or.inl ⟨by rfl, ?_⟩) ?_ ?_
              rotate_left
              · intro w'
                go_simp
                with_reducible rfl
              rotate_left
              · simp only [Act.put, List.setIfInBounds_toArray, List.set_cons_zero, List.set_cons_succ, i64_w, i32_w]
                rfl
              refine take_ (i := 8) (N := some 56) (v := ?_) (a' := ?_) #[true, true, true, true, true, true, true, true, true, true, false, false, false, false] rfl rfl (take_ofW HT_.out HW_.out (by kernel_rfl)) (fun _ _ _ h => h) (Or.inl ⟨by rfl, ?_⟩) hHeld ?_ ?_
              rotate_left
              · rintro w' ⟨s0, s1, s2, s3, s4, s5, s6, s7, s8⟩
                go_simp
                with_reducible rfl
              rotate_left
              · simp only [Act.put, List.setIfInBounds_toArray, List.set_cons_zero, List.set_cons_succ, i64_w, i32_w]
                rfl
              refine pure_ (i := 10) (N := some 58) (v := ?_) (a' := ?_) #[true, true, true, true, true, true, true, true, true, true, true, false, false, false] rfl rfl (any_of HT_.out (by kernel_rfl)) (fun _ _ _ h => h) (Or.inl ⟨by rfl, ?_⟩) ?_ ?_
              rotate_left
              · intro w'
                go_simp
                with_reducible rfl
              rotate_left
              · simp only [Act.put, List.setIfInBounds_toArray, List.set_cons_zero, List.set_cons_succ, i64_w, i32_w]
                rfl
              refine pure_ (i := 11) (N := some 59) (v := ?_) (a' := ?_) #[true, true, true, true, true, true, true, true, true, true, true, true, false, false] rfl rfl (any_of HT_.out (by kernel_rfl)) (fun _ _ _ h => h) (Or.inl ⟨by rfl, ?_⟩) ?_ ?_
              rotate_left
              · intro w'
                go_simp
                with_reducible rfl
              rotate_left
              · simp only [Act.put, List.setIfInBounds_toArray, List.set_cons_zero, List.set_cons_succ, i64_w, i32_w]
                rfl
              refine pure_ (i := 12) (N := some 60) (v := ?_) (a' := ?_) #[true, true, true, true, true, true, true, true, true, true, true, true, true, false] rfl rfl (any_of HT_.out (by kernel_rfl)) (fun _ _ _ h => h) (Or.inl ⟨by rfl, ?_⟩) ?_ ?_
              rotate_left
              · intro w'
                go_simp
                with_reducible rfl
              rotate_left
              · simp only [Act.put, List.setIfInBounds_toArray, List.set_cons_zero, List.set_cons_succ, i64_w, i32_w]
                rfl
              refine last_ (i := 13) (N := none) #[true, true, true, true, true, true, true, true, true, true, true, true, true, true] rfl rfl (one_of HT_.out (by kernel_rfl)) (by decide) (fun K hK => ?_)
              refine skip_ (w1 := ?_) (by rfl) rfl ?_ ?_
              rotate_left
              · go_simp
                rfl
              refine hK.out _ _ ?_
              clear hK K
              refine done_ (done_of HT_.out (by kernel_rfl)) ?_
              have hnb50 := NB256_247.out
              have hnc50 := NB247_256.out
              have hcz51_0 : w48.cell? ⟨gb256, 0, none⟩ = some (.slice (some ⟨go34, 0, none⟩) y253.length co44) := (blk_cell BK256.out 0).trans rfl
              have hcz51_1 : w48.cell? ⟨gb256, 1, none⟩ = some (.slice A0_1 l0_1.length c0_1) := (blk_cell BK256.out 1).trans rfl
              have hfz51_0 := blk_frozen BK256.out 0
              have hfz51_1 := blk_frozen BK256.out 1
              have p35 : 0 ≤ (a1 : Int) := of_decide_eq_true (by first | (with_reducible assumption) | assumption)
              have q35 : (a1 : Int) < ((y253.length : Int) : Int) := of_decide_eq_true (by first | (with_reducible assumption) | assumption)
              replace p35 := eq_true p35
              replace q35 := eq_true q35
              have hne_ : ∀ j k : Nat, (⟨go34, j, none⟩ : Addr) ≠ ⟨gb256, k, none⟩ := fun j k e => blk_ne BK256.out GG34.out (by decide) (by injection e with e; exact e.symm)
              go_upto_if 67 with (fail)
              go_cut [] (fun wc => ∃ (kq : Nat) (x257000_35 : List (S48)) (u257000 : Value), Aside0 (retargetlaw40_RelaxGrows.j1 kq t248 l0_0 l0_1 x257000_35 l0_1 = some r) ∧ Aside0 (kq ≤ kj4) ∧ Aside0 (Kd.R k48 48 wc w.heap.size (fun _ => True) u257000 x257000_35) ∧ Aside0 (wc.heap[gb247]? = some (.cells #[(.slice A0_0 l0_0.length c0_0), (.slice A0_1 l0_1.length c0_1)] 25 (0, 0))) ∧ Aside0 (wc.heap[gb256]? = some (.cells #[u257000, (.slice A0_1 l0_1.length c0_1)] 25 (0, 0))) ∧ Aside0 (Below w.heap.size w wc))
              case first =>
                have H := HC36.out
                clear HC36
                by_cases c52 : ((rd_T48 y253 a1).f2) ≥ 0
                · rw [if_pos c52] at H
                  have c52b0 : decide (0 ≤ ((rd_T48 y253 a1).f2)) = true := decide_eq_true c52
                  clear c52
                  (first | rw [c52b0] | (simp only [i64_w, i32_w]; rw [c52b0]) | skip)
                  obtain ⟨y261, hy261⟩ : ∃ y_ : List (S48), y_ = (y258.set (a1 : Int).toNat (⟨(rd_T48 y258 a1).f0, wrap64 (((rd_T48 y258 a1).f1) + a2), (rd_T48 y258 a1).f2, (rd_T48 y258 a1).f3, (rd_T48 y258 a1).f4, (rd_T48 y258 a1).f5, (rd_T48 y258 a1).f6⟩ : S48)) := ⟨_, rfl⟩
                  replace H : (retargetlaw40_RelaxGrows.j1 kj4 t248 l0_0 l0_1 y261 l0_1) = some r := by first | (rw [hy261]; with_reducible exact H) | (have H2_ := (Option.bind_some _ _).symm.trans H; rw [hy261]; with_reducible exact H2_) | (have H2_ := (Option.bind_some _ _).symm.trans H; with_reducible exact H2_) | with_reducible exact H | (rw [hy261]; exact H) | exact H
                  have Ny261 := Aside0.mk hy261
                  clear hy261
                  have H' := Aside0.mk H
                  clear H
                  try go_wp2
                  have n0_ : Aside0 (Kd.R k48 48 (w48.setCell ⟨go34, (a1 : Int).toNat * 7, none⟩ (.int .i64 (wrap64 (((rd_T48 y253 a1).f0) + a2)))) w.heap.size (fun _ => True) (.slice (some ⟨go34, 0, none⟩) y253.length co44) y258) := ⟨by (with_reducible repeat (first | apply Kd.R_alloc | apply Kd.R_drewN | apply Kd.R_drew)); exact HQ49.out⟩
                  have n1_ : Aside0 ((w48.setCell ⟨go34, (a1 : Int).toNat * 7, none⟩ (.int .i64 (wrap64 (((rd_T48 y253 a1).f0) + a2)))).heap[gb247]? = some (.cells #[.slice A0_0 l0_0.length c0_0, .slice A0_1 l0_1.length c0_1] 25 (0, 0))) := ⟨by (with_reducible repeat (first | refine blk_drewN ?_ _ | refine blk_drew ?_ | refine blk_alloc ?_ _)); refine blk_far ?_ (by have h_ := Kd.R_ne HO255.out BK247.out (by decide); intro e_; exact h_ (by rw [e_]; rfl)) _; (with_reducible repeat (first | refine blk_drewN ?_ _ | refine blk_drew ?_ | refine blk_alloc ?_ _)); exact BK247.out⟩
                  have n2_ : Aside0 ((w48.setCell ⟨go34, (a1 : Int).toNat * 7, none⟩ (.int .i64 (wrap64 (((rd_T48 y253 a1).f0) + a2)))).heap[gb256]? = some (.cells #[.slice (some ⟨go34, 0, none⟩) y253.length co44, .slice A0_1 l0_1.length c0_1] 25 (0, 0))) := ⟨by (with_reducible repeat (first | refine blk_drewN ?_ _ | refine blk_drew ?_ | refine blk_alloc ?_ _)); refine blk_far ?_ (by have h_ := Kd.R_ne HO255.out BK256.out (by decide); intro e_; exact h_ (by rw [e_]; rfl)) _; (with_reducible repeat (first | refine blk_drewN ?_ _ | refine blk_drew ?_ | refine blk_alloc ?_ _)); exact BK256.out⟩
                  have n3_ : Aside0 (Below w.heap.size w (w48.setCell ⟨go34, (a1 : Int).toNat * 7, none⟩ (.int .i64 (wrap64 (((rd_T48 y253 a1).f0) + a2))))) := ⟨by repeat (first | (with_reducible first | exact HB.out | apply below_alloc | apply pw_below_drewN | apply below_drew1 | refine below_set ?_ GB34.out | refine below_set ?_ GE247.out | refine below_set ?_ GE256.out) | exact HB.out)⟩
                  (try clear HO255)
                  (try clear BK247)
                  (try clear BK256)
                  (try clear HB)
                  generalize (w48.setCell ⟨go34, (a1 : Int).toNat * 7, none⟩ (.int .i64 (wrap64 (((rd_T48 y253 a1).f0) + a2)))) = w54 at n0_ n1_ n2_ n3_ ⊢
                  have HO255 := n0_
                  have BK247 := n1_
                  have BK256 := n2_
                  have HB := n3_
                  clear n0_ n1_ n2_ n3_
                  have n0_ := Aside0.mk (Kd.R_drew HO255.out)
                  have n1_ := Aside0.mk (blk_drew BK247.out)
                  have n2_ := Aside0.mk (blk_drew BK256.out)
                  have n3_ := Aside0.mk (below_drew1 HB.out)
                  clear HO255
                  clear BK247
                  clear BK256
                  clear HB
                  have HO255 := n0_
                  have BK247 := n1_
                  have BK256 := n2_
                  have HB := n3_
                  clear n0_ n1_ n2_ n3_
                  have p260 : 0 ≤ (a1 : Int) := of_decide_eq_true (by first | (with_reducible assumption) | assumption)
                  have q260 : a1 < (y258.length : Int) := (by have h_ : (a1 : Int) < ((y253.length : Int) : Int) := of_decide_eq_true (by first | (with_reducible assumption) | assumption); first | (have e_ := (Kd.R_reads' HO255.out).1; omega) | simpa only [Ny258.out, List.length_set] using h_)
                  have ql260 : ((a1 : Int) < ((y253.length : Int) : Int)) = True := eq_true (of_decide_eq_true (by first | (with_reducible assumption) | assumption))
                  obtain ⟨ad260, e260, hx260_0, hx260_1, hx260_2, hx260_3, hx260_4, hx260_5, hx260_6⟩ := at_T48 (Kd.R_reads' HO255.out).2.2 a1 p260 q260
                  obtain rfl : (⟨go34, 0, none⟩ : Addr) = ad260 := (by injection e260)
                  (first | simp only [add_plain] at hx260_0 | simp only [add_at] at hx260_0 | simp only [Addr.add, Nat.zero_add] at hx260_0 | skip)
                  (first | simp only [add_plain] at hx260_1 | simp only [add_at] at hx260_1 | simp only [Addr.add, Nat.zero_add] at hx260_1 | skip)
                  (first | simp only [add_plain] at hx260_2 | simp only [add_at] at hx260_2 | simp only [Addr.add, Nat.zero_add] at hx260_2 | skip)
                  (first | simp only [add_plain] at hx260_3 | simp only [add_at] at hx260_3 | simp only [Addr.add, Nat.zero_add] at hx260_3 | skip)
                  (first | simp only [add_plain] at hx260_4 | simp only [add_at] at hx260_4 | simp only [Addr.add, Nat.zero_add] at hx260_4 | skip)
                  (first | simp only [add_plain] at hx260_5 | simp only [add_at] at hx260_5 | simp only [Addr.add, Nat.zero_add] at hx260_5 | skip)
                  (first | simp only [add_plain] at hx260_6 | simp only [add_at] at hx260_6 | simp only [Addr.add, Nat.zero_add] at hx260_6 | skip)
                  replace p260 := eq_true p260
                  replace q260 := eq_true q260
                  have p53 : 0 ≤ (a1 : Int) := of_decide_eq_true (by first | (with_reducible assumption) | assumption)
                  have q53 : (a1 : Int) < ((y253.length : Int) : Int) := of_decide_eq_true (by first | (with_reducible assumption) | assumption)
                  obtain ⟨ce53, hcl53, hM53, hcc53, hfr53⟩ := Kd.R_elem HO255.out z48 (a1 : Int) p53 q53
                  obtain rfl := k48_openM hM53
                  have hx53_0 : World.cell? _ ⟨go34, (a1 : Int).toNat * 7, none⟩ = some (.int .i64 ((rd_T48 y258 a1).f0)) := hcc53 0 _ rfl
                  have hx53_1 : World.cell? _ ⟨go34, (a1 : Int).toNat * 7 + 1, none⟩ = some (.int .i64 ((rd_T48 y258 a1).f1)) := hcc53 1 _ rfl
                  have hx53_2 : World.cell? _ ⟨go34, (a1 : Int).toNat * 7 + 2, none⟩ = some (.int .i64 ((rd_T48 y258 a1).f2)) := hcc53 2 _ rfl
                  have hx53_3 : World.cell? _ ⟨go34, (a1 : Int).toNat * 7 + 3, none⟩ = some (.int .i64 ((rd_T48 y258 a1).f3)) := hcc53 3 _ rfl
                  have hx53_4 : World.cell? _ ⟨go34, (a1 : Int).toNat * 7 + 4, none⟩ = some (.int .i64 ((rd_T48 y258 a1).f4)) := hcc53 4 _ rfl
                  have hx53_5 : World.cell? _ ⟨go34, (a1 : Int).toNat * 7 + 5, none⟩ = some (.int .i64 ((rd_T48 y258 a1).f5)) := hcc53 5 _ rfl
                  have hx53_6 : World.cell? _ ⟨go34, (a1 : Int).toNat * 7 + 6, none⟩ = some (.int .i64 ((rd_T48 y258 a1).f6)) := hcc53 6 _ rfl
                  have hf53_0 : World.frozen? _ ⟨go34, (a1 : Int).toNat * 7, none⟩ = false := hfr53 0
                  have hf53_1 : World.frozen? _ ⟨go34, (a1 : Int).toNat * 7 + 1, none⟩ = false := hfr53 1
                  have hf53_2 : World.frozen? _ ⟨go34, (a1 : Int).toNat * 7 + 2, none⟩ = false := hfr53 2
                  have hf53_3 : World.frozen? _ ⟨go34, (a1 : Int).toNat * 7 + 3, none⟩ = false := hfr53 3
                  have hf53_4 : World.frozen? _ ⟨go34, (a1 : Int).toNat * 7 + 4, none⟩ = false := hfr53 4
                  have hf53_5 : World.frozen? _ ⟨go34, (a1 : Int).toNat * 7 + 5, none⟩ = false := hfr53 5
                  have hf53_6 : World.frozen? _ ⟨go34, (a1 : Int).toNat * 7 + 6, none⟩ = false := hfr53 6
                  clear hcl53 hcc53 hfr53 hM53
                  replace p53 := eq_true p53
                  replace q53 := eq_true q53
                  obtain ⟨ce56, hcl56, hM56, hcc56, hfr56⟩ := Kd.R_elem HO255.out z48 (a1 : Int) (of_decide_eq_true (by first | (with_reducible assumption) | assumption)) (by have h_ : (a1 : Int) < ((y253.length : Int) : Int) := of_decide_eq_true (by first | (with_reducible assumption) | assumption); first | exact h_ | (have e_ := (Kd.R_reads' HO255.out).1; omega) | simpa using h_)
                  obtain rfl := k48_openM hM56
                  have HP56 := (Kd.R_seg HO255.out (a1 : Int) (of_decide_eq_true (by first | (with_reducible assumption) | assumption)) (by have h_ : (a1 : Int) < ((y253.length : Int) : Int) := of_decide_eq_true (by first | (with_reducible assumption) | assumption); first | exact h_ | (have e_ := (Kd.R_reads' HO255.out).1; omega) | simpa using h_) (seg := [.int .i64 (wrap64 (((rd_T48 y258 a1).f1) + a2))]) (j := 1) hcl56 hcc56 (show 2 ≤ 7 from by decide) (x' := (⟨(rd_T48 y258 a1).f0, wrap64 (((rd_T48 y258 a1).f1) + a2), (rd_T48 y258 a1).f2, (rd_T48 y258 a1).f3, (rd_T48 y258 a1).f4, (rd_T48 y258 a1).f5, (rd_T48 y258 a1).f6⟩ : S48)) (k48_mkM _ _ _ (⟨(rd_T48 y258 a1).f0, wrap64 (((rd_T48 y258 a1).f1) + a2), (rd_T48 y258 a1).f2, (rd_T48 y258 a1).f3, (rd_T48 y258 a1).f4, (rd_T48 y258 a1).f5, (rd_T48 y258 a1).f6⟩ : S48) ) (fun _ hk => hk)).1
                  rw [← Ny261.out] at HP56
                  have HQ56 := Aside0.mk HP56
                  clear hcl56 hcc56 hfr56 hM56 HP56
                  refine start_ (n := 14) (S := fun w' => w'.cell? ⟨gb256, 0, none⟩ = some (.slice (some ⟨go34, 0, none⟩) y253.length co44) ∧ w'.cell? ⟨gb256, 1, none⟩ = some (.slice A0_1 l0_1.length c0_1) ∧ w'.cell? ⟨go34, (a1).toNat * 7, none⟩ = some (.int .i64 ((rd_T48 y258 a1).f0)) ∧ w'.cell? ⟨go34, (a1).toNat * 7 + 1, none⟩ = some (.int .i64 ((rd_T48 y258 a1).f1)) ∧ w'.cell? ⟨go34, (a1).toNat * 7 + 2, none⟩ = some (.int .i64 ((rd_T48 y258 a1).f2)) ∧ w'.cell? ⟨go34, (a1).toNat * 7 + 3, none⟩ = some (.int .i64 ((rd_T48 y258 a1).f3)) ∧ w'.cell? ⟨go34, (a1).toNat * 7 + 4, none⟩ = some (.int .i64 ((rd_T48 y258 a1).f4)) ∧ w'.cell? ⟨go34, (a1).toNat * 7 + 5, none⟩ = some (.int .i64 ((rd_T48 y258 a1).f5)) ∧ w'.cell? ⟨go34, (a1).toNat * 7 + 6, none⟩ = some (.int .i64 ((rd_T48 y258 a1).f6))) (ds := [13]) #[false, false, false, false, false, false, false, false, false, false, false, false, false, false] (by kernel_rfl) rfl rfl ⟨(blk_cell BK256.out 0).trans rfl, (blk_cell BK256.out 1).trans rfl, hx260_0, hx260_1, hx260_2, hx260_3, hx260_4, hx260_5, hx260_6⟩ (fun hHeld => ?_); refine with_tabW retargetlaw40_RelaxGrows.tab7 retargetlaw40_RelaxGrows.bits7 (fun HT_ HW_ => ?_)
                  generalize w54.drew = w55 at HO255 BK247 BK256 HB HQ49 HQ56 hf53_0 hf53_1 hf53_2 hf53_3 hf53_4 hf53_5 hf53_6 hx260_0 hx260_1 hx260_2 hx260_3 hx260_4 hx260_5 hx260_6 hx53_0 hx53_1 hx53_2 hx53_3 hx53_4 hx53_5 hx53_6 hHeld ⊢
                  refine pure_ (i := 0) (N := some 68) (v := ?_) (a' := ?_) #[true, false, false, false, false, false, false, false, false, false, false, false, false, false] rfl rfl (any_of HT_.out (by kernel_rfl)) (fun _ _ _ h => h) (Or.inl ⟨by rfl, ?_⟩) ?_ ?_
                  rotate_left
                  · intro w'
                    go_simp
                    with_reducible rfl
                  rotate_left
                  · simp only [Act.put, List.setIfInBounds_toArray, List.set_cons_zero, List.set_cons_succ, i64_w, i32_w]
                    rfl
                  refine pure_ (i := 2) (N := some 70) (v := ?_) (a' := ?_) #[true, false, true, false, false, false, false, false, false, false, false, false, false, false] rfl rfl (any_of HT_.out (by kernel_rfl)) (fun _ _ _ h => h) (Or.inl ⟨by rfl, ?_⟩) ?_ ?_
                  rotate_left
                  · intro w'
                    go_simp
                    with_reducible rfl
                  rotate_left
                  · simp only [Act.put, List.setIfInBounds_toArray, List.set_cons_zero, List.set_cons_succ, i64_w, i32_w]
                    rfl
                  refine pure_ (i := 3) (N := some 71) (v := ?_) (a' := ?_) #[true, false, true, true, false, false, false, false, false, false, false, false, false, false] rfl rfl (any_of HT_.out (by kernel_rfl)) (fun _ _ _ h => h) (Or.inl ⟨by rfl, ?_⟩) ?_ ?_
                  rotate_left
                  · intro w'
                    go_simp
                    with_reducible rfl
                  rotate_left
                  · simp only [Act.put, List.setIfInBounds_toArray, List.set_cons_zero, List.set_cons_succ, i64_w, i32_w]
                    rfl
                  refine pure_ (i := 5) (N := some 73) (v := ?_) (a' := ?_) #[true, false, true, true, false, true, false, false, false, false, false, false, false, false] rfl rfl (any_of HT_.out (by kernel_rfl)) (fun _ _ _ h => h) (Or.inl ⟨by rfl, ?_⟩) ?_ ?_
                  rotate_left
                  · intro w'
                    go_simp
                    with_reducible rfl
                  rotate_left
                  · simp only [Act.put, List.setIfInBounds_toArray, List.set_cons_zero, List.set_cons_succ, i64_w, i32_w]
                    rfl
                  refine pure_ (i := 9) (N := some 77) (v := ?_) (a' := ?_) #[true, false, true, true, false, true, false, false, false, true, false, false, false, false] rfl rfl (any_of HT_.out (by kernel_rfl)) (fun _ _ _ h => h) (Or.inl ⟨by rfl, ?_⟩) ?_ ?_
                  rotate_left
                  · intro w'
                    go_simp
                    with_reducible rfl
                  rotate_left
                  · simp only [Act.put, List.setIfInBounds_toArray, List.set_cons_zero, List.set_cons_succ, i64_w, i32_w]
                    rfl
                  refine take_ (i := 1) (N := some 69) (v := ?_) (a' := ?_) #[true, true, true, true, false, true, false, false, false, true, false, false, false, false] rfl rfl (take_ofW HT_.out HW_.out (by kernel_rfl)) (fun _ _ _ h => h) (Or.inl ⟨by rfl, ?_⟩) hHeld ?_ ?_
                  rotate_left
                  · rintro w' ⟨s0, s1, s2, s3, s4, s5, s6, s7, s8⟩
                    go_simp
                    with_reducible rfl
                  rotate_left
                  · simp only [Act.put, List.setIfInBounds_toArray, List.set_cons_zero, List.set_cons_succ, i64_w, i32_w]
                    rfl
                  refine take_ (i := 4) (N := some 72) (v := ?_) (a' := ?_) #[true, true, true, true, true, true, false, false, false, true, false, false, false, false] rfl rfl (take_ofW HT_.out HW_.out (by kernel_rfl)) (fun _ _ _ h => h) (Or.inl ⟨by rfl, ?_⟩) hHeld ?_ ?_
                  rotate_left
                  · rintro w' ⟨s0, s1, s2, s3, s4, s5, s6, s7, s8⟩
                    go_simp
                    with_reducible rfl
                  rotate_left
                  · simp only [Act.put, List.setIfInBounds_toArray, List.set_cons_zero, List.set_cons_succ, i64_w, i32_w]
                    rfl
                  refine pure_ (i := 6) (N := some 74) (v := ?_) (a' := ?_) #[true, true, true, true, true, true, true, false, false, true, false, false, false, false] rfl rfl (any_of HT_.out (by kernel_rfl)) (fun _ _ _ h => h) (Or.inl ⟨by rfl, ?_⟩) ?_ ?_
                  rotate_left
                  · intro w'
                    go_simp
                    with_reducible rfl
                  rotate_left
                  · simp only [Act.put, List.setIfInBounds_toArray, List.set_cons_zero, List.set_cons_succ, i64_w, i32_w]
                    rfl
                  refine pure_ (i := 7) (N := some 75) (v := ?_) (a' := ?_) #[true, true, true, true, true, true, true, true, false, true, false, false, false, false] rfl rfl (any_of HT_.out (by kernel_rfl)) (fun _ _ _ h => h) (Or.inl ⟨by rfl, ?_⟩) ?_ ?_
                  rotate_left
                  · intro w'
                    go_simp
                    with_reducible rfl
                  rotate_left
                  · simp only [Act.put, List.setIfInBounds_toArray, List.set_cons_zero, List.set_cons_succ, i64_w, i32_w]
                    rfl
                  refine take_ (i := 8) (N := some 76) (v := ?_) (a' := ?_) #[true, true, true, true, true, true, true, true, true, true, false, false, false, false] rfl rfl (take_ofW HT_.out HW_.out (by kernel_rfl)) (fun _ _ _ h => h) (Or.inl ⟨by rfl, ?_⟩) hHeld ?_ ?_
                  rotate_left
                  · rintro w' ⟨s0, s1, s2, s3, s4, s5, s6, s7, s8⟩
                    go_simp
                    with_reducible rfl
                  rotate_left
                  · simp only [Act.put, List.setIfInBounds_toArray, List.set_cons_zero, List.set_cons_succ, i64_w, i32_w]
                    rfl
                  refine pure_ (i := 10) (N := some 78) (v := ?_) (a' := ?_) #[true, true, true, true, true, true, true, true, true, true, true, false, false, false] rfl rfl (any_of HT_.out (by kernel_rfl)) (fun _ _ _ h => h) (Or.inl ⟨by rfl, ?_⟩) ?_ ?_
                  rotate_left
                  · intro w'
                    go_simp
                    with_reducible rfl
                  rotate_left
                  · simp only [Act.put, List.setIfInBounds_toArray, List.set_cons_zero, List.set_cons_succ, i64_w, i32_w]
                    rfl
                  refine pure_ (i := 11) (N := some 79) (v := ?_) (a' := ?_) #[true, true, true, true, true, true, true, true, true, true, true, true, false, false] rfl rfl (any_of HT_.out (by kernel_rfl)) (fun _ _ _ h => h) (Or.inl ⟨by rfl, ?_⟩) ?_ ?_
                  rotate_left
                  · intro w'
                    go_simp
                    with_reducible rfl
                  rotate_left
                  · simp only [Act.put, List.setIfInBounds_toArray, List.set_cons_zero, List.set_cons_succ, i64_w, i32_w]
                    rfl
                  refine pure_ (i := 12) (N := some 80) (v := ?_) (a' := ?_) #[true, true, true, true, true, true, true, true, true, true, true, true, true, false] rfl rfl (any_of HT_.out (by kernel_rfl)) (fun _ _ _ h => h) (Or.inl ⟨by rfl, ?_⟩) ?_ ?_
                  rotate_left
                  · intro w'
                    go_simp
                    with_reducible rfl
                  rotate_left
                  · simp only [Act.put, List.setIfInBounds_toArray, List.set_cons_zero, List.set_cons_succ, i64_w, i32_w]
                    rfl
                  refine last_ (i := 13) (N := none) #[true, true, true, true, true, true, true, true, true, true, true, true, true, true] rfl rfl (one_of HT_.out (by kernel_rfl)) (by decide) (fun K hK => ?_)
                  refine skip_ (w1 := ?_) (by rfl) rfl ?_ ?_
                  rotate_left
                  · go_simp
                    rfl
                  refine hK.out _ _ ?_
                  clear hK K
                  refine done_ (done_of HT_.out (by kernel_rfl)) ?_
                  try go_wp2
                  go_meet
                  case rel => exact ⟨_, (y261), (.slice (some ⟨go34, 0, none⟩) y253.length co44), H', ⟨by have := HJ4.out; first | omega | exact Nat.le_refl _⟩, ⟨by (with_reducible repeat (first | apply Kd.R_alloc | apply Kd.R_drewN | apply Kd.R_drew)); exact HQ56.out⟩, ⟨by (with_reducible repeat (first | refine blk_drewN ?_ _ | refine blk_drew ?_ | refine blk_alloc ?_ _)); refine blk_far ?_ (by have h_ := Kd.R_ne HO255.out BK247.out (by decide); intro e_; exact h_ (by rw [e_]; rfl)) _; (with_reducible repeat (first | refine blk_drewN ?_ _ | refine blk_drew ?_ | refine blk_alloc ?_ _)); exact BK247.out⟩, ⟨by (with_reducible repeat (first | refine blk_drewN ?_ _ | refine blk_drew ?_ | refine blk_alloc ?_ _)); refine blk_far ?_ (by have h_ := Kd.R_ne HO255.out BK256.out (by decide); intro e_; exact h_ (by rw [e_]; rfl)) _; (with_reducible repeat (first | refine blk_drewN ?_ _ | refine blk_drew ?_ | refine blk_alloc ?_ _)); exact BK256.out⟩, ⟨by repeat (first | (with_reducible first | exact HB.out | apply below_alloc | apply pw_below_drewN | apply below_drew1 | refine below_set ?_ GB34.out | refine below_set ?_ GE247.out | refine below_set ?_ GE256.out) | exact HB.out)⟩⟩
                · rw [if_neg c52] at H
                  have c52b0 : decide (0 ≤ ((rd_T48 y253 a1).f2)) = false := decide_eq_false c52
                  clear c52
                  (first | rw [c52b0] | (simp only [i64_w, i32_w]; rw [c52b0]) | skip)
                  have H' := Aside0.mk H
                  clear H
                  go_wp2
                  go_meet
                  case rel => exact ⟨_, (y258), (.slice (some ⟨go34, 0, none⟩) y253.length co44), H', ⟨by have := HJ4.out; first | omega | exact Nat.le_refl _⟩, ⟨by (with_reducible repeat (first | apply Kd.R_alloc | apply Kd.R_drewN | apply Kd.R_drew)); exact HQ49.out⟩, ⟨by (with_reducible repeat (first | refine blk_drewN ?_ _ | refine blk_drew ?_ | refine blk_alloc ?_ _)); refine blk_far ?_ (by have h_ := Kd.R_ne HO255.out BK247.out (by decide); intro e_; exact h_ (by rw [e_]; rfl)) _; (with_reducible repeat (first | refine blk_drewN ?_ _ | refine blk_drew ?_ | refine blk_alloc ?_ _)); exact BK247.out⟩, ⟨by (with_reducible repeat (first | refine blk_drewN ?_ _ | refine blk_drew ?_ | refine blk_alloc ?_ _)); refine blk_far ?_ (by have h_ := Kd.R_ne HO255.out BK256.out (by decide); intro e_; exact h_ (by rw [e_]; rfl)) _; (with_reducible repeat (first | refine blk_drewN ?_ _ | refine blk_drew ?_ | refine blk_alloc ?_ _)); exact BK256.out⟩, ⟨by repeat (first | (with_reducible first | exact HB.out | apply below_alloc | apply pw_below_drewN | apply below_drew1 | refine below_set ?_ GB34.out | refine below_set ?_ GE247.out | refine below_set ?_ GE256.out) | exact HB.out)⟩⟩
              case rest =>
                clear HC36
                try clear p2
                try clear q2
                try clear hx2
                try clear c3
                try clear p3
                try clear q3
                try clear hx3
                try clear hf3
                try clear c4
                try clear c5
                try clear p5
                try clear q5
                try clear hx5
                try clear hf5
                try clear p6
                try clear p25
                try clear q25
                try clear hx25
                try clear p26
                try clear q26
                try clear hx26
                try clear c31
                try clear c34
                try clear p34
                try clear q34
                try clear hx34
                try clear hf34
                try clear p35
                try clear q35
                try clear c49
                try clear c50
                try clear c52
                try clear c52b0
                try clear c53
                try clear p53
                try clear q53
                try clear hx53
                try clear hf53
                try clear c56
                try clear hcz51_0
                try clear hcz51_1
                try clear hfz51_0
                try clear hfz51_1
                try clear hx257_0
                try clear hx257_1
                try clear hx257_2
                try clear hx257_3
                try clear hx257_4
                try clear hx257_5
                try clear hx257_6
                try clear hx260_0
                try clear hx260_1
                try clear hx260_2
                try clear hx260_3
                try clear hx260_4
                try clear hx260_5
                try clear hx260_6
                try clear hx34_0
                try clear hx34_1
                try clear hx34_2
                try clear hx34_3
                try clear hx34_4
                try clear hx34_5
                try clear hx34_6
                try clear hx53_0
                try clear hx53_1
                try clear hx53_2
                try clear hx53_3
                try clear hx53_4
                try clear hx53_5
                try clear hx53_6
                try clear p257
                try clear p260
                try clear p34
                try clear p35
                try clear p53
                try clear q257
                try clear q260
                try clear q34
                try clear q35
                try clear q53
                obtain ⟨kq, x257000_35, u257000, HA, HJ35, HO_257000, BK247, BK256, HB⟩ := hcut
                cases kq with
                | zero => exact absurd HA.out (by simp [retargetlaw40_RelaxGrows.j1])
                | succ kj35 =>
                  have H := HA.out
                  clear HA
                  simp only [retargetlaw40_RelaxGrows.j1] at H
                  replace H := Option.bind_eq_some_iff.mp H
                  obtain ⟨⟨t262, t265⟩, A570, H⟩ := H
                  replace H : ((relax_Solve.f kj35 x257000_35 l0_1).bind fun bt266 => (if t265 = 0 then (retargetlaw40_RelaxGrows.j2 kj35 t248 t262 t265 bt266.1 bt266.2 (bt266.2 != 0)) else (retargetlaw40_RelaxGrows.j2 kj35 t248 t262 t265 bt266.1 bt266.2 true))) = some r := H
                  have A57 := Aside0.mk A570
                  clear A570
                  replace H := Option.bind_eq_some_iff.mp H
                  obtain ⟨⟨t266, t269⟩, A580, H⟩ := H
                  replace H : (if t265 = 0 then (retargetlaw40_RelaxGrows.j2 kj35 t248 t262 t265 t266 t269 (t269 != 0)) else (retargetlaw40_RelaxGrows.j2 kj35 t248 t262 t265 t266 t269 true)) = some r := H
                  have A58 := Aside0.mk A580
                  clear A580
                  have HC59 := Aside0.mk H
                  clear H
                  have hnb60 := NB247_256.out
                  have hnc60 := NB256_247.out
                  have hcz61_0 : wc.cell? ⟨gb247, 0, none⟩ = some (.slice A0_0 l0_0.length c0_0) := (blk_cell BK247.out 0).trans rfl
                  have hcz61_1 : wc.cell? ⟨gb247, 1, none⟩ = some (.slice A0_1 l0_1.length c0_1) := (blk_cell BK247.out 1).trans rfl
                  have hfz61_0 := blk_frozen BK247.out 0
                  have hfz61_1 := blk_frozen BK247.out 1
                  go_upto_region 10 with (first | ((with_reducible refine gate_callee (f := 21) rfl ?_); refine goesL_ (some 83) rfl rfl Try.func21 (by kernel_rfl) rfl #[.agg #[.slice A0_0 l0_0.length c0_0, .slice A0_1 l0_1.length c0_1]] rfl (by (try simp only [List.map_toArray, List.map_cons, List.map_nil]); first | done | rfl | (simp only [List.length_drop, List.length_take]; rfl)) ?_; (with_reducible refine (relax_Solve.calls kj35 _ _ l0_0 _ _ l0_1 t262 t265 _ ?side1 ?side2 ?side3 ?side4 A57.out).mono ?_); (case side1 => repeat (first | exact (Kd.C_below HR0_0.out HB.out) | (with_reducible refine Kd.C_alloc ?_ _) | (with_reducible refine Kd.C_drewN ?_ _) | (with_reducible refine Kd.C_drew ?_))); (case side2 => exact HC0_0.out); (case side3 => repeat (first | exact (Kd.C_below HR0_1.out HB.out) | (with_reducible refine Kd.C_alloc ?_ _) | (with_reducible refine Kd.C_drewN ?_ _) | (with_reducible refine Kd.C_drew ?_))); (case side4 => exact HC0_1.out); rintro e w62 ⟨v263, rfl, ho0, hb⟩; refine ⟨_, rfl, ?_⟩; have n0_ := Aside0.mk (Kd.R_below (by (with_reducible repeat (first | apply Kd.R_alloc | apply Kd.R_drewN | apply Kd.R_drew)); exact HO_257000.out) hb); have n1_ := Aside0.mk (Kd.R_lower ho0 (below_size (by repeat (first | (with_reducible first | exact HB.out | apply below_alloc | apply pw_below_drewN | apply below_drew1 | refine below_set ?_ GE247.out | refine below_set ?_ GE256.out) | exact HB.out)))); have n2_ := Aside0.mk (blk_below (g := gb247) (o := .cells #[.slice A0_0 l0_0.length c0_0, .slice A0_1 l0_1.length c0_1] 25 (0, 0)) (by (with_reducible repeat (first | refine blk_drewN ?_ _ | refine blk_drew ?_ | refine blk_alloc ?_ _)); exact BK247.out) hb); have n3_ := Aside0.mk (blk_below (g := gb256) (o := .cells #[u257000, .slice A0_1 l0_1.length c0_1] 25 (0, 0)) (by (with_reducible repeat (first | refine blk_drewN ?_ _ | refine blk_drew ?_ | refine blk_alloc ?_ _)); exact BK256.out) hb); have n4_ := Aside0.mk (below_step (by repeat (first | (with_reducible first | exact HB.out | apply below_alloc | apply pw_below_drewN | apply below_drew1 | refine below_set ?_ GE247.out | refine below_set ?_ GE256.out) | exact HB.out)) hb); clear HO_257000; clear BK247; clear BK256; clear HB; have HO_257000 := n0_; have HO264 := n1_; have BK247 := n2_; have BK256 := n3_; have HB := n4_; clear n0_ n1_ n2_ n3_ n4_; (try clear hb); (try clear hb2); (try clear hk); (try clear hi); (try clear ho0); have hcz63_0 : w62.cell? ⟨gb256, 0, none⟩ = some (u257000) := (blk_cell BK256.out 0).trans rfl; have hcz63_1 : w62.cell? ⟨gb256, 1, none⟩ = some (.slice A0_1 l0_1.length c0_1) := (blk_cell BK256.out 1).trans rfl; have hfz63_0 := blk_frozen BK256.out 0; have hfz63_1 := blk_frozen BK256.out 1; obtain ⟨Ao64, co64, eo64⟩ := Kd.R_slice HO_257000.out; subst eo64) | ((with_reducible refine gate_callee (f := 21) rfl ?_); refine goesL_ (some 88) rfl rfl Try.func21 (by kernel_rfl) rfl #[.agg #[.slice Ao64 x257000_35.length co64, .slice A0_1 l0_1.length c0_1]] rfl (by (try simp only [List.map_toArray, List.map_cons, List.map_nil]); first | done | rfl | (simp only [List.length_drop, List.length_take]; rfl)) ?_; (with_reducible refine (relax_Solve.calls kj35 _ _ x257000_35 _ _ l0_1 t266 t269 _ ?side1 ?side2 ?side3 ?side4 A58.out).mono ?_); (case side1 => repeat (first | exact (Kd.R_reads' HO_257000.out).2.2 | (with_reducible refine Kd.C_alloc ?_ _) | (with_reducible refine Kd.C_drewN ?_ _) | (with_reducible refine Kd.C_drew ?_))); (case side2 => exact (Kd.R_reads' HO_257000.out).2.1); (case side3 => repeat (first | exact (Kd.C_below HR0_1.out HB.out) | (with_reducible refine Kd.C_alloc ?_ _) | (with_reducible refine Kd.C_drewN ?_ _) | (with_reducible refine Kd.C_drew ?_))); (case side4 => exact HC0_1.out); rintro e w65 ⟨v267, rfl, ho0, hb⟩; refine ⟨_, rfl, ?_⟩; have n0_ := Aside0.mk (Kd.R_below (by (with_reducible repeat (first | apply Kd.R_alloc | apply Kd.R_drewN | apply Kd.R_drew)); exact HO_257000.out) hb); have n1_ := Aside0.mk (Kd.R_elder' (by (with_reducible repeat (first | apply Kd.R_alloc | apply Kd.R_drewN | apply Kd.R_drew)); exact HO264.out) (Kd.R_base ho0) hb); have n2_ := Aside0.mk (Kd.R_lower (Kd.R_new' ho0 (Kd.R_lt (by (with_reducible repeat (first | apply Kd.R_alloc | apply Kd.R_drewN | apply Kd.R_drew)); exact HO264.out))) (below_size (by repeat (first | (with_reducible first | exact HB.out | apply below_alloc | apply pw_below_drewN | apply below_drew1 | refine below_set ?_ GE247.out | refine below_set ?_ GE256.out) | exact HB.out)))); have n3_ := Aside0.mk (blk_below (g := gb247) (o := .cells #[.slice A0_0 l0_0.length c0_0, .slice A0_1 l0_1.length c0_1] 25 (0, 0)) (by (with_reducible repeat (first | refine blk_drewN ?_ _ | refine blk_drew ?_ | refine blk_alloc ?_ _)); exact BK247.out) hb); have n4_ := Aside0.mk (blk_below (g := gb256) (o := .cells #[.slice Ao64 x257000_35.length co64, .slice A0_1 l0_1.length c0_1] 25 (0, 0)) (by (with_reducible repeat (first | refine blk_drewN ?_ _ | refine blk_drew ?_ | refine blk_alloc ?_ _)); exact BK256.out) hb); have n5_ := Aside0.mk (below_step (by repeat (first | (with_reducible first | exact HB.out | apply below_alloc | apply pw_below_drewN | apply below_drew1 | refine below_set ?_ GE247.out | refine below_set ?_ GE256.out) | exact HB.out)) hb); clear HO_257000; clear HO264; clear BK247; clear BK256; clear HB; have HO_257000 := n0_; have HO264 := n1_; have HO268 := n2_; have BK247 := n3_; have BK256 := n4_; have HB := n5_; clear n0_ n1_ n2_ n3_ n4_ n5_; (try clear hb); (try clear hb2); (try clear hk); (try clear hi); (try clear ho0)))
                  (try simp only [Act.put, List.setIfInBounds_toArray, List.set_cons_zero, List.set_cons_succ])
                  go_cut [96] (fun v96 wc => ∃ (kq : Nat) (x96_58 : Bool), v96 = .bool x96_58 ∧ Aside0 (retargetlaw40_RelaxGrows.j2 kq t248 t262 t265 t266 t269 x96_58 = some r) ∧ Aside0 (kq ≤ kj35) ∧ Aside0 (Kd.R Kd.bool 4 wc w.heap.size (fun k_ => some k_ ≠ (v267 : Value).ownBlock) v263 t262) ∧ Aside0 (Kd.R Kd.bool 4 wc w.heap.size (fun k_ => some k_ ≠ (v263 : Value).ownBlock) v267 t266) ∧ Aside0 (Kd.R k48 48 wc w.heap.size (fun _ => True) (.slice Ao64 x257000_35.length co64) x257000_35) ∧ Aside0 (wc.heap[gb247]? = some (.cells #[(.slice A0_0 l0_0.length c0_0), (.slice A0_1 l0_1.length c0_1)] 25 (0, 0))) ∧ Aside0 (wc.heap[gb256]? = some (.cells #[(.slice Ao64 x257000_35.length co64), (.slice A0_1 l0_1.length c0_1)] 25 (0, 0))) ∧ Aside0 (Below w.heap.size w wc))
                  case first =>
                    have H := HC59.out
                    clear HC59
                    by_cases c66 : t265 = 0
                    · rw [if_pos c66] at H
                      have c66b0 : (t265 == 0) = true := beq_iff_eq.mpr c66
                      have c66b1 : (t265 != 0) = false := bne_eq_false_iff_eq.mpr c66
                      clear c66
                      (first | rw [c66b0] | (simp only [i64_w, i32_w]; rw [c66b0]) | skip)
                      have H' := Aside0.mk H
                      clear H
                      go_wp2
                      go_meet
                      case rel => exact ⟨_, ((t269 != 0)), (by first | rfl | (simp; done) | (simp [*]; done)), H', ⟨by have := HJ4.out; have := HJ35.out; first | omega | exact Nat.le_refl _⟩, ⟨by (with_reducible repeat (first | apply Kd.R_alloc | apply Kd.R_drewN | apply Kd.R_drew)); exact Kd.R_mono HO264.out (fun _ hk => hk.2)⟩, ⟨by (with_reducible repeat (first | apply Kd.R_alloc | apply Kd.R_drewN | apply Kd.R_drew)); exact Kd.R_mono HO268.out (fun _ hk => hk.2)⟩, ⟨by (with_reducible repeat (first | apply Kd.R_alloc | apply Kd.R_drewN | apply Kd.R_drew)); exact HO_257000.out⟩, ⟨by (with_reducible repeat (first | refine blk_drewN ?_ _ | refine blk_drew ?_ | refine blk_alloc ?_ _)); exact BK247.out⟩, ⟨by (with_reducible repeat (first | refine blk_drewN ?_ _ | refine blk_drew ?_ | refine blk_alloc ?_ _)); exact BK256.out⟩, ⟨by repeat (first | (with_reducible first | exact HB.out | apply below_alloc | apply pw_below_drewN | apply below_drew1 | refine below_set ?_ GE247.out | refine below_set ?_ GE256.out) | exact HB.out)⟩⟩
                    · rw [if_neg c66] at H
                      have c66b0 : (t265 == 0) = false := beq_eq_false_iff_ne.mpr c66
                      have c66b1 : (t265 != 0) = true := bne_iff_ne.mpr c66
                      (first | rw [c66b0] | (simp only [i64_w, i32_w]; rw [c66b0]) | skip)
                      have H' := Aside0.mk H
                      clear H
                      go_wp2
                      go_meet
                      case rel => exact ⟨_, (true), (by first | rfl | (simp; done) | (simp [*]; done)), H', ⟨by have := HJ4.out; have := HJ35.out; first | omega | exact Nat.le_refl _⟩, ⟨by (with_reducible repeat (first | apply Kd.R_alloc | apply Kd.R_drewN | apply Kd.R_drew)); exact Kd.R_mono HO264.out (fun _ hk => hk.2)⟩, ⟨by (with_reducible repeat (first | apply Kd.R_alloc | apply Kd.R_drewN | apply Kd.R_drew)); exact Kd.R_mono HO268.out (fun _ hk => hk.2)⟩, ⟨by (with_reducible repeat (first | apply Kd.R_alloc | apply Kd.R_drewN | apply Kd.R_drew)); exact HO_257000.out⟩, ⟨by (with_reducible repeat (first | refine blk_drewN ?_ _ | refine blk_drew ?_ | refine blk_alloc ?_ _)); exact BK247.out⟩, ⟨by (with_reducible repeat (first | refine blk_drewN ?_ _ | refine blk_drew ?_ | refine blk_alloc ?_ _)); exact BK256.out⟩, ⟨by repeat (first | (with_reducible first | exact HB.out | apply below_alloc | apply pw_below_drewN | apply below_drew1 | refine below_set ?_ GE247.out | refine below_set ?_ GE256.out) | exact HB.out)⟩⟩
                  case rest =>
                    clear HC59
                    try clear c2
                    try clear p2
                    try clear q2
                    try clear hx2
                    try clear c3
                    try clear p3
                    try clear q3
                    try clear hx3
                    try clear hf3
                    try clear c4
                    try clear c5
                    try clear p5
                    try clear q5
                    try clear hx5
                    try clear hf5
                    try clear c6
                    try clear p6
                    try clear c21
                    try clear p25
                    try clear q25
                    try clear hx25
                    try clear p26
                    try clear q26
                    try clear hx26
                    try clear c31
                    try clear c34
                    try clear p34
                    try clear q34
                    try clear hx34
                    try clear hf34
                    try clear p35
                    try clear q35
                    try clear c49
                    try clear c50
                    try clear c52
                    try clear c52b0
                    try clear c53
                    try clear p53
                    try clear q53
                    try clear hx53
                    try clear hf53
                    try clear c56
                    try clear c60
                    try clear p64
                    try clear c66
                    try clear c66b0
                    try clear c66b1
                    try clear hcz51_0
                    try clear hcz51_1
                    try clear hcz61_0
                    try clear hcz61_1
                    try clear hcz63_0
                    try clear hcz63_1
                    try clear hfz51_0
                    try clear hfz51_1
                    try clear hfz61_0
                    try clear hfz61_1
                    try clear hfz63_0
                    try clear hfz63_1
                    try clear hx257_0
                    try clear hx257_1
                    try clear hx257_2
                    try clear hx257_3
                    try clear hx257_4
                    try clear hx257_5
                    try clear hx257_6
                    try clear hx260_0
                    try clear hx260_1
                    try clear hx260_2
                    try clear hx260_3
                    try clear hx260_4
                    try clear hx260_5
                    try clear hx260_6
                    try clear hx34_0
                    try clear hx34_1
                    try clear hx34_2
                    try clear hx34_3
                    try clear hx34_4
                    try clear hx34_5
                    try clear hx34_6
                    try clear hx53_0
                    try clear hx53_1
                    try clear hx53_2
                    try clear hx53_3
                    try clear hx53_4
                    try clear hx53_5
                    try clear hx53_6
                    try clear p2
                    try clear p25
                    try clear p257
                    try clear p26
                    try clear p260
                    try clear p3
                    try clear p34
                    try clear p35
                    try clear p5
                    try clear p53
                    try clear p6
                    try clear q2
                    try clear q25
                    try clear q257
                    try clear q26
                    try clear q260
                    try clear q3
                    try clear q34
                    try clear q35
                    try clear q5
                    try clear q53
                    obtain ⟨kq, x96_58, rfl, HA, HJ58, HO_9, HO_11, HO_257000, BK247, BK256, HB⟩ := hcut
                    cases kq with
                    | zero => exact absurd HA.out (by simp [retargetlaw40_RelaxGrows.j2])
                    | succ kj58 =>
                      have H := HA.out
                      clear HA
                      simp only [retargetlaw40_RelaxGrows.j2] at H
                      by_cases c67 : x96_58 = true
                      · subst c67
                        have H1 : (if t248 = true then (if t265 = 24 then (some (t269 != 0)) else (some true)) else (some false)) = some r := by rw [if_pos rfl] at H; exact H
                        clear H
                        have H := H1
                        clear H1
                        by_cases c68 : t248 = true
                        · subst c68
                          have H1 : (if t265 = 24 then (some (t269 != 0)) else (some true)) = some r := by rw [if_pos rfl] at H; exact H
                          clear H
                          have H := H1
                          clear H1
                          by_cases c69 : t265 = 24
                          · rw [if_pos c69] at H
                            have c69b0 : (t265 == 24) = true := beq_iff_eq.mpr c69
                            have c69b1 : (t265 != 24) = false := bne_eq_false_iff_eq.mpr c69
                            clear c69
                            obtain rfl := Option.some.inj H
                            go_wp2
                            go_ret
                            exact ⟨by first | rfl | (simp [errW_none, errW_some] <;> rfl) | (simp [*, errW_none, errW_some] <;> rfl), by repeat (first | (with_reducible first | exact HB.out | apply below_alloc | apply pw_below_drewN | apply below_drew1 | refine below_set ?_ GE247.out | refine below_set ?_ GE256.out) | exact HB.out)⟩
                          · rw [if_neg c69] at H
                            have c69b0 : (t265 == 24) = false := beq_eq_false_iff_ne.mpr c69
                            have c69b1 : (t265 != 24) = true := bne_iff_ne.mpr c69
                            obtain rfl := Option.some.inj H
                            go_wp2
                            go_ret
                            exact ⟨by first | rfl | (simp [errW_none, errW_some] <;> rfl) | (simp [*, errW_none, errW_some] <;> rfl), by repeat (first | (with_reducible first | exact HB.out | apply below_alloc | apply pw_below_drewN | apply below_drew1 | refine below_set ?_ GE247.out | refine below_set ?_ GE256.out) | exact HB.out)⟩
                        · replace c68 := Bool.eq_false_iff.mpr c68
                          subst c68
                          have H1 : (some false) = some r := by rw [if_neg (show ¬ (false = true) by decide)] at H; exact H
                          clear H
                          have H := H1
                          clear H1
                          obtain rfl := Option.some.inj H
                          cases hrt_
                      · replace c67 := Bool.eq_false_iff.mpr c67
                        subst c67
                        have H1 : (if (t262.length : Int) = (t266.length : Int) then (retargetlaw40_RelaxGrows.l0 kj58 t248 t262 t266 0) else (some false)) = some r := by rw [if_neg (show ¬ (false = true) by decide)] at H; exact H
                        clear H
                        have H := H1
                        clear H1
                        by_cases c70 : (t262.length : Int) = (t266.length : Int)
                        · rw [if_pos c70] at H
                          have c70b0 : ((t262.length : Int) == (t266.length : Int)) = true := beq_iff_eq.mpr c70
                          have c70b1 : ((t262.length : Int) != (t266.length : Int)) = false := bne_eq_false_iff_eq.mpr c70
                          have c70b2 : (t262.length == t266.length) = true := by first | simpa using c70 | (simp at c70 ⊢; omega)
                          clear c70
                          have H' := Aside0.mk H
                          clear H
                          obtain ⟨Ao71, co71, eo71⟩ := Kd.R_slice HO_9.out
                          subst eo71
                          obtain ⟨Ao72, co72, eo72⟩ := Kd.R_slice HO_11.out
                          subst eo72
                          go_wp2
                          go_loopg [13] kj58 (fun kq v13 w' => ∃ (x13_4 : Int), v13 = .int .i64 x13_4 ∧ Aside0 (retargetlaw40_RelaxGrows.l0 kq t248 t262 t266 x13_4 = some r) ∧ Aside0 (kq ≤ kj58) ∧ Aside0 (Kd.R Kd.bool 4 w' w.heap.size (fun k_ => some k_ ≠ ((.slice Ao72 t266.length co72) : Value).ownBlock) (.slice Ao71 t262.length co71) t262) ∧ Aside0 (Kd.R Kd.bool 4 w' w.heap.size (fun k_ => some k_ ≠ ((.slice Ao71 t262.length co71) : Value).ownBlock) (.slice Ao72 t266.length co72) t266) ∧ Aside0 (Kd.R k48 48 w' w.heap.size (fun _ => True) (.slice Ao64 x257000_35.length co64) x257000_35) ∧ Aside0 (w'.heap[gb247]? = some (.cells #[(.slice A0_0 l0_0.length c0_0), (.slice A0_1 l0_1.length c0_1)] 25 (0, 0))) ∧ Aside0 (w'.heap[gb256]? = some (.cells #[(.slice Ao64 x257000_35.length co64), (.slice A0_1 l0_1.length c0_1)] 25 (0, 0))) ∧ Aside0 (Below w.heap.size w w'))
                          case atStart => exact ⟨(0), (by first | rfl | (simp; done) | (simp [*]; done)), H', ⟨Nat.le_refl _⟩, ⟨by (with_reducible repeat (first | apply Kd.R_alloc | apply Kd.R_drewN | apply Kd.R_drew)); exact HO_9.out⟩, ⟨by (with_reducible repeat (first | apply Kd.R_alloc | apply Kd.R_drewN | apply Kd.R_drew)); exact HO_11.out⟩, ⟨by (with_reducible repeat (first | apply Kd.R_alloc | apply Kd.R_drewN | apply Kd.R_drew)); exact HO_257000.out⟩, ⟨by (with_reducible repeat (first | refine blk_drewN ?_ _ | refine blk_drew ?_ | refine blk_alloc ?_ _)); exact BK247.out⟩, ⟨by (with_reducible repeat (first | refine blk_drewN ?_ _ | refine blk_drew ?_ | refine blk_alloc ?_ _)); exact BK256.out⟩, ⟨by repeat (first | (with_reducible first | exact HB.out | apply below_alloc | apply pw_below_drewN | apply below_drew1 | refine below_set ?_ GE247.out | refine below_set ?_ GE256.out) | exact HB.out)⟩⟩
                          case round =>
                            clear H'
                            try clear c2
                            try clear p2
                            try clear q2
                            try clear hx2
                            try clear c3
                            try clear p3
                            try clear q3
                            try clear hx3
                            try clear hf3
                            try clear c4
                            try clear c5
                            try clear p5
                            try clear q5
                            try clear hx5
                            try clear hf5
                            try clear c6
                            try clear p6
                            try clear c7
                            try clear c21
                            try clear p25
                            try clear q25
                            try clear hx25
                            try clear p26
                            try clear q26
                            try clear hx26
                            try clear c31
                            try clear c34
                            try clear p34
                            try clear q34
                            try clear hx34
                            try clear hf34
                            try clear p35
                            try clear q35
                            try clear c49
                            try clear c50
                            try clear c52
                            try clear c52b0
                            try clear c53
                            try clear p53
                            try clear q53
                            try clear hx53
                            try clear hf53
                            try clear c56
                            try clear c60
                            try clear p64
                            try clear c66
                            try clear c66b0
                            try clear c66b1
                            try clear c67
                            try clear c68
                            try clear c69
                            try clear c69b0
                            try clear c69b1
                            try clear c70
                            try clear c70b0
                            try clear c70b1
                            try clear c70b2
                            try clear hcz51_0
                            try clear hcz51_1
                            try clear hcz61_0
                            try clear hcz61_1
                            try clear hcz63_0
                            try clear hcz63_1
                            try clear hfz51_0
                            try clear hfz51_1
                            try clear hfz61_0
                            try clear hfz61_1
                            try clear hfz63_0
                            try clear hfz63_1
                            try clear hx257_0
                            try clear hx257_1
                            try clear hx257_2
                            try clear hx257_3
                            try clear hx257_4
                            try clear hx257_5
                            try clear hx257_6
                            try clear hx260_0
                            try clear hx260_1
                            try clear hx260_2
                            try clear hx260_3
                            try clear hx260_4
                            try clear hx260_5
                            try clear hx260_6
                            try clear hx34_0
                            try clear hx34_1
                            try clear hx34_2
                            try clear hx34_3
                            try clear hx34_4
                            try clear hx34_5
                            try clear hx34_6
                            try clear hx53_0
                            try clear hx53_1
                            try clear hx53_2
                            try clear hx53_3
                            try clear hx53_4
                            try clear hx53_5
                            try clear hx53_6
                            try clear p2
                            try clear p25
                            try clear p257
                            try clear p26
                            try clear p260
                            try clear p3
                            try clear p34
                            try clear p35
                            try clear p5
                            try clear p53
                            try clear p6
                            try clear p64
                            try clear q2
                            try clear q25
                            try clear q257
                            try clear q26
                            try clear q260
                            try clear q3
                            try clear q34
                            try clear q35
                            try clear q5
                            try clear q53
                            obtain ⟨x13_4, rfl, HA, HK4, HO_9, HO_11, HO_257000, BK247, BK256, HB⟩ := hrel
                            cases gk with
                            | zero => exact absurd HA.out (by simp [retargetlaw40_RelaxGrows.l0])
                            | succ k4 =>
                              have H := HA.out
                              clear HA
                              simp only [retargetlaw40_RelaxGrows.l0] at H
                              by_cases c73 : x13_4 < (t262.length : Int)
                              · rw [if_pos c73] at H
                                have c73b0 : decide (x13_4 < (t262.length : Int)) = true := decide_eq_true c73
                                clear c73
                                by_cases c74 : 0 ≤ x13_4
                                · rw [if_pos c74] at H
                                  have c74b0 : decide (0 ≤ x13_4) = true := decide_eq_true c74
                                  clear c74
                                  obtain ⟨bq75, hbq75⟩ : ∃ b_ : Bool, b_ = (rdOf false t262 x13_4) := ⟨_, rfl⟩
                                  replace H : (if bq75 = true then (if x13_4 < (t266.length : Int) then (if rdOf false t266 x13_4 = true then (retargetlaw40_RelaxGrows.l0 k4 t248 t262 t266 (wrap64 (x13_4 + 1))) else (some false)) else (none)) else (retargetlaw40_RelaxGrows.l0 k4 t248 t262 t266 (wrap64 (x13_4 + 1)))) = some r := by rw [← hbq75] at H; exact H
                                  have Nbq75 := Aside0.mk hbq75
                                  clear hbq75
                                  by_cases c76 : bq75 = true
                                  · subst c76
                                    have H1 : (if x13_4 < (t266.length : Int) then (if rdOf false t266 x13_4 = true then (retargetlaw40_RelaxGrows.l0 k4 t248 t262 t266 (wrap64 (x13_4 + 1))) else (some false)) else (none)) = some r := by rw [if_pos rfl] at H; exact H
                                    clear H
                                    have H := H1
                                    clear H1
                                    by_cases c77 : x13_4 < (t266.length : Int)
                                    · rw [if_pos c77] at H
                                      have c77b0 : decide (x13_4 < (t266.length : Int)) = true := decide_eq_true c77
                                      clear c77
                                      obtain ⟨bq78, hbq78⟩ : ∃ b_ : Bool, b_ = (rdOf false t266 x13_4) := ⟨_, rfl⟩
                                      replace H : (if bq78 = true then (retargetlaw40_RelaxGrows.l0 k4 t248 t262 t266 (wrap64 (x13_4 + 1))) else (some false)) = some r := by rw [← hbq78] at H; exact H
                                      have Nbq78 := Aside0.mk hbq78
                                      clear hbq78
                                      by_cases c79 : bq78 = true
                                      · subst c79
                                        have H1 : (retargetlaw40_RelaxGrows.l0 k4 t248 t262 t266 (wrap64 (x13_4 + 1))) = some r := by rw [if_pos rfl] at H; exact H
                                        clear H
                                        have H := H1
                                        clear H1
                                        have H' := Aside0.mk H
                                        clear H
                                        have p270 : 0 ≤ (x13_4 : Int) := of_decide_eq_true (by first | (with_reducible assumption) | assumption)
                                        have q270 : x13_4 < (t262.length : Int) := of_decide_eq_true (by first | (with_reducible assumption) | assumption)
                                        obtain ⟨ad270, e270, hx270_0⟩ := Kd.at_bool (Kd.R_reads' HO_9.out).2.2 x13_4 p270 q270
                                        (try rw [← Nbq75.out] at hx270_0)
                                        (try rw [← Nbq78.out] at hx270_0)
                                        cases e270
                                        replace p270 := eq_true p270
                                        replace q270 := eq_true q270
                                        have p271 : 0 ≤ (x13_4 : Int) := of_decide_eq_true (by first | (with_reducible assumption) | assumption)
                                        have q271 : x13_4 < (t266.length : Int) := of_decide_eq_true (by first | (with_reducible assumption) | assumption)
                                        obtain ⟨ad271, e271, hx271_0⟩ := Kd.at_bool (Kd.R_reads' HO_11.out).2.2 x13_4 p271 q271
                                        (try rw [← Nbq75.out] at hx271_0)
                                        (try rw [← Nbq78.out] at hx271_0)
                                        cases e271
                                        replace p271 := eq_true p271
                                        replace q271 := eq_true q271
                                        go_wp2
                                        go_roundg k4
                                        case measure => have := HJ4.out; have := HJ35.out; have := HJ58.out; have := HK4.out; omega
                                        case rel => exact ⟨(wrap64 (x13_4 + 1)), (by first | rfl | (simp; done) | (simp [*]; done)), H', ⟨by have := HJ4.out; have := HJ35.out; have := HJ58.out; have := HK4.out; omega⟩, ⟨by (with_reducible repeat (first | apply Kd.R_alloc | apply Kd.R_drewN | apply Kd.R_drew)); exact HO_9.out⟩, ⟨by (with_reducible repeat (first | apply Kd.R_alloc | apply Kd.R_drewN | apply Kd.R_drew)); exact HO_11.out⟩, ⟨by (with_reducible repeat (first | apply Kd.R_alloc | apply Kd.R_drewN | apply Kd.R_drew)); exact HO_257000.out⟩, ⟨by (with_reducible repeat (first | refine blk_drewN ?_ _ | refine blk_drew ?_ | refine blk_alloc ?_ _)); exact BK247.out⟩, ⟨by (with_reducible repeat (first | refine blk_drewN ?_ _ | refine blk_drew ?_ | refine blk_alloc ?_ _)); exact BK256.out⟩, ⟨by repeat (first | (with_reducible first | exact HB.out | apply below_alloc | apply pw_below_drewN | apply below_drew1 | refine below_set ?_ GE247.out | refine below_set ?_ GE256.out) | exact HB.out)⟩⟩
                                      · replace c79 := Bool.eq_false_iff.mpr c79
                                        subst c79
                                        have H1 : (some false) = some r := by rw [if_neg (show ¬ (false = true) by decide)] at H; exact H
                                        clear H
                                        have H := H1
                                        clear H1
                                        obtain rfl := Option.some.inj H
                                        cases hrt_
                                    · rw [if_neg c77] at H
                                      exact absurd H (by simp)
                                  · replace c76 := Bool.eq_false_iff.mpr c76
                                    subst c76
                                    have H1 : (retargetlaw40_RelaxGrows.l0 k4 t248 t262 t266 (wrap64 (x13_4 + 1))) = some r := by rw [if_neg (show ¬ (false = true) by decide)] at H; exact H
                                    clear H
                                    have H := H1
                                    clear H1
                                    have H' := Aside0.mk H
                                    clear H
                                    have p270 : 0 ≤ (x13_4 : Int) := of_decide_eq_true (by first | (with_reducible assumption) | assumption)
                                    have q270 : x13_4 < (t262.length : Int) := of_decide_eq_true (by first | (with_reducible assumption) | assumption)
                                    obtain ⟨ad270, e270, hx270_0⟩ := Kd.at_bool (Kd.R_reads' HO_9.out).2.2 x13_4 p270 q270
                                    (try rw [← Nbq75.out] at hx270_0)
                                    cases e270
                                    replace p270 := eq_true p270
                                    replace q270 := eq_true q270
                                    go_wp2
                                    go_roundg k4
                                    case measure => have := HJ4.out; have := HJ35.out; have := HJ58.out; have := HK4.out; omega
                                    case rel => exact ⟨(wrap64 (x13_4 + 1)), (by first | rfl | (simp; done) | (simp [*]; done)), H', ⟨by have := HJ4.out; have := HJ35.out; have := HJ58.out; have := HK4.out; omega⟩, ⟨by (with_reducible repeat (first | apply Kd.R_alloc | apply Kd.R_drewN | apply Kd.R_drew)); exact HO_9.out⟩, ⟨by (with_reducible repeat (first | apply Kd.R_alloc | apply Kd.R_drewN | apply Kd.R_drew)); exact HO_11.out⟩, ⟨by (with_reducible repeat (first | apply Kd.R_alloc | apply Kd.R_drewN | apply Kd.R_drew)); exact HO_257000.out⟩, ⟨by (with_reducible repeat (first | refine blk_drewN ?_ _ | refine blk_drew ?_ | refine blk_alloc ?_ _)); exact BK247.out⟩, ⟨by (with_reducible repeat (first | refine blk_drewN ?_ _ | refine blk_drew ?_ | refine blk_alloc ?_ _)); exact BK256.out⟩, ⟨by repeat (first | (with_reducible first | exact HB.out | apply below_alloc | apply pw_below_drewN | apply below_drew1 | refine below_set ?_ GE247.out | refine below_set ?_ GE256.out) | exact HB.out)⟩⟩
                                · rw [if_neg c74] at H
                                  exact absurd H (by simp)
                              · rw [if_neg c73] at H
                                have c73b0 : decide (x13_4 < (t262.length : Int)) = false := decide_eq_false c73
                                clear c73
                                obtain rfl := Option.some.inj H
                                go_wp2
                                go_ret
                                exact ⟨by first | rfl | (simp [errW_none, errW_some] <;> rfl) | (simp [*, errW_none, errW_some] <;> rfl), by repeat (first | (with_reducible first | exact HB.out | apply below_alloc | apply pw_below_drewN | apply below_drew1 | refine below_set ?_ GE247.out | refine below_set ?_ GE256.out) | exact HB.out)⟩
                        · rw [if_neg c70] at H
                          have c70b0 : ((t262.length : Int) == (t266.length : Int)) = false := beq_eq_false_iff_ne.mpr c70
                          have c70b1 : ((t262.length : Int) != (t266.length : Int)) = true := bne_iff_ne.mpr c70
                          have c70b2 : (t262.length == t266.length) = false := by first | simpa using c70 | (simp at c70 ⊢; omega)
                          obtain rfl := Option.some.inj H
                          cases hrt_
            · rw [if_neg c33] at H
              exact absurd H (by simp)
          · rw [if_neg c32] at H
            exact absurd H (by simp)
        · rw [if_neg c31] at H
          exact absurd H (by simp)

end Go.Proofs.Ytclmipjoebbeiaa.Q
