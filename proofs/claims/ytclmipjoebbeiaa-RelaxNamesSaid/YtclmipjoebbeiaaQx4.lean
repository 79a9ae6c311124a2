-- Written by wip/tools/given.py (own program over the kit's print.py) out of the translation. Not trusted: Lean checks it.
import Derived.Test.YtclmipjoebbeiaaQx0
import Derived.Test.YtclmipjoebbeiaaQx1
import Derived.Test.YtclmipjoebbeiaaQx3
namespace Go.Proofs.Ytclmipjoebbeiaa.Q
open Go.RowKit Go.Proofs.YtclmipjoebbeiaaW.PrintWords Go.Proofs.YtclmipjoebbeiaaW.PrintLast Go.Proofs.YtclmipjoebbeiaaW.PrintMore
attribute [local go_sem] max2_int min2_int max_two min_two max_three min_three max_four min_four   -- for this text's walks alone
set_option linter.unusedVariables false
set_option linter.unusedSimpArgs false

attribute [local go_sem high] eqA48
/-! ### relax_Check: function 18 -/
mutual
def relax_Check.j0 : Nat → Bool → List (S48) → List Int → Option (Int)
  | 0, _, _, _ => none
  | k + 1, x3, x103000, x103001 => relax_Check.l0 k x3 x103001 (x103001.length : Int) 0 x103000 x103001
def relax_Check.l0 : Nat → Bool → List Int → Int → Int → List (S48) → List Int → Option (Int)
  | 0, _, _, _, _, _, _ => none
  | k + 1, x3, x19, x20, x21, x103000, x103001 => if x21 < x20 then (if 0 ≤ x21 then (if x21 < (x19.length : Int) then (if x3 = true then ((relax_within.f (rd x19 x21) 0 (x103000.length : Int)).bind fun t104 => (relax_Check.l0 k t104 x19 x20 (wrap64 (x21 + 1)) x103000 x103001)) else (relax_Check.l0 k false x19 x20 (wrap64 (x21 + 1)) x103000 x103001)) else (none)) else (none)) else (relax_Check.l1 k x3 x103000 (x103000.length : Int) 0 x103000 x103001)
def relax_Check.l1 : Nat → Bool → List (S48) → Int → Int → List (S48) → List Int → Option (Int)
  | 0, _, _, _, _, _, _ => none
  | k + 1, x3, x35, x36, x37, x103000, x103001 => if x37 < x36 then (if 0 ≤ x37 then (if x37 < (x35.length : Int) then (if x3 = true then ((relax_within.f ((rd_T48 x35 x37).f0) 0 1000).bind fun t107 => (relax_Check.j3 k t107 x35 x36 x37 x103000 x103001 ((rd_T48 x35 x37).f0) ((rd_T48 x35 x37).f1) ((rd_T48 x35 x37).f2) ((rd_T48 x35 x37).f3) ((rd_T48 x35 x37).f4) ((rd_T48 x35 x37).f5) ((rd_T48 x35 x37).f6))) else (relax_Check.j3 k false x35 x36 x37 x103000 x103001 ((rd_T48 x35 x37).f0) ((rd_T48 x35 x37).f1) ((rd_T48 x35 x37).f2) ((rd_T48 x35 x37).f3) ((rd_T48 x35 x37).f4) ((rd_T48 x35 x37).f5) ((rd_T48 x35 x37).f6))) else (none)) else (none)) else (if x3 = true then (some 0) else (some 8))
def relax_Check.j3 : Nat → Bool → List (S48) → Int → Int → List (S48) → List Int → Int → Int → Int → Int → Int → Int → Int → Option (Int)
  | 0, _, _, _, _, _, _, _, _, _, _, _, _, _ => none
  | k + 1, x3, x35, x36, x37, x103000, x103001, x107000, x107001, x107002, x107003, x107004, x107005, x107006 => if x107002 = (-1) then (if x3 = true then (relax_Check.l1 k (x107001 == 0 && (x107002 == (-1) && (x107003 == 0 && (x107004 == 0 && (x107005 == 0 && (x107006 == 0)))))) x35 x36 (wrap64 (x37 + 1)) x103000 x103001) else (relax_Check.l1 k false x35 x36 (wrap64 (x37 + 1)) x103000 x103001)) else (if x3 = true then ((relax_within.f x107002 0 (wrap64 ((x103001.length : Int) - 1))).bind fun t108 => (if t108 = true then ((relax_within.f x107001 x107000 1000).bind fun t109 => (if t109 = true then (if (-16777216) ≤ x107005 then (if x107005 ≤ x107003 then (if x107003 ≤ 0 then (if 0 ≤ x107004 then (if x107004 ≤ x107006 then (relax_Check.l1 k (decide (x107006 ≤ 16777216)) x35 x36 (wrap64 (x37 + 1)) x103000 x103001) else (relax_Check.l1 k false x35 x36 (wrap64 (x37 + 1)) x103000 x103001)) else (relax_Check.l1 k false x35 x36 (wrap64 (x37 + 1)) x103000 x103001)) else (relax_Check.l1 k false x35 x36 (wrap64 (x37 + 1)) x103000 x103001)) else (relax_Check.l1 k false x35 x36 (wrap64 (x37 + 1)) x103000 x103001)) else (relax_Check.l1 k false x35 x36 (wrap64 (x37 + 1)) x103000 x103001)) else (relax_Check.l1 k false x35 x36 (wrap64 (x37 + 1)) x103000 x103001))) else (relax_Check.l1 k false x35 x36 (wrap64 (x37 + 1)) x103000 x103001))) else (relax_Check.l1 k false x35 x36 (wrap64 (x37 + 1)) x103000 x103001))
end
def relax_Check.f (k : Nat) (l0_0 : List (S48)) (l0_1 : List Int) : Option (Int) := if (l0_0.length : Int) ≤ 500 then (relax_Check.j0 k (decide ((l0_1.length : Int) ≤ 500)) l0_0 l0_1) else (relax_Check.j0 k false l0_0 l0_1)
theorem relax_Check.mono_l : ∀ k, (∀ y0 y1 y2, LeO (relax_Check.j0 k y0 y1 y2) (relax_Check.j0 (k + 1) y0 y1 y2)) ∧ (∀ y0 y1 y2 y3 y4 y5, LeO (relax_Check.l0 k y0 y1 y2 y3 y4 y5) (relax_Check.l0 (k + 1) y0 y1 y2 y3 y4 y5)) ∧ (∀ y0 y1 y2 y3 y4 y5, LeO (relax_Check.l1 k y0 y1 y2 y3 y4 y5) (relax_Check.l1 (k + 1) y0 y1 y2 y3 y4 y5)) ∧ (∀ y0 y1 y2 y3 y4 y5 y6 y7 y8 y9 y10 y11 y12, LeO (relax_Check.j3 k y0 y1 y2 y3 y4 y5 y6 y7 y8 y9 y10 y11 y12) (relax_Check.j3 (k + 1) y0 y1 y2 y3 y4 y5 y6 y7 y8 y9 y10 y11 y12))
  | 0 => ⟨fun _ _ _ r h => by simp [relax_Check.j0] at h, fun _ _ _ _ _ _ r h => by simp [relax_Check.l0] at h, fun _ _ _ _ _ _ r h => by simp [relax_Check.l1] at h, fun _ _ _ _ _ _ _ _ _ _ _ _ _ r h => by simp [relax_Check.j3] at h⟩
  | k + 1 => by
    obtain ⟨ih0, ih1, ih2, ih3⟩ := relax_Check.mono_l k
    refine ⟨?_, ?_, ?_, ?_⟩
    · intro y0 y1 y2
      unfold relax_Check.j0
      repeat' first
      | (with_reducible exact ih0 _ _ _)
      | (with_reducible exact ih1 _ _ _ _ _ _)
      | (with_reducible exact ih2 _ _ _ _ _ _)
      | (with_reducible exact ih3 _ _ _ _ _ _ _ _ _ _ _ _ _)
      | (with_reducible exact LeO.refl _)
      | (with_reducible exact LeO.none _)
      | (with_reducible refine LeO.ite ?_ ?_)
      | (with_reducible refine LeO.bind ?_ (fun _ => ?_))
      | exact ih0 _ _ _
      | exact ih1 _ _ _ _ _ _
      | exact ih2 _ _ _ _ _ _
      | exact ih3 _ _ _ _ _ _ _ _ _ _ _ _ _
      | exact LeO.none _
      | refine LeO.ite ?_ ?_
      | refine LeO.bind ?_ (fun _ => ?_)
    · intro y0 y1 y2 y3 y4 y5
      unfold relax_Check.l0
      repeat' first
      | (with_reducible exact ih0 _ _ _)
      | (with_reducible exact ih1 _ _ _ _ _ _)
      | (with_reducible exact ih2 _ _ _ _ _ _)
      | (with_reducible exact ih3 _ _ _ _ _ _ _ _ _ _ _ _ _)
      | (with_reducible exact LeO.refl _)
      | (with_reducible exact LeO.none _)
      | (with_reducible refine LeO.ite ?_ ?_)
      | (with_reducible refine LeO.bind ?_ (fun _ => ?_))
      | exact ih0 _ _ _
      | exact ih1 _ _ _ _ _ _
      | exact ih2 _ _ _ _ _ _
      | exact ih3 _ _ _ _ _ _ _ _ _ _ _ _ _
      | exact LeO.none _
      | refine LeO.ite ?_ ?_
      | refine LeO.bind ?_ (fun _ => ?_)
    · intro y0 y1 y2 y3 y4 y5
      unfold relax_Check.l1
      repeat' first
      | (with_reducible exact ih0 _ _ _)
      | (with_reducible exact ih1 _ _ _ _ _ _)
      | (with_reducible exact ih2 _ _ _ _ _ _)
      | (with_reducible exact ih3 _ _ _ _ _ _ _ _ _ _ _ _ _)
      | (with_reducible exact LeO.refl _)
      | (with_reducible exact LeO.none _)
      | (with_reducible refine LeO.ite ?_ ?_)
      | (with_reducible refine LeO.bind ?_ (fun _ => ?_))
      | exact ih0 _ _ _
      | exact ih1 _ _ _ _ _ _
      | exact ih2 _ _ _ _ _ _
      | exact ih3 _ _ _ _ _ _ _ _ _ _ _ _ _
      | exact LeO.none _
      | refine LeO.ite ?_ ?_
      | refine LeO.bind ?_ (fun _ => ?_)
    · intro y0 y1 y2 y3 y4 y5 y6 y7 y8 y9 y10 y11 y12
      unfold relax_Check.j3
      repeat' first
      | (with_reducible exact ih0 _ _ _)
      | (with_reducible exact ih1 _ _ _ _ _ _)
      | (with_reducible exact ih2 _ _ _ _ _ _)
      | (with_reducible exact ih3 _ _ _ _ _ _ _ _ _ _ _ _ _)
      | (with_reducible exact LeO.refl _)
      | (with_reducible exact LeO.none _)
      | (with_reducible refine LeO.ite ?_ ?_)
      | (with_reducible refine LeO.bind ?_ (fun _ => ?_))
      | exact ih0 _ _ _
      | exact ih1 _ _ _ _ _ _
      | exact ih2 _ _ _ _ _ _
      | exact ih3 _ _ _ _ _ _ _ _ _ _ _ _ _
      | exact LeO.none _
      | refine LeO.ite ?_ ?_
      | refine LeO.bind ?_ (fun _ => ?_)
theorem relax_Check.mono : ∀ a0 a1 k, LeO (relax_Check.f k a0 a1) (relax_Check.f (k + 1) a0 a1) := by
  intro a0 a1 k
  obtain ⟨ih0, ih1, ih2, ih3⟩ := relax_Check.mono_l k
  unfold relax_Check.f
  repeat' first
      | (with_reducible exact ih0 _ _ _)
      | (with_reducible exact ih1 _ _ _ _ _ _)
      | (with_reducible exact ih2 _ _ _ _ _ _)
      | (with_reducible exact ih3 _ _ _ _ _ _ _ _ _ _ _ _ _)
      | (with_reducible exact LeO.refl _)
      | (with_reducible exact LeO.none _)
      | (with_reducible refine LeO.ite ?_ ?_)
      | (with_reducible refine LeO.bind ?_ (fun _ => ?_))
      | exact ih0 _ _ _
      | exact ih1 _ _ _ _ _ _
      | exact ih2 _ _ _ _ _ _
      | exact ih3 _ _ _ _ _ _ _ _ _ _ _ _ _
      | exact LeO.none _
      | refine LeO.ite ?_ ?_
      | refine LeO.bind ?_ (fun _ => ?_)
set_option maxHeartbeats 8000000 in
set_option maxRecDepth 100000 in
theorem relax_Check.calls (k : Nat) (A0_0 : Option Addr) (c0_0 : Nat) (l0_0 : List (S48)) (A0_1 : Option Addr) (c0_1 : Nat) (l0_1 : List Int) (r : Int) (w : World) (hr0_0 : Kd.C k48 w A0_0 l0_0.length l0_0) (hc0_0 : l0_0.length ≤ c0_0) (hr0_1 : Kd.C (Kd.int .i64) w A0_1 l0_1.length l0_1) (hc0_1 : l0_1.length ≤ c0_1) (h : relax_Check.f k l0_0 l0_1 = some r) :
    Calls Try.prog 18 #[.agg #[.slice A0_0 l0_0.length c0_0, .slice A0_1 l0_1.length c0_1]] w fun e w' => e = .returned (.int .i64 r) ∧ Below w.heap.size w w' := by
  have hu25 := Try.underlying25
  have hu48 := Try.underlying48
  have HR0_0 := Aside0.mk hr0_0
  have HC0_0 := Aside0.mk hc0_0
  clear hr0_0 hc0_0
  have HR0_1 := Aside0.mk hr0_1
  have HC0_1 := Aside0.mk hc0_1
  clear hr0_1 hc0_1
  have HB := Aside0.mk (Below.refl w.heap.size w)
  have H : (if (l0_0.length : Int) ≤ 500 then (relax_Check.j0 k (decide ((l0_1.length : Int) ≤ 500)) l0_0 l0_1) else (relax_Check.j0 k false l0_0 l0_1)) = some r := h
  clear h
  have HC2 := Aside0.mk H
  clear H
  go_enter Try.func18, Try.ntmps18
  go_upto_region 1 with (first | ((with_reducible refine gate_dst (N := 1) rfl ?_); (try (refine gate_guard (by rfl) ?_; dsimp only)); refine box_event ?hg (N := 1) ?hd (cs := #[.slice A0_0 l0_0.length c0_0, .slice A0_1 l0_1.length c0_1]) (t := 25) ?hr ?_; (case hd => rfl); (case hg => rfl); (case hr => first | (go_simp; done) | (go_simp; rfl)); intro gb102 hg w3 hbox hb; have n0_ := Aside0.mk (below_step (by repeat (first | (with_reducible first | exact HB.out | apply below_alloc | apply pw_below_drewN | apply below_drew1) | exact HB.out)) hb); have n1_ := Aside0.mk (hbox); have n2_ := Aside0.mk ((by rw [hg]; exact (below_size (by repeat (first | (with_reducible first | exact HB.out | apply below_alloc | apply pw_below_drewN | apply below_drew1) | exact HB.out))) : w.heap.size ≤ gb102)); have n3_ := Aside0.mk ((by rw [hg]; exact (below_size (by repeat (first | (with_reducible first | exact HB.out | apply below_alloc | apply pw_below_drewN | apply below_drew1) | exact HB.out))) : w.heap.size ≤ gb102)); clear HB; have HB := n0_; have BK102 := n1_; have GW102 := n2_; have GE102 := n3_; clear n0_ n1_ n2_ n3_; clear hb hbox hg))
  (try simp only [Act.put, List.setIfInBounds_toArray, List.set_cons_zero, List.set_cons_succ])
  go_cut [3] (fun v3 wc => ∃ (kq : Nat) (x3_1 : Bool), v3 = .bool x3_1 ∧ Aside0 (relax_Check.j0 kq x3_1 l0_0 l0_1 = some r) ∧ Aside0 (kq ≤ k) ∧ Aside0 (wc.heap[gb102]? = some (.cells #[(.slice A0_0 l0_0.length c0_0), (.slice A0_1 l0_1.length c0_1)] 25 (0, 0))) ∧ Aside0 (Below w.heap.size w wc))
  case first =>
    have H := HC2.out
    clear HC2
    by_cases c4 : (l0_0.length : Int) ≤ 500
    · rw [if_pos c4] at H
      have c4b0 : decide ((l0_0.length : Int) ≤ 500) = true := decide_eq_true c4
      have c4b1 : decide (l0_0.length ≤ 500) = true := decide_eq_true (by omega)
      clear c4
      (first | rw [c4b0] | (simp only [i64_w, i32_w]; rw [c4b0]) | skip)
      have H' := Aside0.mk H
      clear H
      have hcz5_0 : w3.cell? ⟨gb102, 0, none⟩ = some (.slice A0_0 l0_0.length c0_0) := (blk_cell BK102.out 0).trans rfl
      have hcz5_1 : w3.cell? ⟨gb102, 1, none⟩ = some (.slice A0_1 l0_1.length c0_1) := (blk_cell BK102.out 1).trans rfl
      have hfz5_0 := blk_frozen BK102.out 0
      have hfz5_1 := blk_frozen BK102.out 1
      go_wp2
      go_meet
      case rel => exact ⟨_, (decide ((l0_1.length : Int) ≤ 500)), (by first | rfl | (simp; done) | (simp [*]; done)), H', ⟨by first | omega | exact Nat.le_refl _⟩, ⟨by (with_reducible repeat (first | refine blk_drewN ?_ _ | refine blk_drew ?_ | refine blk_alloc ?_ _)); exact BK102.out⟩, ⟨by repeat (first | (with_reducible first | exact HB.out | apply below_alloc | apply pw_below_drewN | apply below_drew1 | refine below_set ?_ GE102.out) | exact HB.out)⟩⟩
    · rw [if_neg c4] at H
      have c4b0 : decide ((l0_0.length : Int) ≤ 500) = false := decide_eq_false c4
      have c4b1 : decide (l0_0.length ≤ 500) = false := decide_eq_false (by omega)
      clear c4
      (first | rw [c4b0] | (simp only [i64_w, i32_w]; rw [c4b0]) | skip)
      have H' := Aside0.mk H
      clear H
      have hcz6_0 : w3.cell? ⟨gb102, 0, none⟩ = some (.slice A0_0 l0_0.length c0_0) := (blk_cell BK102.out 0).trans rfl
      have hcz6_1 : w3.cell? ⟨gb102, 1, none⟩ = some (.slice A0_1 l0_1.length c0_1) := (blk_cell BK102.out 1).trans rfl
      have hfz6_0 := blk_frozen BK102.out 0
      have hfz6_1 := blk_frozen BK102.out 1
      go_wp2
      go_meet
      case rel => exact ⟨_, (false), (by first | rfl | (simp; done) | (simp [*]; done)), H', ⟨by first | omega | exact Nat.le_refl _⟩, ⟨by (with_reducible repeat (first | refine blk_drewN ?_ _ | refine blk_drew ?_ | refine blk_alloc ?_ _)); exact BK102.out⟩, ⟨by repeat (first | (with_reducible first | exact HB.out | apply below_alloc | apply pw_below_drewN | apply below_drew1 | refine below_set ?_ GE102.out) | exact HB.out)⟩⟩
  case rest =>
    clear HC2
    try clear c1
    try clear p2
    try clear c4
    try clear c4b0
    try clear c4b1
    try clear hcz5_0
    try clear hcz5_1
    try clear hcz6_0
    try clear hcz6_1
    try clear hfz5_0
    try clear hfz5_1
    try clear hfz6_0
    try clear hfz6_1
    obtain ⟨kq, x3_1, rfl, HA, HJ1, BK102, HB⟩ := hcut
    cases kq with
    | zero => exact absurd HA.out (by simp [relax_Check.j0])
    | succ kj1 =>
      have H := HA.out
      clear HA
      simp only [relax_Check.j0] at H
      have H' := Aside0.mk H
      clear H
      have hcz7_0 : wc.cell? ⟨gb102, 0, none⟩ = some (.slice A0_0 l0_0.length c0_0) := (blk_cell BK102.out 0).trans rfl
      have hcz7_1 : wc.cell? ⟨gb102, 1, none⟩ = some (.slice A0_1 l0_1.length c0_1) := (blk_cell BK102.out 1).trans rfl
      have hfz7_0 := blk_frozen BK102.out 0
      have hfz7_1 := blk_frozen BK102.out 1
      go_wp2
      go_loopg [3, 21] kj1 (fun kq v3 v21 w' => ∃ (x3_2 : Bool) (x21_2 : Int), v3 = .bool x3_2 ∧ v21 = .int .i64 x21_2 ∧ Aside0 (relax_Check.l0 kq x3_2 l0_1 (l0_1.length : Int) x21_2 l0_0 l0_1 = some r) ∧ Aside0 (kq ≤ kj1) ∧ Aside0 (w'.heap[gb102]? = some (.cells #[(.slice A0_0 l0_0.length c0_0), (.slice A0_1 l0_1.length c0_1)] 25 (0, 0))) ∧ Aside0 (Below w.heap.size w w'))
      case atStart => exact ⟨(x3_1), (0), (by first | rfl | (simp; done) | (simp [*]; done)), (by first | rfl | (simp; done) | (simp [*]; done)), H', ⟨Nat.le_refl _⟩, ⟨by (with_reducible repeat (first | refine blk_drewN ?_ _ | refine blk_drew ?_ | refine blk_alloc ?_ _)); exact BK102.out⟩, ⟨by repeat (first | (with_reducible first | exact HB.out | apply below_alloc | apply pw_below_drewN | apply below_drew1 | refine below_set ?_ GE102.out) | exact HB.out)⟩⟩
      case round =>
        clear H'
        try clear c1
        try clear p2
        try clear c4
        try clear c4b0
        try clear c4b1
        try clear hcz5_0
        try clear hcz5_1
        try clear hcz6_0
        try clear hcz6_1
        try clear hcz7_0
        try clear hcz7_1
        try clear hfz5_0
        try clear hfz5_1
        try clear hfz6_0
        try clear hfz6_1
        try clear hfz7_0
        try clear hfz7_1
        try clear p2
        obtain ⟨x3_2, x21_2, rfl, rfl, HA, HK2, BK102, HB⟩ := hrel
        cases gk with
        | zero => exact absurd HA.out (by simp [relax_Check.l0])
        | succ k2 =>
          have H := HA.out
          clear HA
          simp only [relax_Check.l0] at H
          by_cases c8 : x21_2 < (l0_1.length : Int)
          · rw [if_pos c8] at H
            have c8b0 : decide (x21_2 < (l0_1.length : Int)) = true := decide_eq_true c8
            clear c8
            by_cases c9 : 0 ≤ x21_2
            · rw [if_pos c9] at H
              have c9b0 : decide (0 ≤ x21_2) = true := decide_eq_true c9
              clear c9
              by_cases c10 : x21_2 < (l0_1.length : Int)
              · rw [if_pos c10] at H
                have c10b0 : decide (x21_2 < (l0_1.length : Int)) = true := decide_eq_true c10
                clear c10
                by_cases c11 : x3_2 = true
                · subst c11
                  have H1 : ((relax_within.f (rd l0_1 x21_2) 0 (l0_0.length : Int)).bind fun t104 => (relax_Check.l0 k2 t104 l0_1 (l0_1.length : Int) (wrap64 (x21_2 + 1)) l0_0 l0_1)) = some r := by rw [if_pos rfl] at H; exact H
                  clear H
                  have H := H1
                  clear H1
                  replace H := Option.bind_eq_some_iff.mp H
                  obtain ⟨t104, A120, H⟩ := H
                  replace H : (relax_Check.l0 k2 t104 l0_1 (l0_1.length : Int) (wrap64 (x21_2 + 1)) l0_0 l0_1) = some r := H
                  have A12 := Aside0.mk A120
                  clear A120
                  have H' := Aside0.mk H
                  clear H
                  have p103 : 0 ≤ (x21_2 : Int) := of_decide_eq_true (by first | (with_reducible assumption) | assumption)
                  have q103 : x21_2 < (l0_1.length : Int) := of_decide_eq_true (by first | (with_reducible assumption) | assumption)
                  obtain ⟨ad103, e103, hx103_0⟩ := Kd.at_int HR0_1.out x21_2 p103 q103
                  cases e103
                  replace hx103_0 := (HB.out.cell (World.block_lt_of_cell? w _ hx103_0)).trans hx103_0
                  replace p103 := eq_true p103
                  replace q103 := eq_true q103
                  have hcz13_0 : wr.cell? ⟨gb102, 0, none⟩ = some (.slice A0_0 l0_0.length c0_0) := (blk_cell BK102.out 0).trans rfl
                  have hcz13_1 : wr.cell? ⟨gb102, 1, none⟩ = some (.slice (some ad103) l0_1.length c0_1) := (blk_cell BK102.out 1).trans rfl
                  have hfz13_0 := blk_frozen BK102.out 0
                  have hfz13_1 := blk_frozen BK102.out 1
                  go_wp2_with (first | (go_at_call 33; (with_reducible refine (relax_within.calls (rd l0_1 x21_2) 0 (l0_0.length : Int) t104 _ A12.out).mono ?_); rintro e w' ⟨rfl, ⟨nd, rfl⟩⟩))
                  go_roundg k2
                  case measure => have := HJ1.out; have := HK2.out; omega
                  case rel => exact ⟨(t104), (wrap64 (x21_2 + 1)), (by first | rfl | (simp; done) | (simp [*]; done)), (by first | rfl | (simp; done) | (simp [*]; done)), H', ⟨by have := HJ1.out; have := HK2.out; omega⟩, ⟨by (with_reducible repeat (first | refine blk_drewN ?_ _ | refine blk_drew ?_ | refine blk_alloc ?_ _)); exact BK102.out⟩, ⟨by repeat (first | (with_reducible first | exact HB.out | apply below_alloc | apply pw_below_drewN | apply below_drew1 | refine below_set ?_ GE102.out) | exact HB.out)⟩⟩
                · replace c11 := Bool.eq_false_iff.mpr c11
                  subst c11
                  have H1 : (relax_Check.l0 k2 false l0_1 (l0_1.length : Int) (wrap64 (x21_2 + 1)) l0_0 l0_1) = some r := by rw [if_neg (show ¬ (false = true) by decide)] at H; exact H
                  clear H
                  have H := H1
                  clear H1
                  have H' := Aside0.mk H
                  clear H
                  have p103 : 0 ≤ (x21_2 : Int) := of_decide_eq_true (by first | (with_reducible assumption) | assumption)
                  have q103 : x21_2 < (l0_1.length : Int) := of_decide_eq_true (by first | (with_reducible assumption) | assumption)
                  obtain ⟨ad103, e103, hx103_0⟩ := Kd.at_int HR0_1.out x21_2 p103 q103
                  cases e103
                  replace hx103_0 := (HB.out.cell (World.block_lt_of_cell? w _ hx103_0)).trans hx103_0
                  replace p103 := eq_true p103
                  replace q103 := eq_true q103
                  go_wp2
                  go_roundg k2
                  case measure => have := HJ1.out; have := HK2.out; omega
                  case rel => exact ⟨(false), (wrap64 (x21_2 + 1)), (by first | rfl | (simp; done) | (simp [*]; done)), (by first | rfl | (simp; done) | (simp [*]; done)), H', ⟨by have := HJ1.out; have := HK2.out; omega⟩, ⟨by (with_reducible repeat (first | refine blk_drewN ?_ _ | refine blk_drew ?_ | refine blk_alloc ?_ _)); exact BK102.out⟩, ⟨by repeat (first | (with_reducible first | exact HB.out | apply below_alloc | apply pw_below_drewN | apply below_drew1 | refine below_set ?_ GE102.out) | exact HB.out)⟩⟩
              · rw [if_neg c10] at H
                exact absurd H (by simp)
            · rw [if_neg c9] at H
              exact absurd H (by simp)
          · rw [if_neg c8] at H
            have c8b0 : decide (x21_2 < (l0_1.length : Int)) = false := decide_eq_false c8
            clear c8
            have H' := Aside0.mk H
            clear H
            have hcz14_0 : wr.cell? ⟨gb102, 0, none⟩ = some (.slice A0_0 l0_0.length c0_0) := (blk_cell BK102.out 0).trans rfl
            have hcz14_1 : wr.cell? ⟨gb102, 1, none⟩ = some (.slice A0_1 l0_1.length c0_1) := (blk_cell BK102.out 1).trans rfl
            have hfz14_0 := blk_frozen BK102.out 0
            have hfz14_1 := blk_frozen BK102.out 1
            go_wp2
            go_loopg [3, 37] k2 (fun kq v3 v37 w' => ∃ (x3_3 : Bool) (x37_3 : Int), v3 = .bool x3_3 ∧ v37 = .int .i64 x37_3 ∧ Aside0 (relax_Check.l1 kq x3_3 l0_0 (l0_0.length : Int) x37_3 l0_0 l0_1 = some r) ∧ Aside0 (kq ≤ k2) ∧ Aside0 (w'.heap[gb102]? = some (.cells #[(.slice A0_0 l0_0.length c0_0), (.slice A0_1 l0_1.length c0_1)] 25 (0, 0))) ∧ Aside0 (Below w.heap.size w w'))
            case atStart => exact ⟨(x3_2), (0), (by first | rfl | (simp; done) | (simp [*]; done)), (by first | rfl | (simp; done) | (simp [*]; done)), H', ⟨Nat.le_refl _⟩, ⟨by (with_reducible repeat (first | refine blk_drewN ?_ _ | refine blk_drew ?_ | refine blk_alloc ?_ _)); exact BK102.out⟩, ⟨by repeat (first | (with_reducible first | exact HB.out | apply below_alloc | apply pw_below_drewN | apply below_drew1 | refine below_set ?_ GE102.out) | exact HB.out)⟩⟩
            case round =>
              clear H'
              try clear c1
              try clear p1
              try clear q1
              try clear hx1
              try clear p2
              try clear c4
              try clear c4b0
              try clear c4b1
              try clear p6
              try clear c8
              try clear c8b0
              try clear c9
              try clear c9b0
              try clear c10
              try clear c10b0
              try clear p10
              try clear q10
              try clear hx10
              try clear c11
              try clear hcz13_0
              try clear hcz13_1
              try clear hcz14_0
              try clear hcz14_1
              try clear hcz5_0
              try clear hcz5_1
              try clear hcz6_0
              try clear hcz6_1
              try clear hcz7_0
              try clear hcz7_1
              try clear hfz13_0
              try clear hfz13_1
              try clear hfz14_0
              try clear hfz14_1
              try clear hfz5_0
              try clear hfz5_1
              try clear hfz6_0
              try clear hfz6_1
              try clear hfz7_0
              try clear hfz7_1
              try clear hx103_0
              try clear p103
              try clear p2
              try clear q103
              obtain ⟨x3_3, x37_3, rfl, rfl, HA, HK3, BK102, HB⟩ := hrel
              cases gk with
              | zero => exact absurd HA.out (by simp [relax_Check.l1])
              | succ k3 =>
                have H := HA.out
                clear HA
                simp only [relax_Check.l1] at H
                by_cases c15 : x37_3 < (l0_0.length : Int)
                · rw [if_pos c15] at H
                  have c15b0 : decide (x37_3 < (l0_0.length : Int)) = true := decide_eq_true c15
                  clear c15
                  by_cases c16 : 0 ≤ x37_3
                  · rw [if_pos c16] at H
                    have c16b0 : decide (0 ≤ x37_3) = true := decide_eq_true c16
                    clear c16
                    by_cases c17 : x37_3 < (l0_0.length : Int)
                    · rw [if_pos c17] at H
                      have c17b0 : decide (x37_3 < (l0_0.length : Int)) = true := decide_eq_true c17
                      clear c17
                      have HC18 := Aside0.mk H
                      clear H
                      have p105 : 0 ≤ (x37_3 : Int) := of_decide_eq_true (by first | (with_reducible assumption) | assumption)
                      have q105 : x37_3 < (l0_0.length : Int) := of_decide_eq_true (by first | (with_reducible assumption) | assumption)
                      obtain ⟨ad105, e105, hx105_0, hx105_1, hx105_2, hx105_3, hx105_4, hx105_5, hx105_6⟩ := at_T48 HR0_0.out x37_3 p105 q105
                      cases e105
                      replace hx105_0 := (HB.out.cell (World.block_lt_of_cell? w _ hx105_0)).trans hx105_0
                      replace hx105_1 := (HB.out.cell (World.block_lt_of_cell? w _ hx105_1)).trans hx105_1
                      replace hx105_2 := (HB.out.cell (World.block_lt_of_cell? w _ hx105_2)).trans hx105_2
                      replace hx105_3 := (HB.out.cell (World.block_lt_of_cell? w _ hx105_3)).trans hx105_3
                      replace hx105_4 := (HB.out.cell (World.block_lt_of_cell? w _ hx105_4)).trans hx105_4
                      replace hx105_5 := (HB.out.cell (World.block_lt_of_cell? w _ hx105_5)).trans hx105_5
                      replace hx105_6 := (HB.out.cell (World.block_lt_of_cell? w _ hx105_6)).trans hx105_6
                      replace p105 := eq_true p105
                      replace q105 := eq_true q105
                      go_upto_region 10 with (first | ((with_reducible refine gate_dst (N := 7) rfl ?_); (try (refine gate_guard (by rfl) ?_; dsimp only)); refine box_event ?hg (N := 7) ?hd (cs := #[.int .i64 0, .int .i64 0, .int .i64 0, .int .i64 0, .int .i64 0, .int .i64 0, .int .i64 0]) (t := 48) ?hr ?_; (case hd => rfl); (case hg => rfl); (case hr => first | (go_simp; done) | (go_simp; rfl)); intro gb106 hg w19 hbox hb; have n0_ := Aside0.mk (blk_below (g := gb102) (o := .cells #[.slice (some ad105) l0_0.length c0_0, .slice A0_1 l0_1.length c0_1] 25 (0, 0)) (by (with_reducible repeat (first | refine blk_drewN ?_ _ | refine blk_drew ?_ | refine blk_alloc ?_ _)); exact BK102.out) hb); have n1_ := Aside0.mk (below_step (by repeat (first | (with_reducible first | exact HB.out | apply below_alloc | apply pw_below_drewN | apply below_drew1 | refine below_set ?_ GE102.out) | exact HB.out)) hb); have n2_ := Aside0.mk (hbox); have n3_ := Aside0.mk ((by rw [hg]; exact (below_size (by repeat (first | (with_reducible first | exact HB.out | apply below_alloc | apply pw_below_drewN | apply below_drew1 | refine below_set ?_ GE102.out) | exact HB.out))) : w.heap.size ≤ gb106)); have n4_ := Aside0.mk ((by rw [hg]; exact (below_size (by repeat (first | (with_reducible first | exact HB.out | apply below_alloc | apply pw_below_drewN | apply below_drew1 | refine below_set ?_ GE102.out) | exact HB.out))) : w.heap.size ≤ gb106)); have n5_ := Aside0.mk ((by rw [hg]; exact Nat.ne_of_lt (blk_lt (g := gb102) (o := .cells #[.slice (some ad105) l0_0.length c0_0, .slice A0_1 l0_1.length c0_1] 25 (0, 0)) (by (with_reducible repeat (first | refine blk_drewN ?_ _ | refine blk_drew ?_ | refine blk_alloc ?_ _)); exact BK102.out)) : gb102 ≠ gb106)); have n6_ := Aside0.mk ((by rw [hg]; exact Nat.ne_of_gt (blk_lt (g := gb102) (o := .cells #[.slice (some ad105) l0_0.length c0_0, .slice A0_1 l0_1.length c0_1] 25 (0, 0)) (by (with_reducible repeat (first | refine blk_drewN ?_ _ | refine blk_drew ?_ | refine blk_alloc ?_ _)); exact BK102.out)) : gb106 ≠ gb102)); clear BK102; clear HB; have BK102 := n0_; have HB := n1_; have BK106 := n2_; have GW106 := n3_; have GE106 := n4_; have NB102_106 := n5_; have NB106_102 := n6_; clear n0_ n1_ n2_ n3_ n4_ n5_ n6_; clear hb hbox hg; have hnb20 := NB106_102.out; have hnc20 := NB102_106.out; have hcz21_0 : w19.cell? ⟨gb106, 0, none⟩ = some (.int .i64 0) := (blk_cell BK106.out 0).trans rfl; have hcz21_1 : w19.cell? ⟨gb106, 1, none⟩ = some (.int .i64 0) := (blk_cell BK106.out 1).trans rfl; have hcz21_2 : w19.cell? ⟨gb106, 2, none⟩ = some (.int .i64 0) := (blk_cell BK106.out 2).trans rfl; have hcz21_3 : w19.cell? ⟨gb106, 3, none⟩ = some (.int .i64 0) := (blk_cell BK106.out 3).trans rfl; have hcz21_4 : w19.cell? ⟨gb106, 4, none⟩ = some (.int .i64 0) := (blk_cell BK106.out 4).trans rfl; have hcz21_5 : w19.cell? ⟨gb106, 5, none⟩ = some (.int .i64 0) := (blk_cell BK106.out 5).trans rfl; have hcz21_6 : w19.cell? ⟨gb106, 6, none⟩ = some (.int .i64 0) := (blk_cell BK106.out 6).trans rfl; have hfz21_0 := blk_frozen BK106.out 0; have hfz21_1 := blk_frozen BK106.out 1; have hfz21_2 := blk_frozen BK106.out 2; have hfz21_3 := blk_frozen BK106.out 3; have hfz21_4 := blk_frozen BK106.out 4; have hfz21_5 := blk_frozen BK106.out 5; have hfz21_6 := blk_frozen BK106.out 6))
                      (try simp only [Act.put, List.setIfInBounds_toArray, List.set_cons_zero, List.set_cons_succ])
                      go_cut [3] (fun v3 wc => ∃ (kq : Nat) (x3_17 : Bool), v3 = .bool x3_17 ∧ Aside0 (relax_Check.j3 kq x3_17 l0_0 (l0_0.length : Int) x37_3 l0_0 l0_1 ((rd_T48 l0_0 x37_3).f0) ((rd_T48 l0_0 x37_3).f1) ((rd_T48 l0_0 x37_3).f2) ((rd_T48 l0_0 x37_3).f3) ((rd_T48 l0_0 x37_3).f4) ((rd_T48 l0_0 x37_3).f5) ((rd_T48 l0_0 x37_3).f6) = some r) ∧ Aside0 (kq ≤ k3) ∧ Aside0 (wc.heap[gb102]? = some (.cells #[(.slice (some ad105) l0_0.length c0_0), (.slice A0_1 l0_1.length c0_1)] 25 (0, 0))) ∧ Aside0 (wc.heap[gb106]? = some (.cells #[.int .i64 ((rd_T48 l0_0 x37_3).f0), .int .i64 ((rd_T48 l0_0 x37_3).f1), .int .i64 ((rd_T48 l0_0 x37_3).f2), .int .i64 ((rd_T48 l0_0 x37_3).f3), .int .i64 ((rd_T48 l0_0 x37_3).f4), .int .i64 ((rd_T48 l0_0 x37_3).f5), .int .i64 ((rd_T48 l0_0 x37_3).f6)] 48 (0, 0))) ∧ Aside0 (Below w.heap.size w wc))
                      case first =>
                        have H := HC18.out
                        clear HC18
                        by_cases c22 : x3_3 = true
                        · subst c22
                          have H1 : ((relax_within.f ((rd_T48 l0_0 x37_3).f0) 0 1000).bind fun t107 => (relax_Check.j3 k3 t107 l0_0 (l0_0.length : Int) x37_3 l0_0 l0_1 ((rd_T48 l0_0 x37_3).f0) ((rd_T48 l0_0 x37_3).f1) ((rd_T48 l0_0 x37_3).f2) ((rd_T48 l0_0 x37_3).f3) ((rd_T48 l0_0 x37_3).f4) ((rd_T48 l0_0 x37_3).f5) ((rd_T48 l0_0 x37_3).f6))) = some r := by rw [if_pos rfl] at H; exact H
                          clear H
                          have H := H1
                          clear H1
                          replace H := Option.bind_eq_some_iff.mp H
                          obtain ⟨t107, A230, H⟩ := H
                          replace H : (relax_Check.j3 k3 t107 l0_0 (l0_0.length : Int) x37_3 l0_0 l0_1 ((rd_T48 l0_0 x37_3).f0) ((rd_T48 l0_0 x37_3).f1) ((rd_T48 l0_0 x37_3).f2) ((rd_T48 l0_0 x37_3).f3) ((rd_T48 l0_0 x37_3).f4) ((rd_T48 l0_0 x37_3).f5) ((rd_T48 l0_0 x37_3).f6)) = some r := H
                          have A23 := Aside0.mk A230
                          clear A230
                          have H' := Aside0.mk H
                          clear H
                          have hnb24 := NB106_102.out
                          have hnc24 := NB102_106.out
                          have hcz25_0 : w19.cell? ⟨gb106, 0, none⟩ = some (.int .i64 0) := (blk_cell BK106.out 0).trans rfl
                          have hcz25_1 : w19.cell? ⟨gb106, 1, none⟩ = some (.int .i64 0) := (blk_cell BK106.out 1).trans rfl
                          have hcz25_2 : w19.cell? ⟨gb106, 2, none⟩ = some (.int .i64 0) := (blk_cell BK106.out 2).trans rfl
                          have hcz25_3 : w19.cell? ⟨gb106, 3, none⟩ = some (.int .i64 0) := (blk_cell BK106.out 3).trans rfl
                          have hcz25_4 : w19.cell? ⟨gb106, 4, none⟩ = some (.int .i64 0) := (blk_cell BK106.out 4).trans rfl
                          have hcz25_5 : w19.cell? ⟨gb106, 5, none⟩ = some (.int .i64 0) := (blk_cell BK106.out 5).trans rfl
                          have hcz25_6 : w19.cell? ⟨gb106, 6, none⟩ = some (.int .i64 0) := (blk_cell BK106.out 6).trans rfl
                          have hfz25_0 := blk_frozen BK106.out 0
                          have hfz25_1 := blk_frozen BK106.out 1
                          have hfz25_2 := blk_frozen BK106.out 2
                          have hfz25_3 := blk_frozen BK106.out 3
                          have hfz25_4 := blk_frozen BK106.out 4
                          have hfz25_5 := blk_frozen BK106.out 5
                          have hfz25_6 := blk_frozen BK106.out 6
                          go_wp2_with (first | (go_at_call 33; (with_reducible refine (relax_within.calls ((rd_T48 l0_0 x37_3).f0) 0 1000 t107 _ A23.out).mono ?_); rintro e w' ⟨rfl, ⟨nd, rfl⟩⟩))
                          go_meet
                          case rel => exact ⟨_, (t107), (by first | rfl | (simp; done) | (simp [*]; done)), H', ⟨by have := HJ1.out; have := HK2.out; have := HK3.out; first | omega | exact Nat.le_refl _⟩, ⟨by (with_reducible repeat (first | refine blk_drewN ?_ _ | refine blk_drew ?_ | refine blk_alloc ?_ _)); refine blk_far ?_ NB102_106.out _; (with_reducible repeat (first | refine blk_drewN ?_ _ | refine blk_drew ?_ | refine blk_alloc ?_ _)); refine blk_far ?_ NB102_106.out _; (with_reducible repeat (first | refine blk_drewN ?_ _ | refine blk_drew ?_ | refine blk_alloc ?_ _)); refine blk_far ?_ NB102_106.out _; (with_reducible repeat (first | refine blk_drewN ?_ _ | refine blk_drew ?_ | refine blk_alloc ?_ _)); refine blk_far ?_ NB102_106.out _; (with_reducible repeat (first | refine blk_drewN ?_ _ | refine blk_drew ?_ | refine blk_alloc ?_ _)); refine blk_far ?_ NB102_106.out _; (with_reducible repeat (first | refine blk_drewN ?_ _ | refine blk_drew ?_ | refine blk_alloc ?_ _)); refine blk_far ?_ NB102_106.out _; (with_reducible repeat (first | refine blk_drewN ?_ _ | refine blk_drew ?_ | refine blk_alloc ?_ _)); refine blk_far ?_ NB102_106.out _; (with_reducible repeat (first | refine blk_drewN ?_ _ | refine blk_drew ?_ | refine blk_alloc ?_ _)); exact BK102.out⟩, ⟨by (with_reducible repeat (first | refine blk_drewN ?_ _ | refine blk_drew ?_ | refine blk_alloc ?_ _)); refine blk_put (cs := #[.int .i64 ((rd_T48 l0_0 x37_3).f0), .int .i64 ((rd_T48 l0_0 x37_3).f1), .int .i64 ((rd_T48 l0_0 x37_3).f2), .int .i64 ((rd_T48 l0_0 x37_3).f3), .int .i64 ((rd_T48 l0_0 x37_3).f4), .int .i64 ((rd_T48 l0_0 x37_3).f5), .int .i64 0]) ?_ 6 _ rfl; (with_reducible repeat (first | refine blk_drewN ?_ _ | refine blk_drew ?_ | refine blk_alloc ?_ _)); refine blk_put (cs := #[.int .i64 ((rd_T48 l0_0 x37_3).f0), .int .i64 ((rd_T48 l0_0 x37_3).f1), .int .i64 ((rd_T48 l0_0 x37_3).f2), .int .i64 ((rd_T48 l0_0 x37_3).f3), .int .i64 ((rd_T48 l0_0 x37_3).f4), .int .i64 0, .int .i64 0]) ?_ 5 _ rfl; (with_reducible repeat (first | refine blk_drewN ?_ _ | refine blk_drew ?_ | refine blk_alloc ?_ _)); refine blk_put (cs := #[.int .i64 ((rd_T48 l0_0 x37_3).f0), .int .i64 ((rd_T48 l0_0 x37_3).f1), .int .i64 ((rd_T48 l0_0 x37_3).f2), .int .i64 ((rd_T48 l0_0 x37_3).f3), .int .i64 0, .int .i64 0, .int .i64 0]) ?_ 4 _ rfl; (with_reducible repeat (first | refine blk_drewN ?_ _ | refine blk_drew ?_ | refine blk_alloc ?_ _)); refine blk_put (cs := #[.int .i64 ((rd_T48 l0_0 x37_3).f0), .int .i64 ((rd_T48 l0_0 x37_3).f1), .int .i64 ((rd_T48 l0_0 x37_3).f2), .int .i64 0, .int .i64 0, .int .i64 0, .int .i64 0]) ?_ 3 _ rfl; (with_reducible repeat (first | refine blk_drewN ?_ _ | refine blk_drew ?_ | refine blk_alloc ?_ _)); refine blk_put (cs := #[.int .i64 ((rd_T48 l0_0 x37_3).f0), .int .i64 ((rd_T48 l0_0 x37_3).f1), .int .i64 0, .int .i64 0, .int .i64 0, .int .i64 0, .int .i64 0]) ?_ 2 _ rfl; (with_reducible repeat (first | refine blk_drewN ?_ _ | refine blk_drew ?_ | refine blk_alloc ?_ _)); refine blk_put (cs := #[.int .i64 ((rd_T48 l0_0 x37_3).f0), .int .i64 0, .int .i64 0, .int .i64 0, .int .i64 0, .int .i64 0, .int .i64 0]) ?_ 1 _ rfl; (with_reducible repeat (first | refine blk_drewN ?_ _ | refine blk_drew ?_ | refine blk_alloc ?_ _)); refine blk_put (cs := #[.int .i64 0, .int .i64 0, .int .i64 0, .int .i64 0, .int .i64 0, .int .i64 0, .int .i64 0]) ?_ 0 _ rfl; (with_reducible repeat (first | refine blk_drewN ?_ _ | refine blk_drew ?_ | refine blk_alloc ?_ _)); exact BK106.out⟩, ⟨by repeat (first | (with_reducible first | exact HB.out | apply below_alloc | apply pw_below_drewN | apply below_drew1 | refine below_set ?_ GE102.out | refine below_set ?_ GE106.out) | exact HB.out)⟩⟩
                        · replace c22 := Bool.eq_false_iff.mpr c22
                          subst c22
                          have H1 : (relax_Check.j3 k3 false l0_0 (l0_0.length : Int) x37_3 l0_0 l0_1 ((rd_T48 l0_0 x37_3).f0) ((rd_T48 l0_0 x37_3).f1) ((rd_T48 l0_0 x37_3).f2) ((rd_T48 l0_0 x37_3).f3) ((rd_T48 l0_0 x37_3).f4) ((rd_T48 l0_0 x37_3).f5) ((rd_T48 l0_0 x37_3).f6)) = some r := by rw [if_neg (show ¬ (false = true) by decide)] at H; exact H
                          clear H
                          have H := H1
                          clear H1
                          have H' := Aside0.mk H
                          clear H
                          go_wp2
                          go_meet
                          case rel => exact ⟨_, (false), (by first | rfl | (simp; done) | (simp [*]; done)), H', ⟨by have := HJ1.out; have := HK2.out; have := HK3.out; first | omega | exact Nat.le_refl _⟩, ⟨by (with_reducible repeat (first | refine blk_drewN ?_ _ | refine blk_drew ?_ | refine blk_alloc ?_ _)); refine blk_far ?_ NB102_106.out _; (with_reducible repeat (first | refine blk_drewN ?_ _ | refine blk_drew ?_ | refine blk_alloc ?_ _)); refine blk_far ?_ NB102_106.out _; (with_reducible repeat (first | refine blk_drewN ?_ _ | refine blk_drew ?_ | refine blk_alloc ?_ _)); refine blk_far ?_ NB102_106.out _; (with_reducible repeat (first | refine blk_drewN ?_ _ | refine blk_drew ?_ | refine blk_alloc ?_ _)); refine blk_far ?_ NB102_106.out _; (with_reducible repeat (first | refine blk_drewN ?_ _ | refine blk_drew ?_ | refine blk_alloc ?_ _)); refine blk_far ?_ NB102_106.out _; (with_reducible repeat (first | refine blk_drewN ?_ _ | refine blk_drew ?_ | refine blk_alloc ?_ _)); refine blk_far ?_ NB102_106.out _; (with_reducible repeat (first | refine blk_drewN ?_ _ | refine blk_drew ?_ | refine blk_alloc ?_ _)); refine blk_far ?_ NB102_106.out _; (with_reducible repeat (first | refine blk_drewN ?_ _ | refine blk_drew ?_ | refine blk_alloc ?_ _)); exact BK102.out⟩, ⟨by (with_reducible repeat (first | refine blk_drewN ?_ _ | refine blk_drew ?_ | refine blk_alloc ?_ _)); refine blk_put (cs := #[.int .i64 ((rd_T48 l0_0 x37_3).f0), .int .i64 ((rd_T48 l0_0 x37_3).f1), .int .i64 ((rd_T48 l0_0 x37_3).f2), .int .i64 ((rd_T48 l0_0 x37_3).f3), .int .i64 ((rd_T48 l0_0 x37_3).f4), .int .i64 ((rd_T48 l0_0 x37_3).f5), .int .i64 0]) ?_ 6 _ rfl; (with_reducible repeat (first | refine blk_drewN ?_ _ | refine blk_drew ?_ | refine blk_alloc ?_ _)); refine blk_put (cs := #[.int .i64 ((rd_T48 l0_0 x37_3).f0), .int .i64 ((rd_T48 l0_0 x37_3).f1), .int .i64 ((rd_T48 l0_0 x37_3).f2), .int .i64 ((rd_T48 l0_0 x37_3).f3), .int .i64 ((rd_T48 l0_0 x37_3).f4), .int .i64 0, .int .i64 0]) ?_ 5 _ rfl; (with_reducible repeat (first | refine blk_drewN ?_ _ | refine blk_drew ?_ | refine blk_alloc ?_ _)); refine blk_put (cs := #[.int .i64 ((rd_T48 l0_0 x37_3).f0), .int .i64 ((rd_T48 l0_0 x37_3).f1), .int .i64 ((rd_T48 l0_0 x37_3).f2), .int .i64 ((rd_T48 l0_0 x37_3).f3), .int .i64 0, .int .i64 0, .int .i64 0]) ?_ 4 _ rfl; (with_reducible repeat (first | refine blk_drewN ?_ _ | refine blk_drew ?_ | refine blk_alloc ?_ _)); refine blk_put (cs := #[.int .i64 ((rd_T48 l0_0 x37_3).f0), .int .i64 ((rd_T48 l0_0 x37_3).f1), .int .i64 ((rd_T48 l0_0 x37_3).f2), .int .i64 0, .int .i64 0, .int .i64 0, .int .i64 0]) ?_ 3 _ rfl; (with_reducible repeat (first | refine blk_drewN ?_ _ | refine blk_drew ?_ | refine blk_alloc ?_ _)); refine blk_put (cs := #[.int .i64 ((rd_T48 l0_0 x37_3).f0), .int .i64 ((rd_T48 l0_0 x37_3).f1), .int .i64 0, .int .i64 0, .int .i64 0, .int .i64 0, .int .i64 0]) ?_ 2 _ rfl; (with_reducible repeat (first | refine blk_drewN ?_ _ | refine blk_drew ?_ | refine blk_alloc ?_ _)); refine blk_put (cs := #[.int .i64 ((rd_T48 l0_0 x37_3).f0), .int .i64 0, .int .i64 0, .int .i64 0, .int .i64 0, .int .i64 0, .int .i64 0]) ?_ 1 _ rfl; (with_reducible repeat (first | refine blk_drewN ?_ _ | refine blk_drew ?_ | refine blk_alloc ?_ _)); refine blk_put (cs := #[.int .i64 0, .int .i64 0, .int .i64 0, .int .i64 0, .int .i64 0, .int .i64 0, .int .i64 0]) ?_ 0 _ rfl; (with_reducible repeat (first | refine blk_drewN ?_ _ | refine blk_drew ?_ | refine blk_alloc ?_ _)); exact BK106.out⟩, ⟨by repeat (first | (with_reducible first | exact HB.out | apply below_alloc | apply pw_below_drewN | apply below_drew1 | refine below_set ?_ GE102.out | refine below_set ?_ GE106.out) | exact HB.out)⟩⟩
                      case rest =>
                        clear HC18
                        try clear c1
                        try clear p1
                        try clear q1
                        try clear hx1
                        try clear c2
                        try clear p2
                        try clear c4
                        try clear c4b0
                        try clear c4b1
                        try clear p6
                        try clear c8
                        try clear c8b0
                        try clear c9
                        try clear c9b0
                        try clear c10
                        try clear c10b0
                        try clear p10
                        try clear q10
                        try clear hx10
                        try clear c11
                        try clear c15
                        try clear c15b0
                        try clear c16
                        try clear c16b0
                        try clear c17
                        try clear c17b0
                        try clear c18
                        try clear c20
                        try clear c22
                        try clear c24
                        try clear hcz13_0
                        try clear hcz13_1
                        try clear hcz14_0
                        try clear hcz14_1
                        try clear hcz21_0
                        try clear hcz21_1
                        try clear hcz21_2
                        try clear hcz21_3
                        try clear hcz21_4
                        try clear hcz21_5
                        try clear hcz21_6
                        try clear hcz25_0
                        try clear hcz25_1
                        try clear hcz25_2
                        try clear hcz25_3
                        try clear hcz25_4
                        try clear hcz25_5
                        try clear hcz25_6
                        try clear hcz5_0
                        try clear hcz5_1
                        try clear hcz6_0
                        try clear hcz6_1
                        try clear hcz7_0
                        try clear hcz7_1
                        try clear hfz13_0
                        try clear hfz13_1
                        try clear hfz14_0
                        try clear hfz14_1
                        try clear hfz21_0
                        try clear hfz21_1
                        try clear hfz21_2
                        try clear hfz21_3
                        try clear hfz21_4
                        try clear hfz21_5
                        try clear hfz21_6
                        try clear hfz25_0
                        try clear hfz25_1
                        try clear hfz25_2
                        try clear hfz25_3
                        try clear hfz25_4
                        try clear hfz25_5
                        try clear hfz25_6
                        try clear hfz5_0
                        try clear hfz5_1
                        try clear hfz6_0
                        try clear hfz6_1
                        try clear hfz7_0
                        try clear hfz7_1
                        try clear hx103_0
                        try clear hx105_0
                        try clear hx105_1
                        try clear hx105_2
                        try clear hx105_3
                        try clear hx105_4
                        try clear hx105_5
                        try clear hx105_6
                        try clear p1
                        try clear p10
                        try clear p103
                        try clear p105
                        try clear p2
                        try clear p6
                        try clear q1
                        try clear q10
                        try clear q103
                        try clear q105
                        obtain ⟨kq, x3_17, rfl, HA, HJ17, BK102, BK106, HB⟩ := hcut
                        cases kq with
                        | zero => exact absurd HA.out (by simp [relax_Check.j3])
                        | succ kj17 =>
                          have H := HA.out
                          clear HA
                          simp only [relax_Check.j3] at H
                          by_cases c26 : ((rd_T48 l0_0 x37_3).f2) = (-1)
                          · rw [if_pos c26] at H
                            have c26b0 : (((rd_T48 l0_0 x37_3).f2) == (-1)) = true := beq_iff_eq.mpr c26
                            have c26b1 : (((rd_T48 l0_0 x37_3).f2) != (-1)) = false := bne_eq_false_iff_eq.mpr c26
                            clear c26
                            by_cases c27 : x3_17 = true
                            · subst c27
                              have H1 : (relax_Check.l1 kj17 (((rd_T48 l0_0 x37_3).f1) == 0 && (((rd_T48 l0_0 x37_3).f2) == (-1) && (((rd_T48 l0_0 x37_3).f3) == 0 && (((rd_T48 l0_0 x37_3).f4) == 0 && (((rd_T48 l0_0 x37_3).f5) == 0 && (((rd_T48 l0_0 x37_3).f6) == 0)))))) l0_0 (l0_0.length : Int) (wrap64 (x37_3 + 1)) l0_0 l0_1) = some r := by rw [if_pos rfl] at H; exact H
                              clear H
                              have H := H1
                              clear H1
                              have H' := Aside0.mk H
                              clear H
                              have hnb28 := NB106_102.out
                              have hnc28 := NB102_106.out
                              have hcz29_0 : wc.cell? ⟨gb106, 0, none⟩ = some (.int .i64 ((rd_T48 l0_0 x37_3).f0)) := (blk_cell BK106.out 0).trans rfl
                              have hcz29_1 : wc.cell? ⟨gb106, 1, none⟩ = some (.int .i64 ((rd_T48 l0_0 x37_3).f1)) := (blk_cell BK106.out 1).trans rfl
                              have hcz29_2 : wc.cell? ⟨gb106, 2, none⟩ = some (.int .i64 ((rd_T48 l0_0 x37_3).f2)) := (blk_cell BK106.out 2).trans rfl
                              have hcz29_3 : wc.cell? ⟨gb106, 3, none⟩ = some (.int .i64 ((rd_T48 l0_0 x37_3).f3)) := (blk_cell BK106.out 3).trans rfl
                              have hcz29_4 : wc.cell? ⟨gb106, 4, none⟩ = some (.int .i64 ((rd_T48 l0_0 x37_3).f4)) := (blk_cell BK106.out 4).trans rfl
                              have hcz29_5 : wc.cell? ⟨gb106, 5, none⟩ = some (.int .i64 ((rd_T48 l0_0 x37_3).f5)) := (blk_cell BK106.out 5).trans rfl
                              have hcz29_6 : wc.cell? ⟨gb106, 6, none⟩ = some (.int .i64 ((rd_T48 l0_0 x37_3).f6)) := (blk_cell BK106.out 6).trans rfl
                              have hfz29_0 := blk_frozen BK106.out 0
                              have hfz29_1 := blk_frozen BK106.out 1
                              have hfz29_2 := blk_frozen BK106.out 2
                              have hfz29_3 := blk_frozen BK106.out 3
                              have hfz29_4 := blk_frozen BK106.out 4
                              have hfz29_5 := blk_frozen BK106.out 5
                              have hfz29_6 := blk_frozen BK106.out 6
                              go_wp2
                              go_roundg kj17
                              case measure => have := HJ1.out; have := HK2.out; have := HK3.out; have := HJ17.out; omega
                              case rel => exact ⟨((((rd_T48 l0_0 x37_3).f1) == 0 && (((rd_T48 l0_0 x37_3).f2) == (-1) && (((rd_T48 l0_0 x37_3).f3) == 0 && (((rd_T48 l0_0 x37_3).f4) == 0 && (((rd_T48 l0_0 x37_3).f5) == 0 && (((rd_T48 l0_0 x37_3).f6) == 0))))))), (wrap64 (x37_3 + 1)), (by first | rfl | (simp; done) | (simp [*]; done)), (by first | rfl | (simp; done) | (simp [*]; done)), H', ⟨by have := HJ1.out; have := HK2.out; have := HK3.out; have := HJ17.out; omega⟩, ⟨by (with_reducible repeat (first | refine blk_drewN ?_ _ | refine blk_drew ?_ | refine blk_alloc ?_ _)); exact BK102.out⟩, ⟨by repeat (first | (with_reducible first | exact HB.out | apply below_alloc | apply pw_below_drewN | apply below_drew1 | refine below_set ?_ GE102.out | refine below_set ?_ GE106.out) | exact HB.out)⟩⟩
                            · replace c27 := Bool.eq_false_iff.mpr c27
                              subst c27
                              have H1 : (relax_Check.l1 kj17 false l0_0 (l0_0.length : Int) (wrap64 (x37_3 + 1)) l0_0 l0_1) = some r := by rw [if_neg (show ¬ (false = true) by decide)] at H; exact H
                              clear H
                              have H := H1
                              clear H1
                              have H' := Aside0.mk H
                              clear H
                              have hnb30 := NB106_102.out
                              have hnc30 := NB102_106.out
                              have hcz31_0 : wc.cell? ⟨gb106, 0, none⟩ = some (.int .i64 ((rd_T48 l0_0 x37_3).f0)) := (blk_cell BK106.out 0).trans rfl
                              have hcz31_1 : wc.cell? ⟨gb106, 1, none⟩ = some (.int .i64 ((rd_T48 l0_0 x37_3).f1)) := (blk_cell BK106.out 1).trans rfl
                              have hcz31_2 : wc.cell? ⟨gb106, 2, none⟩ = some (.int .i64 ((rd_T48 l0_0 x37_3).f2)) := (blk_cell BK106.out 2).trans rfl
                              have hcz31_3 : wc.cell? ⟨gb106, 3, none⟩ = some (.int .i64 ((rd_T48 l0_0 x37_3).f3)) := (blk_cell BK106.out 3).trans rfl
                              have hcz31_4 : wc.cell? ⟨gb106, 4, none⟩ = some (.int .i64 ((rd_T48 l0_0 x37_3).f4)) := (blk_cell BK106.out 4).trans rfl
                              have hcz31_5 : wc.cell? ⟨gb106, 5, none⟩ = some (.int .i64 ((rd_T48 l0_0 x37_3).f5)) := (blk_cell BK106.out 5).trans rfl
                              have hcz31_6 : wc.cell? ⟨gb106, 6, none⟩ = some (.int .i64 ((rd_T48 l0_0 x37_3).f6)) := (blk_cell BK106.out 6).trans rfl
                              have hfz31_0 := blk_frozen BK106.out 0
                              have hfz31_1 := blk_frozen BK106.out 1
                              have hfz31_2 := blk_frozen BK106.out 2
                              have hfz31_3 := blk_frozen BK106.out 3
                              have hfz31_4 := blk_frozen BK106.out 4
                              have hfz31_5 := blk_frozen BK106.out 5
                              have hfz31_6 := blk_frozen BK106.out 6
                              go_wp2
                              go_roundg kj17
                              case measure => have := HJ1.out; have := HK2.out; have := HK3.out; have := HJ17.out; omega
                              case rel => exact ⟨(false), (wrap64 (x37_3 + 1)), (by first | rfl | (simp; done) | (simp [*]; done)), (by first | rfl | (simp; done) | (simp [*]; done)), H', ⟨by have := HJ1.out; have := HK2.out; have := HK3.out; have := HJ17.out; omega⟩, ⟨by (with_reducible repeat (first | refine blk_drewN ?_ _ | refine blk_drew ?_ | refine blk_alloc ?_ _)); exact BK102.out⟩, ⟨by repeat (first | (with_reducible first | exact HB.out | apply below_alloc | apply pw_below_drewN | apply below_drew1 | refine below_set ?_ GE102.out | refine below_set ?_ GE106.out) | exact HB.out)⟩⟩
                          · rw [if_neg c26] at H
                            have c26b0 : (((rd_T48 l0_0 x37_3).f2) == (-1)) = false := beq_eq_false_iff_ne.mpr c26
                            have c26b1 : (((rd_T48 l0_0 x37_3).f2) != (-1)) = true := bne_iff_ne.mpr c26
                            by_cases c32 : x3_17 = true
                            · subst c32
                              have H1 : ((relax_within.f ((rd_T48 l0_0 x37_3).f2) 0 (wrap64 ((l0_1.length : Int) - 1))).bind fun t108 => (if t108 = true then ((relax_within.f ((rd_T48 l0_0 x37_3).f1) ((rd_T48 l0_0 x37_3).f0) 1000).bind fun t109 => (if t109 = true then (if (-16777216) ≤ ((rd_T48 l0_0 x37_3).f5) then (if ((rd_T48 l0_0 x37_3).f5) ≤ ((rd_T48 l0_0 x37_3).f3) then (if ((rd_T48 l0_0 x37_3).f3) ≤ 0 then (if 0 ≤ ((rd_T48 l0_0 x37_3).f4) then (if ((rd_T48 l0_0 x37_3).f4) ≤ ((rd_T48 l0_0 x37_3).f6) then (relax_Check.l1 kj17 (decide (((rd_T48 l0_0 x37_3).f6) ≤ 16777216)) l0_0 (l0_0.length : Int) (wrap64 (x37_3 + 1)) l0_0 l0_1) else (relax_Check.l1 kj17 false l0_0 (l0_0.length : Int) (wrap64 (x37_3 + 1)) l0_0 l0_1)) else (relax_Check.l1 kj17 false l0_0 (l0_0.length : Int) (wrap64 (x37_3 + 1)) l0_0 l0_1)) else (relax_Check.l1 kj17 false l0_0 (l0_0.length : Int) (wrap64 (x37_3 + 1)) l0_0 l0_1)) else (relax_Check.l1 kj17 false l0_0 (l0_0.length : Int) (wrap64 (x37_3 + 1)) l0_0 l0_1)) else (relax_Check.l1 kj17 false l0_0 (l0_0.length : Int) (wrap64 (x37_3 + 1)) l0_0 l0_1)) else (relax_Check.l1 kj17 false l0_0 (l0_0.length : Int) (wrap64 (x37_3 + 1)) l0_0 l0_1))) else (relax_Check.l1 kj17 false l0_0 (l0_0.length : Int) (wrap64 (x37_3 + 1)) l0_0 l0_1))) = some r := by rw [if_pos rfl] at H; exact H
                              clear H
                              have H := H1
                              clear H1
                              replace H := Option.bind_eq_some_iff.mp H
                              obtain ⟨t108, A330, H⟩ := H
                              replace H : (if t108 = true then ((relax_within.f ((rd_T48 l0_0 x37_3).f1) ((rd_T48 l0_0 x37_3).f0) 1000).bind fun t109 => (if t109 = true then (if (-16777216) ≤ ((rd_T48 l0_0 x37_3).f5) then (if ((rd_T48 l0_0 x37_3).f5) ≤ ((rd_T48 l0_0 x37_3).f3) then (if ((rd_T48 l0_0 x37_3).f3) ≤ 0 then (if 0 ≤ ((rd_T48 l0_0 x37_3).f4) then (if ((rd_T48 l0_0 x37_3).f4) ≤ ((rd_T48 l0_0 x37_3).f6) then (relax_Check.l1 kj17 (decide (((rd_T48 l0_0 x37_3).f6) ≤ 16777216)) l0_0 (l0_0.length : Int) (wrap64 (x37_3 + 1)) l0_0 l0_1) else (relax_Check.l1 kj17 false l0_0 (l0_0.length : Int) (wrap64 (x37_3 + 1)) l0_0 l0_1)) else (relax_Check.l1 kj17 false l0_0 (l0_0.length : Int) (wrap64 (x37_3 + 1)) l0_0 l0_1)) else (relax_Check.l1 kj17 false l0_0 (l0_0.length : Int) (wrap64 (x37_3 + 1)) l0_0 l0_1)) else (relax_Check.l1 kj17 false l0_0 (l0_0.length : Int) (wrap64 (x37_3 + 1)) l0_0 l0_1)) else (relax_Check.l1 kj17 false l0_0 (l0_0.length : Int) (wrap64 (x37_3 + 1)) l0_0 l0_1)) else (relax_Check.l1 kj17 false l0_0 (l0_0.length : Int) (wrap64 (x37_3 + 1)) l0_0 l0_1))) else (relax_Check.l1 kj17 false l0_0 (l0_0.length : Int) (wrap64 (x37_3 + 1)) l0_0 l0_1)) = some r := H
                              have A33 := Aside0.mk A330
                              clear A330
                              by_cases c34 : t108 = true
                              · subst c34
                                have H1 : ((relax_within.f ((rd_T48 l0_0 x37_3).f1) ((rd_T48 l0_0 x37_3).f0) 1000).bind fun t109 => (if t109 = true then (if (-16777216) ≤ ((rd_T48 l0_0 x37_3).f5) then (if ((rd_T48 l0_0 x37_3).f5) ≤ ((rd_T48 l0_0 x37_3).f3) then (if ((rd_T48 l0_0 x37_3).f3) ≤ 0 then (if 0 ≤ ((rd_T48 l0_0 x37_3).f4) then (if ((rd_T48 l0_0 x37_3).f4) ≤ ((rd_T48 l0_0 x37_3).f6) then (relax_Check.l1 kj17 (decide (((rd_T48 l0_0 x37_3).f6) ≤ 16777216)) l0_0 (l0_0.length : Int) (wrap64 (x37_3 + 1)) l0_0 l0_1) else (relax_Check.l1 kj17 false l0_0 (l0_0.length : Int) (wrap64 (x37_3 + 1)) l0_0 l0_1)) else (relax_Check.l1 kj17 false l0_0 (l0_0.length : Int) (wrap64 (x37_3 + 1)) l0_0 l0_1)) else (relax_Check.l1 kj17 false l0_0 (l0_0.length : Int) (wrap64 (x37_3 + 1)) l0_0 l0_1)) else (relax_Check.l1 kj17 false l0_0 (l0_0.length : Int) (wrap64 (x37_3 + 1)) l0_0 l0_1)) else (relax_Check.l1 kj17 false l0_0 (l0_0.length : Int) (wrap64 (x37_3 + 1)) l0_0 l0_1)) else (relax_Check.l1 kj17 false l0_0 (l0_0.length : Int) (wrap64 (x37_3 + 1)) l0_0 l0_1))) = some r := by rw [if_pos rfl] at H; exact H
                                clear H
                                have H := H1
                                clear H1
                                replace H := Option.bind_eq_some_iff.mp H
                                obtain ⟨t109, A350, H⟩ := H
                                replace H : (if t109 = true then (if (-16777216) ≤ ((rd_T48 l0_0 x37_3).f5) then (if ((rd_T48 l0_0 x37_3).f5) ≤ ((rd_T48 l0_0 x37_3).f3) then (if ((rd_T48 l0_0 x37_3).f3) ≤ 0 then (if 0 ≤ ((rd_T48 l0_0 x37_3).f4) then (if ((rd_T48 l0_0 x37_3).f4) ≤ ((rd_T48 l0_0 x37_3).f6) then (relax_Check.l1 kj17 (decide (((rd_T48 l0_0 x37_3).f6) ≤ 16777216)) l0_0 (l0_0.length : Int) (wrap64 (x37_3 + 1)) l0_0 l0_1) else (relax_Check.l1 kj17 false l0_0 (l0_0.length : Int) (wrap64 (x37_3 + 1)) l0_0 l0_1)) else (relax_Check.l1 kj17 false l0_0 (l0_0.length : Int) (wrap64 (x37_3 + 1)) l0_0 l0_1)) else (relax_Check.l1 kj17 false l0_0 (l0_0.length : Int) (wrap64 (x37_3 + 1)) l0_0 l0_1)) else (relax_Check.l1 kj17 false l0_0 (l0_0.length : Int) (wrap64 (x37_3 + 1)) l0_0 l0_1)) else (relax_Check.l1 kj17 false l0_0 (l0_0.length : Int) (wrap64 (x37_3 + 1)) l0_0 l0_1)) else (relax_Check.l1 kj17 false l0_0 (l0_0.length : Int) (wrap64 (x37_3 + 1)) l0_0 l0_1)) = some r := H
                                have A35 := Aside0.mk A350
                                clear A350
                                by_cases c36 : t109 = true
                                · subst c36
                                  have H1 : (if (-16777216) ≤ ((rd_T48 l0_0 x37_3).f5) then (if ((rd_T48 l0_0 x37_3).f5) ≤ ((rd_T48 l0_0 x37_3).f3) then (if ((rd_T48 l0_0 x37_3).f3) ≤ 0 then (if 0 ≤ ((rd_T48 l0_0 x37_3).f4) then (if ((rd_T48 l0_0 x37_3).f4) ≤ ((rd_T48 l0_0 x37_3).f6) then (relax_Check.l1 kj17 (decide (((rd_T48 l0_0 x37_3).f6) ≤ 16777216)) l0_0 (l0_0.length : Int) (wrap64 (x37_3 + 1)) l0_0 l0_1) else (relax_Check.l1 kj17 false l0_0 (l0_0.length : Int) (wrap64 (x37_3 + 1)) l0_0 l0_1)) else (relax_Check.l1 kj17 false l0_0 (l0_0.length : Int) (wrap64 (x37_3 + 1)) l0_0 l0_1)) else (relax_Check.l1 kj17 false l0_0 (l0_0.length : Int) (wrap64 (x37_3 + 1)) l0_0 l0_1)) else (relax_Check.l1 kj17 false l0_0 (l0_0.length : Int) (wrap64 (x37_3 + 1)) l0_0 l0_1)) else (relax_Check.l1 kj17 false l0_0 (l0_0.length : Int) (wrap64 (x37_3 + 1)) l0_0 l0_1)) = some r := by rw [if_pos rfl] at H; exact H
                                  clear H
                                  have H := H1
                                  clear H1
                                  by_cases c37 : (-16777216) ≤ ((rd_T48 l0_0 x37_3).f5)
                                  · rw [if_pos c37] at H
                                    have c37b0 : decide ((-16777216) ≤ ((rd_T48 l0_0 x37_3).f5)) = true := decide_eq_true c37
                                    clear c37
                                    by_cases c38 : ((rd_T48 l0_0 x37_3).f5) ≤ ((rd_T48 l0_0 x37_3).f3)
                                    · rw [if_pos c38] at H
                                      have c38b0 : decide (((rd_T48 l0_0 x37_3).f5) ≤ ((rd_T48 l0_0 x37_3).f3)) = true := decide_eq_true c38
                                      clear c38
                                      by_cases c39 : ((rd_T48 l0_0 x37_3).f3) ≤ 0
                                      · rw [if_pos c39] at H
                                        have c39b0 : decide (((rd_T48 l0_0 x37_3).f3) ≤ 0) = true := decide_eq_true c39
                                        clear c39
                                        by_cases c40 : 0 ≤ ((rd_T48 l0_0 x37_3).f4)
                                        · rw [if_pos c40] at H
                                          have c40b0 : decide (0 ≤ ((rd_T48 l0_0 x37_3).f4)) = true := decide_eq_true c40
                                          clear c40
                                          by_cases c41 : ((rd_T48 l0_0 x37_3).f4) ≤ ((rd_T48 l0_0 x37_3).f6)
                                          · rw [if_pos c41] at H
                                            have c41b0 : decide (((rd_T48 l0_0 x37_3).f4) ≤ ((rd_T48 l0_0 x37_3).f6)) = true := decide_eq_true c41
                                            clear c41
                                            have H' := Aside0.mk H
                                            clear H
                                            have hnb42 := NB106_102.out
                                            have hnc42 := NB102_106.out
                                            have hcz43_0 : wc.cell? ⟨gb106, 0, none⟩ = some (.int .i64 ((rd_T48 l0_0 x37_3).f0)) := (blk_cell BK106.out 0).trans rfl
                                            have hcz43_1 : wc.cell? ⟨gb106, 1, none⟩ = some (.int .i64 ((rd_T48 l0_0 x37_3).f1)) := (blk_cell BK106.out 1).trans rfl
                                            have hcz43_2 : wc.cell? ⟨gb106, 2, none⟩ = some (.int .i64 ((rd_T48 l0_0 x37_3).f2)) := (blk_cell BK106.out 2).trans rfl
                                            have hcz43_3 : wc.cell? ⟨gb106, 3, none⟩ = some (.int .i64 ((rd_T48 l0_0 x37_3).f3)) := (blk_cell BK106.out 3).trans rfl
                                            have hcz43_4 : wc.cell? ⟨gb106, 4, none⟩ = some (.int .i64 ((rd_T48 l0_0 x37_3).f4)) := (blk_cell BK106.out 4).trans rfl
                                            have hcz43_5 : wc.cell? ⟨gb106, 5, none⟩ = some (.int .i64 ((rd_T48 l0_0 x37_3).f5)) := (blk_cell BK106.out 5).trans rfl
                                            have hcz43_6 : wc.cell? ⟨gb106, 6, none⟩ = some (.int .i64 ((rd_T48 l0_0 x37_3).f6)) := (blk_cell BK106.out 6).trans rfl
                                            have hfz43_0 := blk_frozen BK106.out 0
                                            have hfz43_1 := blk_frozen BK106.out 1
                                            have hfz43_2 := blk_frozen BK106.out 2
                                            have hfz43_3 := blk_frozen BK106.out 3
                                            have hfz43_4 := blk_frozen BK106.out 4
                                            have hfz43_5 := blk_frozen BK106.out 5
                                            have hfz43_6 := blk_frozen BK106.out 6
                                            have hcz44_0 : wc.cell? ⟨gb102, 0, none⟩ = some (.slice (some ad105) l0_0.length c0_0) := (blk_cell BK102.out 0).trans rfl
                                            have hcz44_1 : wc.cell? ⟨gb102, 1, none⟩ = some (.slice A0_1 l0_1.length c0_1) := (blk_cell BK102.out 1).trans rfl
                                            have hfz44_0 := blk_frozen BK102.out 0
                                            have hfz44_1 := blk_frozen BK102.out 1
                                            go_wp2_with (first | (go_at_call 33; (with_reducible refine (relax_within.calls ((rd_T48 l0_0 x37_3).f2) 0 (wrap64 ((l0_1.length : Int) - 1)) true _ A33.out).mono ?_); rintro e w' ⟨rfl, ⟨nd, rfl⟩⟩) | (go_at_call 33; (with_reducible refine (relax_within.calls ((rd_T48 l0_0 x37_3).f1) ((rd_T48 l0_0 x37_3).f0) 1000 true _ A35.out).mono ?_); rintro e w' ⟨rfl, ⟨nd, rfl⟩⟩))
                                            go_roundg kj17
                                            case measure => have := HJ1.out; have := HK2.out; have := HK3.out; have := HJ17.out; omega
                                            case rel => exact ⟨(decide (((rd_T48 l0_0 x37_3).f6) ≤ 16777216)), (wrap64 (x37_3 + 1)), (by first | rfl | (simp; done) | (simp [*]; done)), (by first | rfl | (simp; done) | (simp [*]; done)), H', ⟨by have := HJ1.out; have := HK2.out; have := HK3.out; have := HJ17.out; omega⟩, ⟨by (with_reducible repeat (first | refine blk_drewN ?_ _ | refine blk_drew ?_ | refine blk_alloc ?_ _)); exact BK102.out⟩, ⟨by repeat (first | (with_reducible first | exact HB.out | apply below_alloc | apply pw_below_drewN | apply below_drew1 | refine below_set ?_ GE102.out | refine below_set ?_ GE106.out) | exact HB.out)⟩⟩
                                          · rw [if_neg c41] at H
                                            have c41b0 : decide (((rd_T48 l0_0 x37_3).f4) ≤ ((rd_T48 l0_0 x37_3).f6)) = false := decide_eq_false c41
                                            clear c41
                                            have H' := Aside0.mk H
                                            clear H
                                            have hnb45 := NB106_102.out
                                            have hnc45 := NB102_106.out
                                            have hcz46_0 : wc.cell? ⟨gb106, 0, none⟩ = some (.int .i64 ((rd_T48 l0_0 x37_3).f0)) := (blk_cell BK106.out 0).trans rfl
                                            have hcz46_1 : wc.cell? ⟨gb106, 1, none⟩ = some (.int .i64 ((rd_T48 l0_0 x37_3).f1)) := (blk_cell BK106.out 1).trans rfl
                                            have hcz46_2 : wc.cell? ⟨gb106, 2, none⟩ = some (.int .i64 ((rd_T48 l0_0 x37_3).f2)) := (blk_cell BK106.out 2).trans rfl
                                            have hcz46_3 : wc.cell? ⟨gb106, 3, none⟩ = some (.int .i64 ((rd_T48 l0_0 x37_3).f3)) := (blk_cell BK106.out 3).trans rfl
                                            have hcz46_4 : wc.cell? ⟨gb106, 4, none⟩ = some (.int .i64 ((rd_T48 l0_0 x37_3).f4)) := (blk_cell BK106.out 4).trans rfl
                                            have hcz46_5 : wc.cell? ⟨gb106, 5, none⟩ = some (.int .i64 ((rd_T48 l0_0 x37_3).f5)) := (blk_cell BK106.out 5).trans rfl
                                            have hcz46_6 : wc.cell? ⟨gb106, 6, none⟩ = some (.int .i64 ((rd_T48 l0_0 x37_3).f6)) := (blk_cell BK106.out 6).trans rfl
                                            have hfz46_0 := blk_frozen BK106.out 0
                                            have hfz46_1 := blk_frozen BK106.out 1
                                            have hfz46_2 := blk_frozen BK106.out 2
                                            have hfz46_3 := blk_frozen BK106.out 3
                                            have hfz46_4 := blk_frozen BK106.out 4
                                            have hfz46_5 := blk_frozen BK106.out 5
                                            have hfz46_6 := blk_frozen BK106.out 6
                                            have hcz47_0 : wc.cell? ⟨gb102, 0, none⟩ = some (.slice (some ad105) l0_0.length c0_0) := (blk_cell BK102.out 0).trans rfl
                                            have hcz47_1 : wc.cell? ⟨gb102, 1, none⟩ = some (.slice A0_1 l0_1.length c0_1) := (blk_cell BK102.out 1).trans rfl
                                            have hfz47_0 := blk_frozen BK102.out 0
                                            have hfz47_1 := blk_frozen BK102.out 1
                                            go_wp2_with (first | (go_at_call 33; (with_reducible refine (relax_within.calls ((rd_T48 l0_0 x37_3).f2) 0 (wrap64 ((l0_1.length : Int) - 1)) true _ A33.out).mono ?_); rintro e w' ⟨rfl, ⟨nd, rfl⟩⟩) | (go_at_call 33; (with_reducible refine (relax_within.calls ((rd_T48 l0_0 x37_3).f1) ((rd_T48 l0_0 x37_3).f0) 1000 true _ A35.out).mono ?_); rintro e w' ⟨rfl, ⟨nd, rfl⟩⟩))
                                            go_roundg kj17
                                            case measure => have := HJ1.out; have := HK2.out; have := HK3.out; have := HJ17.out; omega
                                            case rel => exact ⟨(false), (wrap64 (x37_3 + 1)), (by first | rfl | (simp; done) | (simp [*]; done)), (by first | rfl | (simp; done) | (simp [*]; done)), H', ⟨by have := HJ1.out; have := HK2.out; have := HK3.out; have := HJ17.out; omega⟩, ⟨by (with_reducible repeat (first | refine blk_drewN ?_ _ | refine blk_drew ?_ | refine blk_alloc ?_ _)); exact BK102.out⟩, ⟨by repeat (first | (with_reducible first | exact HB.out | apply below_alloc | apply pw_below_drewN | apply below_drew1 | refine below_set ?_ GE102.out | refine below_set ?_ GE106.out) | exact HB.out)⟩⟩
                                        · rw [if_neg c40] at H
                                          have c40b0 : decide (0 ≤ ((rd_T48 l0_0 x37_3).f4)) = false := decide_eq_false c40
                                          clear c40
                                          have H' := Aside0.mk H
                                          clear H
                                          have hnb48 := NB106_102.out
                                          have hnc48 := NB102_106.out
                                          have hcz49_0 : wc.cell? ⟨gb106, 0, none⟩ = some (.int .i64 ((rd_T48 l0_0 x37_3).f0)) := (blk_cell BK106.out 0).trans rfl
                                          have hcz49_1 : wc.cell? ⟨gb106, 1, none⟩ = some (.int .i64 ((rd_T48 l0_0 x37_3).f1)) := (blk_cell BK106.out 1).trans rfl
                                          have hcz49_2 : wc.cell? ⟨gb106, 2, none⟩ = some (.int .i64 ((rd_T48 l0_0 x37_3).f2)) := (blk_cell BK106.out 2).trans rfl
                                          have hcz49_3 : wc.cell? ⟨gb106, 3, none⟩ = some (.int .i64 ((rd_T48 l0_0 x37_3).f3)) := (blk_cell BK106.out 3).trans rfl
                                          have hcz49_4 : wc.cell? ⟨gb106, 4, none⟩ = some (.int .i64 ((rd_T48 l0_0 x37_3).f4)) := (blk_cell BK106.out 4).trans rfl
                                          have hcz49_5 : wc.cell? ⟨gb106, 5, none⟩ = some (.int .i64 ((rd_T48 l0_0 x37_3).f5)) := (blk_cell BK106.out 5).trans rfl
                                          have hcz49_6 : wc.cell? ⟨gb106, 6, none⟩ = some (.int .i64 ((rd_T48 l0_0 x37_3).f6)) := (blk_cell BK106.out 6).trans rfl
                                          have hfz49_0 := blk_frozen BK106.out 0
                                          have hfz49_1 := blk_frozen BK106.out 1
                                          have hfz49_2 := blk_frozen BK106.out 2
                                          have hfz49_3 := blk_frozen BK106.out 3
                                          have hfz49_4 := blk_frozen BK106.out 4
                                          have hfz49_5 := blk_frozen BK106.out 5
                                          have hfz49_6 := blk_frozen BK106.out 6
                                          have hcz50_0 : wc.cell? ⟨gb102, 0, none⟩ = some (.slice (some ad105) l0_0.length c0_0) := (blk_cell BK102.out 0).trans rfl
                                          have hcz50_1 : wc.cell? ⟨gb102, 1, none⟩ = some (.slice A0_1 l0_1.length c0_1) := (blk_cell BK102.out 1).trans rfl
                                          have hfz50_0 := blk_frozen BK102.out 0
                                          have hfz50_1 := blk_frozen BK102.out 1
                                          go_wp2_with (first | (go_at_call 33; (with_reducible refine (relax_within.calls ((rd_T48 l0_0 x37_3).f2) 0 (wrap64 ((l0_1.length : Int) - 1)) true _ A33.out).mono ?_); rintro e w' ⟨rfl, ⟨nd, rfl⟩⟩) | (go_at_call 33; (with_reducible refine (relax_within.calls ((rd_T48 l0_0 x37_3).f1) ((rd_T48 l0_0 x37_3).f0) 1000 true _ A35.out).mono ?_); rintro e w' ⟨rfl, ⟨nd, rfl⟩⟩))
                                          go_roundg kj17
                                          case measure => have := HJ1.out; have := HK2.out; have := HK3.out; have := HJ17.out; omega
                                          case rel => exact ⟨(false), (wrap64 (x37_3 + 1)), (by first | rfl | (simp; done) | (simp [*]; done)), (by first | rfl | (simp; done) | (simp [*]; done)), H', ⟨by have := HJ1.out; have := HK2.out; have := HK3.out; have := HJ17.out; omega⟩, ⟨by (with_reducible repeat (first | refine blk_drewN ?_ _ | refine blk_drew ?_ | refine blk_alloc ?_ _)); exact BK102.out⟩, ⟨by repeat (first | (with_reducible first | exact HB.out | apply below_alloc | apply pw_below_drewN | apply below_drew1 | refine below_set ?_ GE102.out | refine below_set ?_ GE106.out) | exact HB.out)⟩⟩
                                      · rw [if_neg c39] at H
                                        have c39b0 : decide (((rd_T48 l0_0 x37_3).f3) ≤ 0) = false := decide_eq_false c39
                                        clear c39
                                        have H' := Aside0.mk H
                                        clear H
                                        have hnb51 := NB106_102.out
                                        have hnc51 := NB102_106.out
                                        have hcz52_0 : wc.cell? ⟨gb106, 0, none⟩ = some (.int .i64 ((rd_T48 l0_0 x37_3).f0)) := (blk_cell BK106.out 0).trans rfl
                                        have hcz52_1 : wc.cell? ⟨gb106, 1, none⟩ = some (.int .i64 ((rd_T48 l0_0 x37_3).f1)) := (blk_cell BK106.out 1).trans rfl
                                        have hcz52_2 : wc.cell? ⟨gb106, 2, none⟩ = some (.int .i64 ((rd_T48 l0_0 x37_3).f2)) := (blk_cell BK106.out 2).trans rfl
                                        have hcz52_3 : wc.cell? ⟨gb106, 3, none⟩ = some (.int .i64 ((rd_T48 l0_0 x37_3).f3)) := (blk_cell BK106.out 3).trans rfl
                                        have hcz52_4 : wc.cell? ⟨gb106, 4, none⟩ = some (.int .i64 ((rd_T48 l0_0 x37_3).f4)) := (blk_cell BK106.out 4).trans rfl
                                        have hcz52_5 : wc.cell? ⟨gb106, 5, none⟩ = some (.int .i64 ((rd_T48 l0_0 x37_3).f5)) := (blk_cell BK106.out 5).trans rfl
                                        have hcz52_6 : wc.cell? ⟨gb106, 6, none⟩ = some (.int .i64 ((rd_T48 l0_0 x37_3).f6)) := (blk_cell BK106.out 6).trans rfl
                                        have hfz52_0 := blk_frozen BK106.out 0
                                        have hfz52_1 := blk_frozen BK106.out 1
                                        have hfz52_2 := blk_frozen BK106.out 2
                                        have hfz52_3 := blk_frozen BK106.out 3
                                        have hfz52_4 := blk_frozen BK106.out 4
                                        have hfz52_5 := blk_frozen BK106.out 5
                                        have hfz52_6 := blk_frozen BK106.out 6
                                        have hcz53_0 : wc.cell? ⟨gb102, 0, none⟩ = some (.slice (some ad105) l0_0.length c0_0) := (blk_cell BK102.out 0).trans rfl
                                        have hcz53_1 : wc.cell? ⟨gb102, 1, none⟩ = some (.slice A0_1 l0_1.length c0_1) := (blk_cell BK102.out 1).trans rfl
                                        have hfz53_0 := blk_frozen BK102.out 0
                                        have hfz53_1 := blk_frozen BK102.out 1
                                        go_wp2_with (first | (go_at_call 33; (with_reducible refine (relax_within.calls ((rd_T48 l0_0 x37_3).f2) 0 (wrap64 ((l0_1.length : Int) - 1)) true _ A33.out).mono ?_); rintro e w' ⟨rfl, ⟨nd, rfl⟩⟩) | (go_at_call 33; (with_reducible refine (relax_within.calls ((rd_T48 l0_0 x37_3).f1) ((rd_T48 l0_0 x37_3).f0) 1000 true _ A35.out).mono ?_); rintro e w' ⟨rfl, ⟨nd, rfl⟩⟩))
                                        go_roundg kj17
                                        case measure => have := HJ1.out; have := HK2.out; have := HK3.out; have := HJ17.out; omega
                                        case rel => exact ⟨(false), (wrap64 (x37_3 + 1)), (by first | rfl | (simp; done) | (simp [*]; done)), (by first | rfl | (simp; done) | (simp [*]; done)), H', ⟨by have := HJ1.out; have := HK2.out; have := HK3.out; have := HJ17.out; omega⟩, ⟨by (with_reducible repeat (first | refine blk_drewN ?_ _ | refine blk_drew ?_ | refine blk_alloc ?_ _)); exact BK102.out⟩, ⟨by repeat (first | (with_reducible first | exact HB.out | apply below_alloc | apply pw_below_drewN | apply below_drew1 | refine below_set ?_ GE102.out | refine below_set ?_ GE106.out) | exact HB.out)⟩⟩
                                    · rw [if_neg c38] at H
                                      have c38b0 : decide (((rd_T48 l0_0 x37_3).f5) ≤ ((rd_T48 l0_0 x37_3).f3)) = false := decide_eq_false c38
                                      clear c38
                                      have H' := Aside0.mk H
                                      clear H
                                      have hnb54 := NB106_102.out
                                      have hnc54 := NB102_106.out
                                      have hcz55_0 : wc.cell? ⟨gb106, 0, none⟩ = some (.int .i64 ((rd_T48 l0_0 x37_3).f0)) := (blk_cell BK106.out 0).trans rfl
                                      have hcz55_1 : wc.cell? ⟨gb106, 1, none⟩ = some (.int .i64 ((rd_T48 l0_0 x37_3).f1)) := (blk_cell BK106.out 1).trans rfl
                                      have hcz55_2 : wc.cell? ⟨gb106, 2, none⟩ = some (.int .i64 ((rd_T48 l0_0 x37_3).f2)) := (blk_cell BK106.out 2).trans rfl
                                      have hcz55_3 : wc.cell? ⟨gb106, 3, none⟩ = some (.int .i64 ((rd_T48 l0_0 x37_3).f3)) := (blk_cell BK106.out 3).trans rfl
                                      have hcz55_4 : wc.cell? ⟨gb106, 4, none⟩ = some (.int .i64 ((rd_T48 l0_0 x37_3).f4)) := (blk_cell BK106.out 4).trans rfl
                                      have hcz55_5 : wc.cell? ⟨gb106, 5, none⟩ = some (.int .i64 ((rd_T48 l0_0 x37_3).f5)) := (blk_cell BK106.out 5).trans rfl
                                      have hcz55_6 : wc.cell? ⟨gb106, 6, none⟩ = some (.int .i64 ((rd_T48 l0_0 x37_3).f6)) := (blk_cell BK106.out 6).trans rfl
                                      have hfz55_0 := blk_frozen BK106.out 0
                                      have hfz55_1 := blk_frozen BK106.out 1
                                      have hfz55_2 := blk_frozen BK106.out 2
                                      have hfz55_3 := blk_frozen BK106.out 3
                                      have hfz55_4 := blk_frozen BK106.out 4
                                      have hfz55_5 := blk_frozen BK106.out 5
                                      have hfz55_6 := blk_frozen BK106.out 6
                                      have hcz56_0 : wc.cell? ⟨gb102, 0, none⟩ = some (.slice (some ad105) l0_0.length c0_0) := (blk_cell BK102.out 0).trans rfl
                                      have hcz56_1 : wc.cell? ⟨gb102, 1, none⟩ = some (.slice A0_1 l0_1.length c0_1) := (blk_cell BK102.out 1).trans rfl
                                      have hfz56_0 := blk_frozen BK102.out 0
                                      have hfz56_1 := blk_frozen BK102.out 1
                                      go_wp2_with (first | (go_at_call 33; (with_reducible refine (relax_within.calls ((rd_T48 l0_0 x37_3).f2) 0 (wrap64 ((l0_1.length : Int) - 1)) true _ A33.out).mono ?_); rintro e w' ⟨rfl, ⟨nd, rfl⟩⟩) | (go_at_call 33; (with_reducible refine (relax_within.calls ((rd_T48 l0_0 x37_3).f1) ((rd_T48 l0_0 x37_3).f0) 1000 true _ A35.out).mono ?_); rintro e w' ⟨rfl, ⟨nd, rfl⟩⟩))
                                      go_roundg kj17
                                      case measure => have := HJ1.out; have := HK2.out; have := HK3.out; have := HJ17.out; omega
                                      case rel => exact ⟨(false), (wrap64 (x37_3 + 1)), (by first | rfl | (simp; done) | (simp [*]; done)), (by first | rfl | (simp; done) | (simp [*]; done)), H', ⟨by have := HJ1.out; have := HK2.out; have := HK3.out; have := HJ17.out; omega⟩, ⟨by (with_reducible repeat (first | refine blk_drewN ?_ _ | refine blk_drew ?_ | refine blk_alloc ?_ _)); exact BK102.out⟩, ⟨by repeat (first | (with_reducible first | exact HB.out | apply below_alloc | apply pw_below_drewN | apply below_drew1 | refine below_set ?_ GE102.out | refine below_set ?_ GE106.out) | exact HB.out)⟩⟩
                                  · rw [if_neg c37] at H
                                    have c37b0 : decide ((-16777216) ≤ ((rd_T48 l0_0 x37_3).f5)) = false := decide_eq_false c37
                                    clear c37
                                    have H' := Aside0.mk H
                                    clear H
                                    have hnb57 := NB106_102.out
                                    have hnc57 := NB102_106.out
                                    have hcz58_0 : wc.cell? ⟨gb106, 0, none⟩ = some (.int .i64 ((rd_T48 l0_0 x37_3).f0)) := (blk_cell BK106.out 0).trans rfl
                                    have hcz58_1 : wc.cell? ⟨gb106, 1, none⟩ = some (.int .i64 ((rd_T48 l0_0 x37_3).f1)) := (blk_cell BK106.out 1).trans rfl
                                    have hcz58_2 : wc.cell? ⟨gb106, 2, none⟩ = some (.int .i64 ((rd_T48 l0_0 x37_3).f2)) := (blk_cell BK106.out 2).trans rfl
                                    have hcz58_3 : wc.cell? ⟨gb106, 3, none⟩ = some (.int .i64 ((rd_T48 l0_0 x37_3).f3)) := (blk_cell BK106.out 3).trans rfl
                                    have hcz58_4 : wc.cell? ⟨gb106, 4, none⟩ = some (.int .i64 ((rd_T48 l0_0 x37_3).f4)) := (blk_cell BK106.out 4).trans rfl
                                    have hcz58_5 : wc.cell? ⟨gb106, 5, none⟩ = some (.int .i64 ((rd_T48 l0_0 x37_3).f5)) := (blk_cell BK106.out 5).trans rfl
                                    have hcz58_6 : wc.cell? ⟨gb106, 6, none⟩ = some (.int .i64 ((rd_T48 l0_0 x37_3).f6)) := (blk_cell BK106.out 6).trans rfl
                                    have hfz58_0 := blk_frozen BK106.out 0
                                    have hfz58_1 := blk_frozen BK106.out 1
                                    have hfz58_2 := blk_frozen BK106.out 2
                                    have hfz58_3 := blk_frozen BK106.out 3
                                    have hfz58_4 := blk_frozen BK106.out 4
                                    have hfz58_5 := blk_frozen BK106.out 5
                                    have hfz58_6 := blk_frozen BK106.out 6
                                    have hcz59_0 : wc.cell? ⟨gb102, 0, none⟩ = some (.slice (some ad105) l0_0.length c0_0) := (blk_cell BK102.out 0).trans rfl
                                    have hcz59_1 : wc.cell? ⟨gb102, 1, none⟩ = some (.slice A0_1 l0_1.length c0_1) := (blk_cell BK102.out 1).trans rfl
                                    have hfz59_0 := blk_frozen BK102.out 0
                                    have hfz59_1 := blk_frozen BK102.out 1
                                    go_wp2_with (first | (go_at_call 33; (with_reducible refine (relax_within.calls ((rd_T48 l0_0 x37_3).f2) 0 (wrap64 ((l0_1.length : Int) - 1)) true _ A33.out).mono ?_); rintro e w' ⟨rfl, ⟨nd, rfl⟩⟩) | (go_at_call 33; (with_reducible refine (relax_within.calls ((rd_T48 l0_0 x37_3).f1) ((rd_T48 l0_0 x37_3).f0) 1000 true _ A35.out).mono ?_); rintro e w' ⟨rfl, ⟨nd, rfl⟩⟩))
                                    go_roundg kj17
                                    case measure => have := HJ1.out; have := HK2.out; have := HK3.out; have := HJ17.out; omega
                                    case rel => exact ⟨(false), (wrap64 (x37_3 + 1)), (by first | rfl | (simp; done) | (simp [*]; done)), (by first | rfl | (simp; done) | (simp [*]; done)), H', ⟨by have := HJ1.out; have := HK2.out; have := HK3.out; have := HJ17.out; omega⟩, ⟨by (with_reducible repeat (first | refine blk_drewN ?_ _ | refine blk_drew ?_ | refine blk_alloc ?_ _)); exact BK102.out⟩, ⟨by repeat (first | (with_reducible first | exact HB.out | apply below_alloc | apply pw_below_drewN | apply below_drew1 | refine below_set ?_ GE102.out | refine below_set ?_ GE106.out) | exact HB.out)⟩⟩
                                · replace c36 := Bool.eq_false_iff.mpr c36
                                  subst c36
                                  have H1 : (relax_Check.l1 kj17 false l0_0 (l0_0.length : Int) (wrap64 (x37_3 + 1)) l0_0 l0_1) = some r := by rw [if_neg (show ¬ (false = true) by decide)] at H; exact H
                                  clear H
                                  have H := H1
                                  clear H1
                                  have H' := Aside0.mk H
                                  clear H
                                  have hnb60 := NB106_102.out
                                  have hnc60 := NB102_106.out
                                  have hcz61_0 : wc.cell? ⟨gb106, 0, none⟩ = some (.int .i64 ((rd_T48 l0_0 x37_3).f0)) := (blk_cell BK106.out 0).trans rfl
                                  have hcz61_1 : wc.cell? ⟨gb106, 1, none⟩ = some (.int .i64 ((rd_T48 l0_0 x37_3).f1)) := (blk_cell BK106.out 1).trans rfl
                                  have hcz61_2 : wc.cell? ⟨gb106, 2, none⟩ = some (.int .i64 ((rd_T48 l0_0 x37_3).f2)) := (blk_cell BK106.out 2).trans rfl
                                  have hcz61_3 : wc.cell? ⟨gb106, 3, none⟩ = some (.int .i64 ((rd_T48 l0_0 x37_3).f3)) := (blk_cell BK106.out 3).trans rfl
                                  have hcz61_4 : wc.cell? ⟨gb106, 4, none⟩ = some (.int .i64 ((rd_T48 l0_0 x37_3).f4)) := (blk_cell BK106.out 4).trans rfl
                                  have hcz61_5 : wc.cell? ⟨gb106, 5, none⟩ = some (.int .i64 ((rd_T48 l0_0 x37_3).f5)) := (blk_cell BK106.out 5).trans rfl
                                  have hcz61_6 : wc.cell? ⟨gb106, 6, none⟩ = some (.int .i64 ((rd_T48 l0_0 x37_3).f6)) := (blk_cell BK106.out 6).trans rfl
                                  have hfz61_0 := blk_frozen BK106.out 0
                                  have hfz61_1 := blk_frozen BK106.out 1
                                  have hfz61_2 := blk_frozen BK106.out 2
                                  have hfz61_3 := blk_frozen BK106.out 3
                                  have hfz61_4 := blk_frozen BK106.out 4
                                  have hfz61_5 := blk_frozen BK106.out 5
                                  have hfz61_6 := blk_frozen BK106.out 6
                                  have hcz62_0 : wc.cell? ⟨gb102, 0, none⟩ = some (.slice (some ad105) l0_0.length c0_0) := (blk_cell BK102.out 0).trans rfl
                                  have hcz62_1 : wc.cell? ⟨gb102, 1, none⟩ = some (.slice A0_1 l0_1.length c0_1) := (blk_cell BK102.out 1).trans rfl
                                  have hfz62_0 := blk_frozen BK102.out 0
                                  have hfz62_1 := blk_frozen BK102.out 1
                                  go_wp2_with (first | (go_at_call 33; (with_reducible refine (relax_within.calls ((rd_T48 l0_0 x37_3).f2) 0 (wrap64 ((l0_1.length : Int) - 1)) true _ A33.out).mono ?_); rintro e w' ⟨rfl, ⟨nd, rfl⟩⟩) | (go_at_call 33; (with_reducible refine (relax_within.calls ((rd_T48 l0_0 x37_3).f1) ((rd_T48 l0_0 x37_3).f0) 1000 false _ A35.out).mono ?_); rintro e w' ⟨rfl, ⟨nd, rfl⟩⟩))
                                  go_roundg kj17
                                  case measure => have := HJ1.out; have := HK2.out; have := HK3.out; have := HJ17.out; omega
                                  case rel => exact ⟨(false), (wrap64 (x37_3 + 1)), (by first | rfl | (simp; done) | (simp [*]; done)), (by first | rfl | (simp; done) | (simp [*]; done)), H', ⟨by have := HJ1.out; have := HK2.out; have := HK3.out; have := HJ17.out; omega⟩, ⟨by (with_reducible repeat (first | refine blk_drewN ?_ _ | refine blk_drew ?_ | refine blk_alloc ?_ _)); exact BK102.out⟩, ⟨by repeat (first | (with_reducible first | exact HB.out | apply below_alloc | apply pw_below_drewN | apply below_drew1 | refine below_set ?_ GE102.out | refine below_set ?_ GE106.out) | exact HB.out)⟩⟩
                              · replace c34 := Bool.eq_false_iff.mpr c34
                                subst c34
                                have H1 : (relax_Check.l1 kj17 false l0_0 (l0_0.length : Int) (wrap64 (x37_3 + 1)) l0_0 l0_1) = some r := by rw [if_neg (show ¬ (false = true) by decide)] at H; exact H
                                clear H
                                have H := H1
                                clear H1
                                have H' := Aside0.mk H
                                clear H
                                have hnb63 := NB106_102.out
                                have hnc63 := NB102_106.out
                                have hcz64_0 : wc.cell? ⟨gb106, 0, none⟩ = some (.int .i64 ((rd_T48 l0_0 x37_3).f0)) := (blk_cell BK106.out 0).trans rfl
                                have hcz64_1 : wc.cell? ⟨gb106, 1, none⟩ = some (.int .i64 ((rd_T48 l0_0 x37_3).f1)) := (blk_cell BK106.out 1).trans rfl
                                have hcz64_2 : wc.cell? ⟨gb106, 2, none⟩ = some (.int .i64 ((rd_T48 l0_0 x37_3).f2)) := (blk_cell BK106.out 2).trans rfl
                                have hcz64_3 : wc.cell? ⟨gb106, 3, none⟩ = some (.int .i64 ((rd_T48 l0_0 x37_3).f3)) := (blk_cell BK106.out 3).trans rfl
                                have hcz64_4 : wc.cell? ⟨gb106, 4, none⟩ = some (.int .i64 ((rd_T48 l0_0 x37_3).f4)) := (blk_cell BK106.out 4).trans rfl
                                have hcz64_5 : wc.cell? ⟨gb106, 5, none⟩ = some (.int .i64 ((rd_T48 l0_0 x37_3).f5)) := (blk_cell BK106.out 5).trans rfl
                                have hcz64_6 : wc.cell? ⟨gb106, 6, none⟩ = some (.int .i64 ((rd_T48 l0_0 x37_3).f6)) := (blk_cell BK106.out 6).trans rfl
                                have hfz64_0 := blk_frozen BK106.out 0
                                have hfz64_1 := blk_frozen BK106.out 1
                                have hfz64_2 := blk_frozen BK106.out 2
                                have hfz64_3 := blk_frozen BK106.out 3
                                have hfz64_4 := blk_frozen BK106.out 4
                                have hfz64_5 := blk_frozen BK106.out 5
                                have hfz64_6 := blk_frozen BK106.out 6
                                have hcz65_0 : wc.cell? ⟨gb102, 0, none⟩ = some (.slice (some ad105) l0_0.length c0_0) := (blk_cell BK102.out 0).trans rfl
                                have hcz65_1 : wc.cell? ⟨gb102, 1, none⟩ = some (.slice A0_1 l0_1.length c0_1) := (blk_cell BK102.out 1).trans rfl
                                have hfz65_0 := blk_frozen BK102.out 0
                                have hfz65_1 := blk_frozen BK102.out 1
                                go_wp2_with (first | (go_at_call 33; (with_reducible refine (relax_within.calls ((rd_T48 l0_0 x37_3).f2) 0 (wrap64 ((l0_1.length : Int) - 1)) false _ A33.out).mono ?_); rintro e w' ⟨rfl, ⟨nd, rfl⟩⟩))
                                go_roundg kj17
                                case measure => have := HJ1.out; have := HK2.out; have := HK3.out; have := HJ17.out; omega
                                case rel => exact ⟨(false), (wrap64 (x37_3 + 1)), (by first | rfl | (simp; done) | (simp [*]; done)), (by first | rfl | (simp; done) | (simp [*]; done)), H', ⟨by have := HJ1.out; have := HK2.out; have := HK3.out; have := HJ17.out; omega⟩, ⟨by (with_reducible repeat (first | refine blk_drewN ?_ _ | refine blk_drew ?_ | refine blk_alloc ?_ _)); exact BK102.out⟩, ⟨by repeat (first | (with_reducible first | exact HB.out | apply below_alloc | apply pw_below_drewN | apply below_drew1 | refine below_set ?_ GE102.out | refine below_set ?_ GE106.out) | exact HB.out)⟩⟩
                            · replace c32 := Bool.eq_false_iff.mpr c32
                              subst c32
                              have H1 : (relax_Check.l1 kj17 false l0_0 (l0_0.length : Int) (wrap64 (x37_3 + 1)) l0_0 l0_1) = some r := by rw [if_neg (show ¬ (false = true) by decide)] at H; exact H
                              clear H
                              have H := H1
                              clear H1
                              have H' := Aside0.mk H
                              clear H
                              have hnb66 := NB106_102.out
                              have hnc66 := NB102_106.out
                              have hcz67_0 : wc.cell? ⟨gb106, 0, none⟩ = some (.int .i64 ((rd_T48 l0_0 x37_3).f0)) := (blk_cell BK106.out 0).trans rfl
                              have hcz67_1 : wc.cell? ⟨gb106, 1, none⟩ = some (.int .i64 ((rd_T48 l0_0 x37_3).f1)) := (blk_cell BK106.out 1).trans rfl
                              have hcz67_2 : wc.cell? ⟨gb106, 2, none⟩ = some (.int .i64 ((rd_T48 l0_0 x37_3).f2)) := (blk_cell BK106.out 2).trans rfl
                              have hcz67_3 : wc.cell? ⟨gb106, 3, none⟩ = some (.int .i64 ((rd_T48 l0_0 x37_3).f3)) := (blk_cell BK106.out 3).trans rfl
                              have hcz67_4 : wc.cell? ⟨gb106, 4, none⟩ = some (.int .i64 ((rd_T48 l0_0 x37_3).f4)) := (blk_cell BK106.out 4).trans rfl
                              have hcz67_5 : wc.cell? ⟨gb106, 5, none⟩ = some (.int .i64 ((rd_T48 l0_0 x37_3).f5)) := (blk_cell BK106.out 5).trans rfl
                              have hcz67_6 : wc.cell? ⟨gb106, 6, none⟩ = some (.int .i64 ((rd_T48 l0_0 x37_3).f6)) := (blk_cell BK106.out 6).trans rfl
                              have hfz67_0 := blk_frozen BK106.out 0
                              have hfz67_1 := blk_frozen BK106.out 1
                              have hfz67_2 := blk_frozen BK106.out 2
                              have hfz67_3 := blk_frozen BK106.out 3
                              have hfz67_4 := blk_frozen BK106.out 4
                              have hfz67_5 := blk_frozen BK106.out 5
                              have hfz67_6 := blk_frozen BK106.out 6
                              go_wp2
                              go_roundg kj17
                              case measure => have := HJ1.out; have := HK2.out; have := HK3.out; have := HJ17.out; omega
                              case rel => exact ⟨(false), (wrap64 (x37_3 + 1)), (by first | rfl | (simp; done) | (simp [*]; done)), (by first | rfl | (simp; done) | (simp [*]; done)), H', ⟨by have := HJ1.out; have := HK2.out; have := HK3.out; have := HJ17.out; omega⟩, ⟨by (with_reducible repeat (first | refine blk_drewN ?_ _ | refine blk_drew ?_ | refine blk_alloc ?_ _)); exact BK102.out⟩, ⟨by repeat (first | (with_reducible first | exact HB.out | apply below_alloc | apply pw_below_drewN | apply below_drew1 | refine below_set ?_ GE102.out | refine below_set ?_ GE106.out) | exact HB.out)⟩⟩
                    · rw [if_neg c17] at H
                      exact absurd H (by simp)
                  · rw [if_neg c16] at H
                    exact absurd H (by simp)
                · rw [if_neg c15] at H
                  have c15b0 : decide (x37_3 < (l0_0.length : Int)) = false := decide_eq_false c15
                  clear c15
                  by_cases c68 : x3_3 = true
                  · subst c68
                    have H1 : (some 0) = some r := by rw [if_pos rfl] at H; exact H
                    clear H
                    have H := H1
                    clear H1
                    obtain rfl := Option.some.inj H
                    go_wp2
                    go_ret
                    exact ⟨by first | rfl | (simp [errW_none, errW_some] <;> rfl) | (simp [*, errW_none, errW_some] <;> rfl), by repeat (first | (with_reducible first | exact HB.out | apply below_alloc | apply pw_below_drewN | apply below_drew1 | refine below_set ?_ GE102.out) | exact HB.out)⟩
                  · replace c68 := Bool.eq_false_iff.mpr c68
                    subst c68
                    have H1 : (some 8) = some r := by rw [if_neg (show ¬ (false = true) by decide)] at H; exact H
                    clear H
                    have H := H1
                    clear H1
                    obtain rfl := Option.some.inj H
                    go_wp2
                    go_ret
                    exact ⟨by first | rfl | (simp [errW_none, errW_some] <;> rfl) | (simp [*, errW_none, errW_some] <;> rfl), by repeat (first | (with_reducible first | exact HB.out | apply below_alloc | apply pw_below_drewN | apply below_drew1 | refine below_set ?_ GE102.out) | exact HB.out)⟩

end Go.Proofs.Ytclmipjoebbeiaa.Q
