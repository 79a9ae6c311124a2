-- Written by wip/tools/given.py (own program over the kit's print.py) out of the translation. Not trusted: Lean checks it.
import Derived.Test.YtclmipjoebbeiaaQx0
import Derived.Test.YtclmipjoebbeiaaQx3
import Derived.Test.YtclmipjoebbeiaaIter
namespace Go.Proofs.Ytclmipjoebbeiaa.Q
open Go.RowKit Go.Proofs.YtclmipjoebbeiaaW.PrintWords Go.Proofs.YtclmipjoebbeiaaW.PrintLast Go.Proofs.YtclmipjoebbeiaaW.PrintMore
attribute [local go_sem] max2_int min2_int max_two min_two max_three min_three max_four min_four   -- for this text's walks alone
set_option linter.unusedVariables false
set_option linter.unusedSimpArgs false

/-! ### relax_reaches: function 31 -/
open Go.Shelf
attribute [local go_sem] Oper.semAt_some
theorem within_dec (a b c : Int) : relax_within.f a b c = some (decide (b ≤ a ∧ a ≤ c)) := by
  unfold relax_within.f
  by_cases h : b ≤ a
  · rw [if_pos h]; congr 1; simp [h]
  · rw [if_neg h]; congr 1; simp [h]
set_option maxRecDepth 100000 in
set_option maxHeartbeats 2000000 in
theorem reaches_in (ad0 ad1 ad2 : Addr) (n0 c0 n1 c1 n2 c2 : Nat) (i j s0 s1 s2 s3 s4 s5 s6 t u v d : Int) (b : Bool) (w : World)
    (p0 : 0 ≤ i) (q0 : i < (n0 : Int)) (p1 : 0 ≤ s2) (q1 : s2 < (n1 : Int)) (p2 : 0 ≤ t) (q2 : t < (n2 : Int))
    (hj : IntKind.i64.wrap (i + 1) = j) (hd : IntKind.i64.wrap (u - v) = d) (p3 : 0 ≤ j) (q3 : j < (n2 : Int))
    (hx0 : w.cell? (ad0.add (i.toNat * 7)) = some (Value.int IntKind.i64 s0))
    (hx1 : w.cell? ⟨(ad0.add (i.toNat * 7)).block, (ad0.add (i.toNat * 7)).off + 1, none⟩ = some (Value.int IntKind.i64 s1))
    (hx2 : w.cell? ⟨(ad0.add (i.toNat * 7)).block, (ad0.add (i.toNat * 7)).off + 2, none⟩ = some (Value.int IntKind.i64 s2))
    (hx3 : w.cell? ⟨(ad0.add (i.toNat * 7)).block, (ad0.add (i.toNat * 7)).off + 3, none⟩ = some (Value.int IntKind.i64 s3))
    (hx4 : w.cell? ⟨(ad0.add (i.toNat * 7)).block, (ad0.add (i.toNat * 7)).off + 4, none⟩ = some (Value.int IntKind.i64 s4))
    (hx5 : w.cell? ⟨(ad0.add (i.toNat * 7)).block, (ad0.add (i.toNat * 7)).off + 5, none⟩ = some (Value.int IntKind.i64 s5))
    (hx6 : w.cell? ⟨(ad0.add (i.toNat * 7)).block, (ad0.add (i.toNat * 7)).off + 6, none⟩ = some (Value.int IntKind.i64 s6))
    (hy : w.cell? (ad1.add s2.toNat) = some (Value.int IntKind.i64 t))
    (hz : w.cell? (ad2.add t.toNat) = some (Value.int IntKind.i64 u))
    (hz' : w.cell? (ad2.add j.toNat) = some (Value.int IntKind.i64 v)) :
    Calls Try.prog 31 #[.agg #[.slice (some ad0) n0 c0, .slice (some ad1) n1 c1], .slice (some ad2) n2 c2, .int .i64 i, .bool b] w fun e w' => e = .returned (.bool (if b = true then decide (s5 ≤ d ∧ d ≤ s6) else decide (s3 ≤ d ∧ d ≤ s4))) ∧ Below w.heap.size w w' := by
  have b0 : (ad0.add (i.toNat * 7)).block < w.heap.size := cell_lt hx0
  have b1 : (ad1.add s2.toNat).block < w.heap.size := cell_lt hy
  have b2 : (ad2.add t.toNat).block < w.heap.size := cell_lt hz
  have b3 : (ad2.add j.toNat).block < w.heap.size := cell_lt hz'
  have m1 : ∀ k : Nat, (⟨w.heap.size + 1, k, none⟩ : Addr) ≠ ad1.add s2.toNat := fun k e => by rw [← e] at b1; exact absurd b1 (by simp)
  have m2 : ∀ k : Nat, (⟨w.heap.size + 1, k, none⟩ : Addr) ≠ ad2.add t.toNat := fun k e => by rw [← e] at b2; exact absurd b2 (by simp)
  have m3 : ∀ k : Nat, (⟨w.heap.size + 1, k, none⟩ : Addr) ≠ ad2.add j.toNat := fun k e => by rw [← e] at b3; exact absurd b3 (by simp)
  cases b with
  | true =>
    go_enter Try.func31, Try.ntmps31
    go_wp2
    go_quiet (first | (fail))
    go_wp2_with (first | (go_at_call 33; (with_reducible refine (relax_within.calls d s5 s6 _ _ (within_dec d s5 s6)).mono ?_); rintro e w' ⟨rfl, ⟨nd, rfl⟩⟩; (try first | exact ⟨rfl, _, World.drewN_drewN _ _ _⟩ | exact ⟨rfl, _, Eq.trans (World.drewN_drewN _ _ _) (congrArg (World.drewN _) (Nat.add_assoc _ _ _))⟩)))
    go_ret
    exact ⟨rfl, by repeat (first | apply below_alloc | apply pw_below_drewN | exact Below.refl _ _)⟩
  | false =>
    go_enter Try.func31, Try.ntmps31
    go_wp2
    go_quiet (first | (fail))
    go_wp2_with (first | (go_at_call 33; (with_reducible refine (relax_within.calls d s3 s4 _ _ (within_dec d s3 s4)).mono ?_); rintro e w' ⟨rfl, ⟨nd, rfl⟩⟩; (try first | exact ⟨rfl, _, World.drewN_drewN _ _ _⟩ | exact ⟨rfl, _, Eq.trans (World.drewN_drewN _ _ _) (congrArg (World.drewN _) (Nat.add_assoc _ _ _))⟩)))
    go_ret
    exact ⟨rfl, by repeat (first | apply below_alloc | apply pw_below_drewN | exact Below.refl _ _)⟩
def relax_reaches.f (l0_0 : List (S48)) (l0_1 : List Int) (l1 : List Int) (a2 : Int) (a3 : Bool) : Option (Bool) :=
  if (0 ≤ a2 ∧ a2 < (l0_0.length : Int)) ∧ (0 ≤ (rd_T48 l0_0 a2).f2 ∧ (rd_T48 l0_0 a2).f2 < (l0_1.length : Int)) ∧ (0 ≤ rd l0_1 (rd_T48 l0_0 a2).f2 ∧ rd l0_1 (rd_T48 l0_0 a2).f2 < (l1.length : Int)) ∧ 0 ≤ wrap64 (a2 + 1) ∧ wrap64 (a2 + 1) < (l1.length : Int) then
    some (if a3 = true then decide ((rd_T48 l0_0 a2).f5 ≤ wrap64 (rd l1 (rd l0_1 (rd_T48 l0_0 a2).f2) - rd l1 (wrap64 (a2 + 1))) ∧ wrap64 (rd l1 (rd l0_1 (rd_T48 l0_0 a2).f2) - rd l1 (wrap64 (a2 + 1))) ≤ (rd_T48 l0_0 a2).f6)
      else decide ((rd_T48 l0_0 a2).f3 ≤ wrap64 (rd l1 (rd l0_1 (rd_T48 l0_0 a2).f2) - rd l1 (wrap64 (a2 + 1))) ∧ wrap64 (rd l1 (rd l0_1 (rd_T48 l0_0 a2).f2) - rd l1 (wrap64 (a2 + 1))) ≤ (rd_T48 l0_0 a2).f4))
  else none
theorem relax_reaches.calls (A0_0 : Option Addr) (c0_0 : Nat) (l0_0 : List (S48)) (A0_1 : Option Addr) (c0_1 : Nat) (l0_1 : List Int) (A1 : Option Addr) (c1 : Nat) (l1 : List Int) (a2 : Int) (a3 : Bool) (r : Bool) (w : World) (hr0_0 : Kd.C k48 w A0_0 l0_0.length l0_0) (hc0_0 : l0_0.length ≤ c0_0) (hr0_1 : Kd.C (Kd.int .i64) w A0_1 l0_1.length l0_1) (hc0_1 : l0_1.length ≤ c0_1) (hr1 : Kd.C (Kd.int .i64) w A1 l1.length l1) (hc1 : l1.length ≤ c1) (h : relax_reaches.f l0_0 l0_1 l1 a2 a3 = some r) :
    Calls Try.prog 31 #[.agg #[.slice A0_0 l0_0.length c0_0, .slice A0_1 l0_1.length c0_1], .slice A1 l1.length c1, .int .i64 a2, .bool a3] w fun e w' => e = .returned (.bool r) ∧ Below w.heap.size w w' := by
  unfold relax_reaches.f at h
  by_cases hc : (0 ≤ a2 ∧ a2 < (l0_0.length : Int)) ∧ (0 ≤ (rd_T48 l0_0 a2).f2 ∧ (rd_T48 l0_0 a2).f2 < (l0_1.length : Int)) ∧ (0 ≤ rd l0_1 (rd_T48 l0_0 a2).f2 ∧ rd l0_1 (rd_T48 l0_0 a2).f2 < (l1.length : Int)) ∧ 0 ≤ wrap64 (a2 + 1) ∧ wrap64 (a2 + 1) < (l1.length : Int)
  · rw [if_pos hc] at h
    obtain rfl := Option.some.inj h
    obtain ⟨⟨p0, q0⟩, ⟨p1, q1⟩, ⟨p2, q2⟩, p3, q3⟩ := hc
    obtain ⟨ad0, rfl, hx0, hx1, hx2, hx3, hx4, hx5, hx6⟩ := at_T48 hr0_0 a2 p0 q0
    obtain ⟨ad1, rfl, hy⟩ := Kd.at_int hr0_1 _ p1 q1
    obtain ⟨ad2, e2, hz⟩ := Kd.at_int hr1 _ p2 q2
    obtain ⟨ad3, e3, hz'⟩ := Kd.at_int hr1 _ p3 q3
    cases e2
    cases e3
    exact reaches_in ad0 ad1 ad2 _ _ _ _ _ _ a2 _ _ _ _ _ _ _ _ _ _ _ _ a3 w p0 q0 p1 q1 p2 q2 (i64_w _) (i64_w _) p3 q3 hx0 hx1 hx2 hx3 hx4 hx5 hx6 hy hz hz'
  · rw [if_neg hc] at h
    cases h

end Go.Proofs.Ytclmipjoebbeiaa.Q
