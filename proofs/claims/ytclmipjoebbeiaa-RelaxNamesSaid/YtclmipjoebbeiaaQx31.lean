-- Written by wip/tools/given.py (own program over the kit's print.py) out of the translation. Not trusted: Lean checks it.
import Derived.Test.YtclmipjoebbeiaaQx0
import Derived.Test.YtclmipjoebbeiaaQx25
import Derived.Test.YtclmipjoebbeiaaQx28
import Derived.Test.YtclmipjoebbeiaaQx29
import Derived.Test.YtclmipjoebbeiaaQx30
import Derived.Test.YtclmipjoebbeiaaIter
import Derived.Test.YtclmipjoebbeiaaGrowLeast
namespace Go.Proofs.Ytclmipjoebbeiaa.Q
open Go.RowKit Go.Proofs.YtclmipjoebbeiaaW.PrintWords Go.Proofs.YtclmipjoebbeiaaW.PrintLast Go.Proofs.YtclmipjoebbeiaaW.PrintMore
attribute [local go_sem] max2_int min2_int max_two min_two max_three min_three max_four min_four   -- for this text's walks alone
set_option linter.unusedVariables false
set_option linter.unusedSimpArgs false

/-! ### retargetlaw40_alive: function 23 -/
attribute [local go_sem] Oper.semAt_some
def enc48 (x : S48) : List Value := [.int .i64 x.f0, .int .i64 x.f1, .int .i64 x.f2, .int .i64 x.f3, .int .i64 x.f4, .int .i64 x.f5, .int .i64 x.f6]
theorem C_lit48 {w : World} {b : Nat} {xs : List S48} {cs : Array Value} (h : w.heap[b]? = some (.cells cs 48 (0, 0))) (hc : cs = (xs.flatMap enc48).toArray) (hl : xs.length ≤ 1000) : k48.C w (some ⟨b, 0, none⟩) xs.length xs := by
  refine ⟨rfl, by omega, fun _ => ⟨_, rfl, fun j p hj => ⟨enc48 p, rfl, k48_mk w p, fun i u hu => ?_⟩⟩⟩
  have hi : i < 7 := (List.getElem?_eq_some_iff.1 hu).1
  have e : (Addr.add ⟨b, 0, none⟩ (j * 7 + i)) = ⟨b, j * 7 + i, none⟩ := by unfold Addr.add; split <;> simp_all
  show w.cell? (Addr.add ⟨b, 0, none⟩ (j * 7 + i)) = some u
  rw [e, blk_cell h, hc]
  have : ∀ (xs : List S48) (j : Nat), xs[j]? = some p → (xs.flatMap enc48)[j * 7 + i]? = some u := by
    intro xs
    induction xs with
    | nil => intro j h; cases h
    | cons x xs ih =>
      intro j h
      rw [List.flatMap_cons]
      have h7 : (enc48 x).length = 7 := rfl
      cases j with
      | zero =>
        have hx : x = p := by simpa using h
        rw [List.getElem?_append_left (by rw [h7]; omega), hx]
        simpa using hu
      | succ j =>
        rw [List.getElem?_append_right (by rw [h7]; omega), h7, show (j + 1) * 7 + i - 7 = j * 7 + i by omega]
        exact ih j (by simpa using h)
  simpa using this xs j hj
theorem C_litI {w : World} {b : Nat} {xs : List Int} {cs : Array Value} (h : w.heap[b]? = some (.cells cs 3 (0, 0))) (hc : cs = (xs.map (Value.int .i64)).toArray) (hl : xs.length ≤ 1000) : (Kd.int .i64).C w (some ⟨b, 0, none⟩) xs.length xs := by
  refine ⟨rfl, by omega, fun _ => ⟨_, rfl, fun j p hj => ⟨[.int .i64 p], rfl, rfl, fun i u hu => ?_⟩⟩⟩
  have hi : i < 1 := (List.getElem?_eq_some_iff.1 hu).1
  have hi0 : i = 0 := by omega
  subst hi0
  have hu' : Value.int .i64 p = u := by simpa using hu
  have e : (Addr.add ⟨b, 0, none⟩ (j * 1 + 0)) = ⟨b, j, none⟩ := by unfold Addr.add; split <;> simp_all
  show w.cell? (Addr.add ⟨b, 0, none⟩ (j * 1 + 0)) = some u
  rw [e, blk_cell h, hc, ← hu']
  simp [hj]
theorem C_litB {w : World} {b : Nat} {xs : List Bool} {cs : Array Value} (h : w.heap[b]? = some (.cells cs 4 (0, 0))) (hc : cs = (xs.map Value.bool).toArray) (hl : xs.length ≤ 1000) : Kd.bool.C w (some ⟨b, 0, none⟩) xs.length xs := by
  refine ⟨rfl, by omega, fun _ => ⟨_, rfl, fun j p hj => ⟨[.bool p], rfl, rfl, fun i u hu => ?_⟩⟩⟩
  have hi : i < 1 := (List.getElem?_eq_some_iff.1 hu).1
  have hi0 : i = 0 := by omega
  subst hi0
  have hu' : Value.bool p = u := by simpa using hu
  have e : (Addr.add ⟨b, 0, none⟩ (j * 1 + 0)) = ⟨b, j, none⟩ := by unfold Addr.add; split <;> simp_all
  show w.cell? (Addr.add ⟨b, 0, none⟩ (j * 1 + 0)) = some u
  rw [e, blk_cell h, hc, ← hu']
  simp [hj]
def jumpS (t low high : Int) : S48 := ⟨1, 2, t, low, high, -1000, 1000⟩
def wordS (n : Int) : S48 := ⟨n, 0, -1, 0, 0, 0, 0⟩

theorem fr_set_ (w : World) (B : Nat) (p : Addr) (u : Value) (h : B ≤ p.block) : Below B w (w.setCell p u) := ⟨rfl, rfl, rfl, by simp, fun k hk => Below.heap_setCell w p u k (by omega)⟩
set_option maxRecDepth 100000 in
set_option maxHeartbeats 2000000 in
theorem over_calls (n : Int) (w : World) : Calls Try.prog 38 #[.int .i64 n] w fun e w' => ∃ b0 b1, e = .returned (.agg #[.slice (some ⟨b0, 0, none⟩) 2 2, .slice (some ⟨b1, 0, none⟩) 1 1]) ∧
    w'.heap[b0]? = some (.cells ([jumpS 0 (-4) 3, wordS n].flatMap enc48).toArray 48 (0, 0)) ∧ w'.heap[b1]? = some (.cells #[.int .i64 2] 3 (0, 0)) ∧ Below w.heap.size w w' := by
  go_enter Try.func38, Try.ntmps38
  go_wp2_with (first | (fail))
  go_at_call 26
  with_reducible refine (retargetlaw40_jump.calls 0 (-4) 3 1 2 0 (-4) 3 (-1000) 1000 _ rfl).mono ?_
  rintro e w1 ⟨rfl, hb1⟩
  go_wp2_with (first | (fail))
  go_at_call 24
  with_reducible refine (retargetlaw40_words.calls n n 0 (-1) 0 0 0 0 _ rfl).mono ?_
  rintro e w2 ⟨rfl, hb2⟩
  have k2 := blk_below (blk_below (blk_new w (.cells #[.slice none 0 0, .slice none 0 0] 25)) hb1) hb2
  have d0 : w2.cell? ⟨w.heap.size, 0, none⟩ = some (.slice none 0 0) := (blk_cell k2 0).trans rfl
  have d1 : w2.cell? ⟨w.heap.size, 1, none⟩ = some (.slice none 0 0) := (blk_cell k2 1).trans rfl
  have f0 := blk_frozen k2 0
  have f1 := blk_frozen k2 1
  have lt := blk_lt k2
  go_wp2_with (first | (fail))
  have k3 : ((((w2.setCell ⟨w.heap.size, 0, none⟩ (.slice (some ⟨w2.heap.size, 0, none⟩) 2 2)).setCell ⟨w.heap.size, 1, none⟩ (.slice (some ⟨w2.heap.size + 1, 0, none⟩) 1 1)).alloc (.cells #[.int .i64 1, .int .i64 2, .int .i64 0, .int .i64 (-4), .int .i64 3, .int .i64 (-1000), .int .i64 1000, .int .i64 n, .int .i64 0, .int .i64 (-1), .int .i64 0, .int .i64 0, .int .i64 0, .int .i64 0] 48)).alloc (.cells #[.int .i64 2] 3)).heap[w.heap.size]? = some (.cells #[.slice (some ⟨w2.heap.size, 0, none⟩) 2 2, .slice (some ⟨w2.heap.size + 1, 0, none⟩) 1 1] 25 (0, 0)) := blk_alloc (blk_alloc (blk_set (blk_set k2 0 _) 1 _) _) _
  have c0 := (blk_cell k3 0)
  have c1 := (blk_cell k3 1)
  have s0 : ((w2.setCell ⟨w.heap.size, 0, none⟩ (.slice (some ⟨w2.heap.size, 0, none⟩) 2 2)).setCell ⟨w.heap.size, 1, none⟩ (.slice (some ⟨w2.heap.size + 1, 0, none⟩) 1 1)).heap.size = w2.heap.size := by simp
  have b0 := blk_new ((w2.setCell ⟨w.heap.size, 0, none⟩ (.slice (some ⟨w2.heap.size, 0, none⟩) 2 2)).setCell ⟨w.heap.size, 1, none⟩ (.slice (some ⟨w2.heap.size + 1, 0, none⟩) 1 1)) (.cells #[.int .i64 1, .int .i64 2, .int .i64 0, .int .i64 (-4), .int .i64 3, .int .i64 (-1000), .int .i64 1000, .int .i64 n, .int .i64 0, .int .i64 (-1), .int .i64 0, .int .i64 0, .int .i64 0, .int .i64 0] 48)
  have b1 := blk_new (((w2.setCell ⟨w.heap.size, 0, none⟩ (.slice (some ⟨w2.heap.size, 0, none⟩) 2 2)).setCell ⟨w.heap.size, 1, none⟩ (.slice (some ⟨w2.heap.size + 1, 0, none⟩) 1 1)).alloc (.cells #[.int .i64 1, .int .i64 2, .int .i64 0, .int .i64 (-4), .int .i64 3, .int .i64 (-1000), .int .i64 1000, .int .i64 n, .int .i64 0, .int .i64 (-1), .int .i64 0, .int .i64 0, .int .i64 0, .int .i64 0] 48)) (.cells #[.int .i64 2] 3)
  have hB : Below w.heap.size w ((((w2.setCell ⟨w.heap.size, 0, none⟩ (.slice (some ⟨w2.heap.size, 0, none⟩) 2 2)).setCell ⟨w.heap.size, 1, none⟩ (.slice (some ⟨w2.heap.size + 1, 0, none⟩) 1 1)).alloc (.cells #[.int .i64 1, .int .i64 2, .int .i64 0, .int .i64 (-4), .int .i64 3, .int .i64 (-1000), .int .i64 1000, .int .i64 n, .int .i64 0, .int .i64 (-1), .int .i64 0, .int .i64 0, .int .i64 0, .int .i64 0] 48)).alloc (.cells #[.int .i64 2] 3)) := by
    have h0 : Below w.heap.size w w2 := ((Below.refl w.heap.size w).alloc (Nat.le_refl _) _).trans ((hb1.mono (by simp)).trans (hb2.mono (Nat.le_trans (by simp) hb1.size)))
    exact (((h0.trans ((fr_set_ w2 _ _ _ (Nat.le_refl _)))).trans (fr_set_ _ _ _ _ (Nat.le_refl _))).alloc (by simp; omega) _).alloc (by simp; omega) _
  rw [s0] at b0
  simp only [World.size_alloc, s0] at b1
  generalize hW : ((((w2.setCell ⟨w.heap.size, 0, none⟩ (.slice (some ⟨w2.heap.size, 0, none⟩) 2 2)).setCell ⟨w.heap.size, 1, none⟩ (.slice (some ⟨w2.heap.size + 1, 0, none⟩) 1 1)).alloc (.cells #[.int .i64 1, .int .i64 2, .int .i64 0, .int .i64 (-4), .int .i64 3, .int .i64 (-1000), .int .i64 1000, .int .i64 n, .int .i64 0, .int .i64 (-1), .int .i64 0, .int .i64 0, .int .i64 0, .int .i64 0] 48)).alloc (.cells #[.int .i64 2] 3)) = W at k3 c0 c1 b0 b1 hB ⊢
  refine bodyPost_ret_by (v := .agg #[.slice (some ⟨w2.heap.size, 0, none⟩) 2 2, .slice (some ⟨w2.heap.size + 1, 0, none⟩) 1 1]) ?_ rfl ⟨_, _, rfl, by rw [← hW]; exact blk_alloc b0 _, b1, hB⟩
  simp [results, go_sem, c0, c1]

theorem gives_ex (its : List S48) (lab : List Int) (l : List Bool) (h : solveS its lab = (l, 0)) (h1 : its.length ≤ 100000) (h2 : lab.length ≤ 100000) (h3 : l.length ≤ 100000) : ∃ k, retargetlaw40_gives.f k its lab l = some true := by
  refine Ev.rounds (g := fun k => retargetlaw40_gives.f k its lab l) ?_
  unfold retargetlaw40_gives.f
  have e : ∀ k, relax_Solve.f k its lab = some (l, 0) := fun k => by unfold relax_Solve.f; rw [if_pos ⟨h1, h2⟩, h]
  simp only [e, Option.bind_some, if_true]
  exact Ev.bind (evn_SameBools _ _ h3) (by rw [decide_eq_true rfl]; exact Ev.now _)
theorem solve3 : solveS [jumpS 0 (-4) 3, wordS 3] [2] = ([false, false], 0) := by decide +kernel
theorem solve4 : solveS [jumpS 0 (-4) 3, wordS 4] [2] = ([true, false], 0) := by decide +kernel
theorem solve2 : solveS [jumpS 0 (-2) 2, jumpS 1 (-2) 2, wordS 2] [3, 0] = ([true, true, false], 0) := by decide +kernel

set_option maxRecDepth 100000 in
set_option maxHeartbeats 4000000 in
theorem alive_ok (w : World) : Calls Try.prog 23 #[] w fun e w' => e = .returned (.bool true) ∧ Below w.heap.size w w' := by
  go_enter Try.func23, Try.ntmps23
  go_wp2_with (first | (fail))
  go_at_call 26
  with_reducible refine (retargetlaw40_jump.calls 0 (-2) 2 1 2 0 (-2) 2 (-1000) 1000 _ rfl).mono ?_
  rintro e w1 ⟨rfl, hb1⟩
  go_wp2_with (first | (fail))
  go_at_call 26
  with_reducible refine (retargetlaw40_jump.calls 1 (-2) 2 1 2 1 (-2) 2 (-1000) 1000 _ rfl).mono ?_
  rintro e w2 ⟨rfl, hb2⟩
  go_wp2_with (first | (fail))
  go_at_call 24
  with_reducible refine (retargetlaw40_words.calls 2 2 0 (-1) 0 0 0 0 _ rfl).mono ?_
  rintro e w3 ⟨rfl, hb3⟩
  have hB3 : Below w.heap.size w w3 := (hb1.trans (hb2.mono hb1.size)).trans (hb3.mono (Nat.le_trans hb1.size hb2.size))
  clear hb1 hb2 hb3
  go_wp2_with (first | (fail))
  have n0 := blk_new w3 (.cells #[.int .i64 1, .int .i64 2, .int .i64 0, .int .i64 (-2), .int .i64 2, .int .i64 (-1000), .int .i64 1000, .int .i64 1, .int .i64 2, .int .i64 1, .int .i64 (-2), .int .i64 2, .int .i64 (-1000), .int .i64 1000, .int .i64 2, .int .i64 0, .int .i64 (-1), .int .i64 0, .int .i64 0, .int .i64 0, .int .i64 0] 48)
  have n1 := blk_new (w3.alloc (.cells #[.int .i64 1, .int .i64 2, .int .i64 0, .int .i64 (-2), .int .i64 2, .int .i64 (-1000), .int .i64 1000, .int .i64 1, .int .i64 2, .int .i64 1, .int .i64 (-2), .int .i64 2, .int .i64 (-1000), .int .i64 1000, .int .i64 2, .int .i64 0, .int .i64 (-1), .int .i64 0, .int .i64 0, .int .i64 0, .int .i64 0] 48)) (.cells #[.int .i64 3, .int .i64 0] 3)
  have n2 := blk_new ((w3.alloc (.cells #[.int .i64 1, .int .i64 2, .int .i64 0, .int .i64 (-2), .int .i64 2, .int .i64 (-1000), .int .i64 1000, .int .i64 1, .int .i64 2, .int .i64 1, .int .i64 (-2), .int .i64 2, .int .i64 (-1000), .int .i64 1000, .int .i64 2, .int .i64 0, .int .i64 (-1), .int .i64 0, .int .i64 0, .int .i64 0, .int .i64 0] 48)).alloc (.cells #[.int .i64 3, .int .i64 0] 3)) (.cells #[.slice (some ⟨w3.heap.size, 0, none⟩) 3 3, .slice (some ⟨w3.heap.size + 1, 0, none⟩) 2 2] 25)
  simp only [World.size_alloc] at n1 n2
  have k0 : ((((w3.alloc (.cells #[.int .i64 1, .int .i64 2, .int .i64 0, .int .i64 (-2), .int .i64 2, .int .i64 (-1000), .int .i64 1000, .int .i64 1, .int .i64 2, .int .i64 1, .int .i64 (-2), .int .i64 2, .int .i64 (-1000), .int .i64 1000, .int .i64 2, .int .i64 0, .int .i64 (-1), .int .i64 0, .int .i64 0, .int .i64 0, .int .i64 0] 48)).alloc (.cells #[.int .i64 3, .int .i64 0] 3)).alloc (.cells #[.slice (some ⟨w3.heap.size, 0, none⟩) 3 3, .slice (some ⟨w3.heap.size + 1, 0, none⟩) 2 2] 25))).heap[w3.heap.size]? = some (.cells #[.int .i64 1, .int .i64 2, .int .i64 0, .int .i64 (-2), .int .i64 2, .int .i64 (-1000), .int .i64 1000, .int .i64 1, .int .i64 2, .int .i64 1, .int .i64 (-2), .int .i64 2, .int .i64 (-1000), .int .i64 1000, .int .i64 2, .int .i64 0, .int .i64 (-1), .int .i64 0, .int .i64 0, .int .i64 0, .int .i64 0] 48) := blk_alloc (blk_alloc n0 _) _
  have k1 : ((((w3.alloc (.cells #[.int .i64 1, .int .i64 2, .int .i64 0, .int .i64 (-2), .int .i64 2, .int .i64 (-1000), .int .i64 1000, .int .i64 1, .int .i64 2, .int .i64 1, .int .i64 (-2), .int .i64 2, .int .i64 (-1000), .int .i64 1000, .int .i64 2, .int .i64 0, .int .i64 (-1), .int .i64 0, .int .i64 0, .int .i64 0, .int .i64 0] 48)).alloc (.cells #[.int .i64 3, .int .i64 0] 3)).alloc (.cells #[.slice (some ⟨w3.heap.size, 0, none⟩) 3 3, .slice (some ⟨w3.heap.size + 1, 0, none⟩) 2 2] 25))).heap[w3.heap.size + 1]? = some (.cells #[.int .i64 3, .int .i64 0] 3) := blk_alloc n1 _
  have k2 : ((((w3.alloc (.cells #[.int .i64 1, .int .i64 2, .int .i64 0, .int .i64 (-2), .int .i64 2, .int .i64 (-1000), .int .i64 1000, .int .i64 1, .int .i64 2, .int .i64 1, .int .i64 (-2), .int .i64 2, .int .i64 (-1000), .int .i64 1000, .int .i64 2, .int .i64 0, .int .i64 (-1), .int .i64 0, .int .i64 0, .int .i64 0, .int .i64 0] 48)).alloc (.cells #[.int .i64 3, .int .i64 0] 3)).alloc (.cells #[.slice (some ⟨w3.heap.size, 0, none⟩) 3 3, .slice (some ⟨w3.heap.size + 1, 0, none⟩) 2 2] 25))).heap[w3.heap.size + 1 + 1]? = some (.cells #[.slice (some ⟨w3.heap.size, 0, none⟩) 3 3, .slice (some ⟨w3.heap.size + 1, 0, none⟩) 2 2] 25) := n2
  have hB4 : Below w.heap.size w (((w3.alloc (.cells #[.int .i64 1, .int .i64 2, .int .i64 0, .int .i64 (-2), .int .i64 2, .int .i64 (-1000), .int .i64 1000, .int .i64 1, .int .i64 2, .int .i64 1, .int .i64 (-2), .int .i64 2, .int .i64 (-1000), .int .i64 1000, .int .i64 2, .int .i64 0, .int .i64 (-1), .int .i64 0, .int .i64 0, .int .i64 0, .int .i64 0] 48)).alloc (.cells #[.int .i64 3, .int .i64 0] 3)).alloc (.cells #[.slice (some ⟨w3.heap.size, 0, none⟩) 3 3, .slice (some ⟨w3.heap.size + 1, 0, none⟩) 2 2] 25)) := ((hB3.alloc hB3.size _).alloc (by have := hB3.size; simp; omega) _).alloc (by have := hB3.size; simp; omega) _
  clear n0 n1 n2 hB3
  generalize (((w3.alloc (.cells #[.int .i64 1, .int .i64 2, .int .i64 0, .int .i64 (-2), .int .i64 2, .int .i64 (-1000), .int .i64 1000, .int .i64 1, .int .i64 2, .int .i64 1, .int .i64 (-2), .int .i64 2, .int .i64 (-1000), .int .i64 1000, .int .i64 2, .int .i64 0, .int .i64 (-1), .int .i64 0, .int .i64 0, .int .i64 0, .int .i64 0] 48)).alloc (.cells #[.int .i64 3, .int .i64 0] 3)).alloc (.cells #[.slice (some ⟨w3.heap.size, 0, none⟩) 3 3, .slice (some ⟨w3.heap.size + 1, 0, none⟩) 2 2] 25)) = w4 at k0 k1 k2 hB4 ⊢
  generalize w3.heap.size = q0 at k0 k1 k2 ⊢
  with_reducible refine (over_calls 3 w4).mono ?_
  rintro e w5 ⟨b0, b1, rfl, m0, m1, hb5⟩
  have K0 := Aside0.mk (blk_below k0 hb5)
  have K1 := Aside0.mk (blk_below k1 hb5)
  have K2 := Aside0.mk (blk_below k2 hb5)
  have HB5 := Aside0.mk (hB4.trans (hb5.mono hB4.size))
  have M0 := Aside0.mk m0
  have M1 := Aside0.mk m1
  clear k0 k1 k2 hB4 hb5 m0 m1
  go_wp2_with (first | (fail))
  go_at_call 25
  obtain ⟨kk, hk⟩ := gives_ex [jumpS 0 (-4) 3, wordS 3] [2] [false, false] solve3 (by decide) (by decide) (by decide)
  have HB5a := Aside0.mk (HB5.out.alloc HB5.out.size (.cells #[.bool false, .bool false] 4))
  have HG : Aside0 (Calls Try.prog 25 #[.agg #[.slice (some ⟨b0, 0, none⟩) 2 2, .slice (some ⟨b1, 0, none⟩) 1 1], .slice (some ⟨w5.heap.size, 0, none⟩) 2 2] (w5.alloc (.cells #[.bool false, .bool false] 4)) fun e w' => e = .returned (.bool true) ∧ Below (w5.alloc (.cells #[.bool false, .bool false] 4)).heap.size (w5.alloc (.cells #[.bool false, .bool false] 4)) w') := ⟨retargetlaw40_gives.calls kk (some ⟨b0, 0, none⟩) 2 [jumpS 0 (-4) 3, wordS 3] (some ⟨b1, 0, none⟩) 1 [2] (some ⟨w5.heap.size, 0, none⟩) 2 [false, false] true _ (C_lit48 (blk_alloc M0.out (.cells #[.bool false, .bool false] 4)) rfl (by decide)) (by decide) (C_litI (blk_alloc M1.out (.cells #[.bool false, .bool false] 4)) rfl (by decide)) (by decide) (C_litB (blk_new w5 (.cells #[.bool false, .bool false] 4)) rfl (by decide)) (by decide) hk⟩
  with_reducible refine HG.out.mono ?_
  clear HG
  clear hk kk
  rintro e w6 ⟨rfl, hb6⟩
  have J0 := Aside0.mk (blk_below (blk_alloc K0.out _) hb6)
  have J1 := Aside0.mk (blk_below (blk_alloc K1.out _) hb6)
  have J2 := Aside0.mk (blk_below (blk_alloc K2.out _) hb6)
  have HB6 := Aside0.mk (HB5a.out.trans (hb6.mono HB5a.out.size))
  clear K0 K1 K2 HB5 HB5a M0 M1 hb6
  go_wp2_with (first | (fail))
  go_at_call 38
  with_reducible refine (over_calls 4 w6).mono ?_
  rintro e w7 ⟨b2, b3, rfl, m0, m1, hb7⟩
  have K0 := Aside0.mk (blk_below J0.out hb7)
  have K1 := Aside0.mk (blk_below J1.out hb7)
  have K2 := Aside0.mk (blk_below J2.out hb7)
  have HB7 := Aside0.mk (HB6.out.trans (hb7.mono HB6.out.size))
  have M0 := Aside0.mk m0
  have M1 := Aside0.mk m1
  clear J0 J1 J2 HB6 hb7 m0 m1
  go_wp2_with (first | (fail))
  go_at_call 25
  obtain ⟨kk, hk⟩ := gives_ex [jumpS 0 (-4) 3, wordS 4] [2] [true, false] solve4 (by decide) (by decide) (by decide)
  have HB7a := Aside0.mk (HB7.out.alloc HB7.out.size (.cells #[.bool true, .bool false] 4))
  have HG : Aside0 (Calls Try.prog 25 #[.agg #[.slice (some ⟨b2, 0, none⟩) 2 2, .slice (some ⟨b3, 0, none⟩) 1 1], .slice (some ⟨w7.heap.size, 0, none⟩) 2 2] (w7.alloc (.cells #[.bool true, .bool false] 4)) fun e w' => e = .returned (.bool true) ∧ Below (w7.alloc (.cells #[.bool true, .bool false] 4)).heap.size (w7.alloc (.cells #[.bool true, .bool false] 4)) w') := ⟨retargetlaw40_gives.calls kk (some ⟨b2, 0, none⟩) 2 [jumpS 0 (-4) 3, wordS 4] (some ⟨b3, 0, none⟩) 1 [2] (some ⟨w7.heap.size, 0, none⟩) 2 [true, false] true _ (C_lit48 (blk_alloc M0.out (.cells #[.bool true, .bool false] 4)) rfl (by decide)) (by decide) (C_litI (blk_alloc M1.out (.cells #[.bool true, .bool false] 4)) rfl (by decide)) (by decide) (C_litB (blk_new w7 (.cells #[.bool true, .bool false] 4)) rfl (by decide)) (by decide) hk⟩
  with_reducible refine HG.out.mono ?_
  clear HG
  clear hk kk
  rintro e w8 ⟨rfl, hb8⟩
  have J0 := Aside0.mk (blk_below (blk_alloc K0.out _) hb8)
  have J1 := Aside0.mk (blk_below (blk_alloc K1.out _) hb8)
  have j2 := (blk_below (blk_alloc K2.out _) hb8)
  have c0 : w8.cell? ⟨q0 + 1 + 1, 0, none⟩ = some (.slice (some ⟨q0, 0, none⟩) 3 3) := (blk_cell j2 0).trans rfl
  have c1 : w8.cell? ⟨q0 + 1 + 1, 1, none⟩ = some (.slice (some ⟨q0 + 1, 0, none⟩) 2 2) := (blk_cell j2 1).trans rfl
  have HB8 := Aside0.mk (HB7a.out.trans (hb8.mono HB7a.out.size))
  clear K0 K1 K2 HB7 HB7a M0 M1 hb8 j2
  go_wp2_with (first | (fail))
  go_at_call 25
  obtain ⟨kk, hk⟩ := gives_ex [jumpS 0 (-2) 2, jumpS 1 (-2) 2, wordS 2] [3, 0] [true, true, false] solve2 (by decide) (by decide) (by decide)
  have HB8a := Aside0.mk (HB8.out.alloc HB8.out.size (.cells #[.bool true, .bool true, .bool false] 4))
  have HG : Aside0 (Calls Try.prog 25 #[.agg #[.slice (some ⟨q0, 0, none⟩) 3 3, .slice (some ⟨q0 + 1, 0, none⟩) 2 2], .slice (some ⟨w8.heap.size, 0, none⟩) 3 3] (w8.alloc (.cells #[.bool true, .bool true, .bool false] 4)) fun e w' => e = .returned (.bool true) ∧ Below (w8.alloc (.cells #[.bool true, .bool true, .bool false] 4)).heap.size (w8.alloc (.cells #[.bool true, .bool true, .bool false] 4)) w') := ⟨retargetlaw40_gives.calls kk (some ⟨q0, 0, none⟩) 3 [jumpS 0 (-2) 2, jumpS 1 (-2) 2, wordS 2] (some ⟨q0 + 1, 0, none⟩) 2 [3, 0] (some ⟨w8.heap.size, 0, none⟩) 3 [true, true, false] true _ (C_lit48 (blk_alloc J0.out (.cells #[.bool true, .bool true, .bool false] 4)) rfl (by decide)) (by decide) (C_litI (blk_alloc J1.out (.cells #[.bool true, .bool true, .bool false] 4)) rfl (by decide)) (by decide) (C_litB (blk_new w8 (.cells #[.bool true, .bool true, .bool false] 4)) rfl (by decide)) (by decide) hk⟩
  with_reducible refine HG.out.mono ?_
  clear HG
  clear hk kk
  rintro e w9 ⟨rfl, hb9⟩
  have HB9 := Aside0.mk (HB8a.out.trans (hb9.mono HB8a.out.size))
  clear J0 J1 HB8 HB8a hb9
  go_wp2
  go_ret
  exact ⟨rfl, HB9.out⟩
def retargetlaw40_alive.f : Option Bool := some true
theorem retargetlaw40_alive.calls (r : Bool) (w : World) (h : retargetlaw40_alive.f = some r) :
    Calls Try.prog 23 #[] w fun e w' => e = .returned (.bool r) ∧ Below w.heap.size w w' := by
  obtain rfl := Option.some.inj h
  exact alive_ok w

end Go.Proofs.Ytclmipjoebbeiaa.Q
