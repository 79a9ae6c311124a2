/- RelaxNames: the walk: the chapter's examples, the limits, further programs and errors; a closed computation. -/
import Derived.Test.YtclmipjoebbeiaaNumL
import Derived.Test.YtclmipjoebbeiaaQx31
import Derived.Test.YtclmipjoebbeiaaQx8
import Derived.Test.YtclmipjoebbeiaaQx21
import Derived.Test.YtclmipjoebbeiaaQx19
namespace Go.Proofs.Ytclmipjoebbeiaa.Q
open Go.RowKit Go.Proofs.YtclmipjoebbeiaaW.PrintWords Go.Proofs.YtclmipjoebbeiaaW.PrintLast Go.Proofs.YtclmipjoebbeiaaW.PrintMore
set_option linter.unusedVariables false
set_option linter.unusedSimpArgs false
attribute [local go_sem] Oper.semAt_some

theorem C_none48 (w : World) : k48.C w none 0 ([] : List S48) := ⟨rfl, by simp, fun h => absurd h (by simp)⟩
theorem C_noneI (w : World) : (Kd.int .i64).C w none 0 ([] : List Int) := ⟨rfl, by simp, fun h => absurd h (by simp)⟩
theorem C_noneB (w : World) : Kd.bool.C w none 0 ([] : List Bool) := ⟨rfl, by simp, fun h => absurd h (by simp)⟩
theorem solve_lit (w : World) (its : List S48) (lab : List Int) (l : List Bool) (r : Int) (cs0 cs1 : Array Value) (n m : Nat) (h0 : cs0 = (its.flatMap enc48).toArray) (h1 : cs1 = (lab.map (Value.int .i64)).toArray) (hn : its.length = n) (hm : lab.length = m)
    (hr : solveS its lab = (l, r)) (s0 : its.length ≤ 1000) (s1 : lab.length ≤ 1000) :
    Calls Try.prog 21 #[.agg #[.slice (some ⟨w.heap.size, 0, none⟩) n n, .slice (some ⟨w.heap.size + 1, 0, none⟩) m m]] ((w.alloc (.cells cs0 48)).alloc (.cells cs1 3)) fun e w' =>
      ∃ A c, e = .returned (.tuple #[.slice A l.length c, .int .i64 r]) ∧ l.length ≤ c ∧ Kd.bool.C w' A l.length l ∧ Below w.heap.size w w' := by
  subst hn
  subst hm
  have e0 := blk_alloc (blk_new w (.cells cs0 48)) (.cells cs1 3)
  have e1 := blk_new (w.alloc (.cells cs0 48)) (.cells cs1 3)
  rw [World.size_alloc] at e1
  have hB : Below w.heap.size w ((w.alloc (.cells cs0 48)).alloc (.cells cs1 3)) := below_alloc (below_alloc (Below.refl w.heap.size w) _) _
  refine (relax_Solve.calls 0 _ its.length its _ lab.length lab l r _ (C_lit48 e0 h0 s0) (Nat.le_refl _) (C_litI e1 h1 s1) (Nat.le_refl _) (by rw [← hr]; exact solve_f (by omega) (by omega) 0)).mono ?_
  rintro e w' ⟨v, rfl, rv, hb⟩
  obtain ⟨A, c, rfl, hc⟩ := Kd.Q_slice (Kd.Q_of_R rv)
  exact ⟨A, c, rfl, hc, (Kd.R_reads' rv).2.2, below_step hB hb⟩
theorem sol1 : solveS [⟨1, 2, 0, 0, 3, 0, 5⟩, wordS 6] [2] = ([], 24) := by decide +kernel
theorem sol2 : solveS [⟨1, 2, 0, 0, 3, 0, 6⟩, wordS 6] [2] = ([true, false], 0) := by decide +kernel
theorem sol3 : solveS [] [] = ([], 0) := by decide +kernel
theorem solve_none (w : World) : Calls Try.prog 21 #[.agg #[.slice none 0 0, .slice none 0 0]] w fun e w' => ∃ A c, e = .returned (.tuple #[.slice A 0 c, .int .i64 0]) ∧ Below w.heap.size w w' := by
  refine (relax_Solve.calls 0 none 0 [] none 0 [] [] 0 w (C_none48 _) (Nat.le_refl _) (C_noneI _) (Nat.le_refl _) (by rw [← sol3]; exact solve_f (by decide) (by decide) 0)).mono ?_
  rintro e w5 ⟨v5, rfl, rv5, hb5⟩
  obtain ⟨A5, q5, rfl, hq5⟩ := Kd.Q_slice (Kd.Q_of_R rv5)
  exact ⟨A5, q5, rfl, hb5⟩
theorem sol4 : solveS [jumpS 0 (-1) 0] [0] = ([false], 0) := by decide +kernel
theorem sol5 : solveS [jumpS 0 0 0] [0] = ([true], 0) := by decide +kernel
theorem plc1 : placesS [wordS 3, jumpS 0 0 0, wordS 0] [3] [false, true, false] = ([0, 3, 5, 5], 0) := by decide +kernel
theorem plc2 : placesS [wordS 3] [] [true] = ([], 2) := by decide +kernel
theorem stb1 : stableS [wordS 3] [] [] = (false, 2) := by decide +kernel
def badL : List S48 := [⟨1001, 0, -1, 0, 0, 0, 0⟩, ⟨-1, 0, -1, 0, 0, 0, 0⟩, ⟨0, 1, -1, 0, 0, 0, 0⟩, ⟨0, 0, 1, 0, 0, 0, 0⟩, ⟨0, 0, -2, 0, 0, 0, 0⟩, ⟨2, 1, 0, 0, 0, 0, 0⟩, ⟨0, 1001, 0, 0, 0, 0, 0⟩, ⟨0, 0, 0, 1, 0, 0, 0⟩, ⟨0, 0, 0, 0, -1, 0, 0⟩, ⟨0, 0, 0, 0, 0, 1, 0⟩, ⟨0, 0, 0, -2, 0, -1, 0⟩, ⟨0, 0, 0, 0, 2, 0, 1⟩, ⟨0, 0, 0, 0, 0, 0, 16777217⟩, ⟨0, 0, 0, 0, 0, -16777217, 0⟩]
theorem badAll : ∀ x ∈ badL, checkS [x] [0] = 8 := by decide +kernel
theorem chk1 : checkS [] [1] = 8 := by decide +kernel
theorem chk2 : checkS [] (List.replicate 501 0) = 8 := by decide +kernel
theorem chk3 : checkS [] (List.replicate 500 0) = 0 := by decide +kernel
theorem gives_lit (w : World) (its : List S48) (lab : List Int) (l : List Bool) (cs0 cs1 cs2 : Array Value) (n m q : Nat) (h0 : cs0 = (its.flatMap enc48).toArray) (h1 : cs1 = (lab.map (Value.int .i64)).toArray) (h2 : cs2 = (l.map Value.bool).toArray) (hn : its.length = n) (hm : lab.length = m) (hq : l.length = q)
    (hr : solveS its lab = (l, 0)) (s0 : its.length ≤ 1000) (s1 : lab.length ≤ 1000) (s2 : l.length ≤ 1000) :
    Calls Try.prog 25 #[.agg #[.slice (some ⟨w.heap.size, 0, none⟩) n n, .slice (some ⟨w.heap.size + 1, 0, none⟩) m m], .slice (some ⟨w.heap.size + 1 + 1, 0, none⟩) q q] (((w.alloc (.cells cs0 48)).alloc (.cells cs1 3)).alloc (.cells cs2 4)) fun e w' => e = .returned (.bool true) ∧ Below w.heap.size w w' := by
  subst hn
  subst hm
  subst hq
  have e0 := blk_alloc (blk_alloc (blk_new w (.cells cs0 48)) (.cells cs1 3)) (.cells cs2 4)
  have e1 := blk_alloc (blk_new (w.alloc (.cells cs0 48)) (.cells cs1 3)) (.cells cs2 4)
  have e2 := blk_new ((w.alloc (.cells cs0 48)).alloc (.cells cs1 3)) (.cells cs2 4)
  simp only [World.size_alloc] at e1 e2
  obtain ⟨kk, hk⟩ := gives_ex its lab l hr (by omega) (by omega) (by omega)
  refine (retargetlaw40_gives.calls kk _ its.length its _ lab.length lab _ l.length l true _ (C_lit48 e0 h0 s0) (Nat.le_refl _) (C_litI e1 h1 s1) (Nat.le_refl _) (C_litB e2 h2 s2) (Nat.le_refl _) hk).mono ?_
  rintro e w' ⟨rfl, hb⟩
  exact ⟨rfl, below_step (below_alloc (below_alloc (below_alloc (Below.refl w.heap.size w) _) _) _) hb⟩
theorem places_lit (w : World) (its : List S48) (lab : List Int) (l : List Bool) (o : List Int) (r : Int) (cs0 cs1 cs2 : Array Value) (n m q : Nat) (h0 : cs0 = (its.flatMap enc48).toArray) (h1 : cs1 = (lab.map (Value.int .i64)).toArray) (h2 : cs2 = (l.map Value.bool).toArray) (hn : its.length = n) (hm : lab.length = m) (hq : l.length = q)
    (hr : placesS its lab l = (o, r)) (s0 : its.length ≤ 1000) (s1 : lab.length ≤ 1000) (s2 : l.length ≤ 1000) :
    Calls Try.prog 13 #[.agg #[.slice (some ⟨w.heap.size, 0, none⟩) n n, .slice (some ⟨w.heap.size + 1, 0, none⟩) m m], .slice (some ⟨w.heap.size + 1 + 1, 0, none⟩) q q] (((w.alloc (.cells cs0 48)).alloc (.cells cs1 3)).alloc (.cells cs2 4)) fun e w' =>
      ∃ A c, e = .returned (.tuple #[.slice A o.length c, .int .i64 r]) ∧ o.length ≤ c ∧ (Kd.int .i64).C w' A o.length o ∧ Below w.heap.size w w' := by
  subst hn
  subst hm
  subst hq
  have e0 := blk_alloc (blk_alloc (blk_new w (.cells cs0 48)) (.cells cs1 3)) (.cells cs2 4)
  have e1 := blk_alloc (blk_new (w.alloc (.cells cs0 48)) (.cells cs1 3)) (.cells cs2 4)
  have e2 := blk_new ((w.alloc (.cells cs0 48)).alloc (.cells cs1 3)) (.cells cs2 4)
  simp only [World.size_alloc] at e1 e2
  obtain ⟨kk, hk⟩ := (evn_Places (its := its) (lab := lab) (long := l) (by omega) (by omega) (by omega)).rounds
  rw [hr] at hk
  refine (relax_Places.calls kk _ its.length its _ lab.length lab _ l.length l o r _ (C_lit48 e0 h0 s0) (Nat.le_refl _) (C_litI e1 h1 s1) (Nat.le_refl _) (C_litB e2 h2 s2) (Nat.le_refl _) hk).mono ?_
  rintro e w' ⟨va, rfl, ra, hb⟩
  obtain ⟨A, c, rfl, hc, rc⟩ := Kd.R_reads ra
  exact ⟨A, c, rfl, hc, rc, below_step (below_alloc (below_alloc (below_alloc (Below.refl w.heap.size w) _) _) _) hb⟩
theorem places_lit0 (w : World) (its : List S48) (l : List Bool) (o : List Int) (r : Int) (cs0 cs2 : Array Value) (n q : Nat) (h0 : cs0 = (its.flatMap enc48).toArray) (h2 : cs2 = (l.map Value.bool).toArray) (hn : its.length = n) (hq : l.length = q)
    (hr : placesS its [] l = (o, r)) (s0 : its.length ≤ 1000) (s2 : l.length ≤ 1000) :
    Calls Try.prog 13 #[.agg #[.slice (some ⟨w.heap.size, 0, none⟩) n n, .slice none 0 0], .slice (some ⟨w.heap.size + 1, 0, none⟩) q q] ((w.alloc (.cells cs0 48)).alloc (.cells cs2 4)) fun e w' =>
      ∃ v, e = .returned (.tuple #[v, .int .i64 r]) ∧ Below w.heap.size w w' := by
  subst hn
  subst hq
  have e0 := blk_alloc (blk_new w (.cells cs0 48)) (.cells cs2 4)
  have e2 := blk_new (w.alloc (.cells cs0 48)) (.cells cs2 4)
  simp only [World.size_alloc] at e2
  obtain ⟨kk, hk⟩ := (evn_Places (its := its) (lab := []) (long := l) (by omega) (by simp) (by omega)).rounds
  rw [hr] at hk
  refine (relax_Places.calls kk _ its.length its none 0 [] _ l.length l o r _ (C_lit48 e0 h0 s0) (Nat.le_refl _) (C_noneI _) (Nat.le_refl _) (C_litB e2 h2 s2) (Nat.le_refl _) hk).mono ?_
  rintro e w' ⟨va, rfl, ra, hb⟩
  exact ⟨va, rfl, below_step (below_alloc (below_alloc (Below.refl w.heap.size w) _) _) hb⟩
theorem stable_lit0 (w : World) (its : List S48) (b : Bool) (r : Int) (cs0 : Array Value) (n : Nat) (h0 : cs0 = (its.flatMap enc48).toArray) (hn : its.length = n) (hr : stableS its [] [] = (b, r)) (s0 : its.length ≤ 1000) :
    Calls Try.prog 15 #[.agg #[.slice (some ⟨w.heap.size, 0, none⟩) n n, .slice none 0 0], .slice none 0 0] (w.alloc (.cells cs0 48)) fun e w' => e = .returned (.tuple #[.bool b, .int .i64 r]) ∧ Below w.heap.size w w' := by
  subst hn
  have e0 := blk_new w (.cells cs0 48)
  obtain ⟨kk, hk⟩ := (evn_Stable (its := its) (lab := []) (long := []) (by omega) (by simp) (by simp)).rounds
  rw [hr] at hk
  refine (relax_Stable.calls kk _ its.length its none 0 [] none 0 [] b r _ (C_lit48 e0 h0 s0) (Nat.le_refl _) (C_noneI _) (Nat.le_refl _) (C_noneB _) (Nat.le_refl _) hk).mono ?_
  rintro e w' ⟨rfl, hb⟩
  exact ⟨rfl, below_step (below_alloc (Below.refl w.heap.size w) _) hb⟩
theorem check_lit (w : World) (its : List S48) (lab : List Int) (r : Int) (cs0 cs1 : Array Value) (n m : Nat) (h0 : cs0 = (its.flatMap enc48).toArray) (h1 : cs1 = (lab.map (Value.int .i64)).toArray) (hn : its.length = n) (hm : lab.length = m) (hr : checkS its lab = r) (s0 : its.length ≤ 1000) (s1 : lab.length ≤ 1000) :
    Calls Try.prog 18 #[.agg #[.slice (some ⟨w.heap.size, 0, none⟩) n n, .slice (some ⟨w.heap.size + 1, 0, none⟩) m m]] ((w.alloc (.cells cs0 48)).alloc (.cells cs1 3)) fun e w' => e = .returned (.int .i64 r) ∧ Below w.heap.size w w' := by
  subst hn
  subst hm
  have e0 := blk_alloc (blk_new w (.cells cs0 48)) (.cells cs1 3)
  have e1 := blk_new (w.alloc (.cells cs0 48)) (.cells cs1 3)
  rw [World.size_alloc] at e1
  obtain ⟨kk, hk⟩ := (evn_Check its lab (by omega) (by omega)).rounds
  rw [hr] at hk
  refine (relax_Check.calls kk _ its.length its _ lab.length lab r _ (C_lit48 e0 h0 s0) (Nat.le_refl _) (C_litI e1 h1 s1) (Nat.le_refl _) hk).mono ?_
  rintro e w' ⟨rfl, hb⟩
  exact ⟨rfl, below_step (below_alloc (below_alloc (Below.refl w.heap.size w) _) _) hb⟩
theorem check_box (w : World) (ob : Obj) (its : List S48) (lab : List Int) (r : Int) (cs0 cs1 : Array Value) (n m : Nat) (h0 : cs0 = (its.flatMap enc48).toArray) (h1 : cs1 = (lab.map (Value.int .i64)).toArray) (hn : its.length = n) (hm : lab.length = m) (hr : checkS its lab = r) (s0 : its.length ≤ 1000) (s1 : lab.length ≤ 1000) :
    Calls Try.prog 18 #[.agg #[.slice (some ⟨w.heap.size + 1, 0, none⟩) n n, .slice (some ⟨w.heap.size + 1 + 1, 0, none⟩) m m]] (((w.alloc ob).alloc (.cells cs0 48)).alloc (.cells cs1 3)) fun e w' => e = .returned (.int .i64 r) ∧ Below w.heap.size w w' := by
  have h := check_lit (w.alloc ob) its lab r cs0 cs1 n m h0 h1 hn hm hr s0 s1
  rw [World.size_alloc] at h
  refine h.mono ?_
  rintro e w' ⟨rfl, hb⟩
  exact ⟨rfl, (below_alloc (Below.refl w.heap.size w) ob).trans (hb.mono (by omega))⟩
theorem check_lab (w : World) (A : Option Addr) (c m : Nat) (lab : List Int) (r : Int) (hm : lab.length = m) (hC : (Kd.int .i64).C w A m lab) (hc : m ≤ c) (hr : checkS [] lab = r) (s1 : lab.length ≤ 1000) :
    Calls Try.prog 18 #[.agg #[.slice none 0 0, .slice A m c]] w fun e w' => e = .returned (.int .i64 r) ∧ Below w.heap.size w w' := by
  subst hm
  obtain ⟨kk, hk⟩ := (evn_Check [] lab (by simp) (by omega)).rounds
  rw [hr] at hk
  exact relax_Check.calls kk none 0 [] A c lab r w (C_none48 _) (Nat.le_refl _) hC hc hk
theorem sb_lit (w : World) (A : Option Addr) (c : Nat) (hC : Kd.bool.C w A [true, false].length [true, false]) (hc : [true, false].length ≤ c) :
    Calls Try.prog 20 #[.slice A 2 c, .slice (some ⟨w.heap.size, 0, none⟩) 2 2] (w.alloc (.cells #[.bool true, .bool false] 4)) fun e w' => e = .returned (.bool true) ∧ Below w.heap.size w w' := by
  obtain ⟨k, hk⟩ : ∃ k, retargetref40_SameBools.f k [true, false] [true, false] = some true := ⟨10, by decide +kernel⟩
  refine (retargetref40_SameBools.calls k A c [true, false] (some ⟨w.heap.size, 0, none⟩) 2 [true, false] true _ (Kd.C_alloc hC _) hc (C_litB (blk_new w _) rfl (by decide)) (Nat.le_refl _) hk).mono ?_
  rintro e w' ⟨rfl, ⟨nd, rfl⟩⟩
  exact ⟨rfl, pw_below_drewN (below_alloc (Below.refl w.heap.size w) _) _⟩
theorem si_lit (w : World) (A : Option Addr) (c : Nat) (hC : (Kd.int .i64).C w A ([0, 3, 5, 5] : List Int).length [0, 3, 5, 5]) (hc : ([0, 3, 5, 5] : List Int).length ≤ c) :
    Calls Try.prog 17 #[.slice A 4 c, .slice (some ⟨w.heap.size, 0, none⟩) 4 4] (w.alloc (.cells #[.int .i64 0, .int .i64 3, .int .i64 5, .int .i64 5] 3)) fun e w' => e = .returned (.bool true) ∧ Below w.heap.size w w' := by
  obtain ⟨k, hk⟩ : ∃ k, retargetref40_SameInts.f k [0, 3, 5, 5] [0, 3, 5, 5] = some true := ⟨10, by decide +kernel⟩
  refine (retargetref40_SameInts.calls k A c [0, 3, 5, 5] (some ⟨w.heap.size, 0, none⟩) 4 [0, 3, 5, 5] true _ (Kd.C_alloc hC _) hc (C_litI (blk_new w _) rfl (by decide)) (Nat.le_refl _) hk).mono ?_
  rintro e w' ⟨rfl, ⟨nd, rfl⟩⟩
  exact ⟨rfl, pw_below_drewN (below_alloc (Below.refl w.heap.size w) _) _⟩
set_option maxRecDepth 100000 in
set_option maxHeartbeats 4000000 in
theorem retargetlaw40_RelaxNames.walk (w : World) : Calls Try.prog 11 #[] w fun e w' => e = .returned (.bool true) ∧ Below w.heap.size w w' := by
  go_enter Try.func11, Try.ntmps11
  go_wp2_with (first | (fail))
  go_at_call 24
  with_reducible refine (retargetlaw40_words.calls 6 6 0 (-1) 0 0 0 0 _ rfl).mono ?_
  rintro e w1 ⟨rfl, hb1⟩
  have HB1 := Aside0.mk hb1
  clear hb1
  go_wp2_with (first | (fail))
  go_at_call 21
  with_reducible refine (solve_lit w1 [⟨1, 2, 0, 0, 3, 0, 5⟩, wordS 6] [2] [] 24 _ _ 2 1 ?h0 ?h1 rfl rfl sol1 (by decide) (by decide)).mono ?_
  case h0 => rfl
  case h1 => rfl
  rintro e w2 ⟨A1, q1, rfl, -, -, hb2⟩
  have HB2 := Aside0.mk (below_step HB1.out hb2)
  clear hb2 HB1
  go_wp2_with (first | (fail))
  go_at_call 24
  with_reducible refine (retargetlaw40_words.calls 6 6 0 (-1) 0 0 0 0 _ rfl).mono ?_
  rintro e w3 ⟨rfl, hb3⟩
  have HB3 := Aside0.mk (below_step HB2.out hb3)
  clear hb3 HB2
  go_wp2_with (first | (fail))
  go_at_call 21
  with_reducible refine (solve_lit w3 [⟨1, 2, 0, 0, 3, 0, 6⟩, wordS 6] [2] [true, false] 0 _ _ 2 1 ?h0 ?h1 rfl rfl sol2 (by decide) (by decide)).mono ?_
  case h0 => rfl
  case h1 => rfl
  rintro e w4 ⟨Af, qf, rfl, hcf, hCf, hb4⟩
  have HB4 := Aside0.mk (below_step HB3.out hb4)
  have HCF := Aside0.mk hcf
  have HF := Aside0.mk hCf
  have HF4 := Aside0.mk (Below.refl w4.heap.size w4)
  clear hb4 HB3 hcf hCf
  go_wp2_with (first | (fail))
  go_at_call 21
  with_reducible refine (solve_none w4).mono ?_
  rintro e w5 ⟨A5, q5, rfl, hb5⟩
  have HB5 := Aside0.mk (below_step HB4.out hb5)
  have HF5 := Aside0.mk (below_step HF4.out hb5)
  clear hb5 HB4 HF4
  go_wp2_with (first | (fail))
  go_at_call 26
  with_reducible refine (retargetlaw40_jump.calls 0 (-1) 0 1 2 0 (-1) 0 (-1000) 1000 _ rfl).mono ?_
  rintro e w6 ⟨rfl, hb6⟩
  have HB6 := Aside0.mk (below_step HB5.out hb6)
  have HF6 := Aside0.mk (below_step HF5.out hb6)
  clear hb6 HB5 HF5
  go_wp2_with (first | (fail))
  go_at_call 25
  with_reducible refine (gives_lit w6 [jumpS 0 (-1) 0] [0] [false] _ _ _ 1 1 1 ?h0 ?h1 ?h2 rfl rfl rfl sol4 (by decide) (by decide) (by decide)).mono ?_
  case h0 => rfl
  case h1 => rfl
  case h2 => rfl
  rintro e w7 ⟨rfl, hb7⟩
  have HB7 := Aside0.mk (below_step HB6.out hb7)
  have HF7 := Aside0.mk (below_step HF6.out hb7)
  clear hb7 HB6 HF6
  go_wp2_with (first | (fail))
  go_at_call 26
  with_reducible refine (retargetlaw40_jump.calls 0 0 0 1 2 0 0 0 (-1000) 1000 _ rfl).mono ?_
  rintro e w8 ⟨rfl, hb8⟩
  have HB8 := Aside0.mk (below_step HB7.out hb8)
  have HF8 := Aside0.mk (below_step HF7.out hb8)
  clear hb8 HB7 HF7
  go_wp2_with (first | (fail))
  go_at_call 25
  with_reducible refine (gives_lit w8 [jumpS 0 0 0] [0] [true] _ _ _ 1 1 1 ?h0 ?h1 ?h2 rfl rfl rfl sol5 (by decide) (by decide) (by decide)).mono ?_
  case h0 => rfl
  case h1 => rfl
  case h2 => rfl
  rintro e w9 ⟨rfl, hb9⟩
  have HB9 := Aside0.mk (below_step HB8.out hb9)
  have HF9 := Aside0.mk (below_step HF8.out hb9)
  clear hb9 HB8 HF8
  go_wp2_with (first | (fail))
  go_at_call 24
  with_reducible refine (retargetlaw40_words.calls 3 3 0 (-1) 0 0 0 0 _ rfl).mono ?_
  rintro e w10 ⟨rfl, hb10⟩
  have HB10 := Aside0.mk (below_step HB9.out hb10)
  have HF10 := Aside0.mk (below_step HF9.out hb10)
  clear hb10 HB9 HF9
  go_wp2_with (first | (fail))
  go_at_call 26
  with_reducible refine (retargetlaw40_jump.calls 0 0 0 1 2 0 0 0 (-1000) 1000 _ rfl).mono ?_
  rintro e w11 ⟨rfl, hb11⟩
  have HB11 := Aside0.mk (below_step HB10.out hb11)
  have HF11 := Aside0.mk (below_step HF10.out hb11)
  clear hb11 HB10 HF10
  go_wp2_with (first | (fail))
  go_at_call 24
  with_reducible refine (retargetlaw40_words.calls 0 0 0 (-1) 0 0 0 0 _ rfl).mono ?_
  rintro e w12 ⟨rfl, hb12⟩
  have HB12 := Aside0.mk (below_step HB11.out hb12)
  have HF12 := Aside0.mk (below_step HF11.out hb12)
  clear hb12 HB11 HF11
  go_wp2_with (first | (fail))
  go_at_call 13
  with_reducible refine (places_lit w12 [wordS 3, jumpS 0 0 0, wordS 0] [3] [false, true, false] [0, 3, 5, 5] 0 _ _ _ 3 1 3 ?h0 ?h1 ?h2 rfl rfl rfl plc1 (by decide) (by decide) (by decide)).mono ?_
  case h0 => rfl
  case h1 => rfl
  case h2 => rfl
  rintro e w13 ⟨Ap, qp, rfl, hcp, hCp, hb13⟩
  have HCP := Aside0.mk hcp
  have HP := Aside0.mk hCp
  have HP13 := Aside0.mk (Below.refl w13.heap.size w13)
  clear hcp hCp
  have HB13 := Aside0.mk (below_step HB12.out hb13)
  have HF13 := Aside0.mk (below_step HF12.out hb13)
  clear hb13 HB12 HF12
  go_wp2_with (first | (fail))
  go_at_call 24
  with_reducible refine (retargetlaw40_words.calls 3 3 0 (-1) 0 0 0 0 _ rfl).mono ?_
  rintro e w14 ⟨rfl, hb14⟩
  have HB14 := Aside0.mk (below_step HB13.out hb14)
  have HF14 := Aside0.mk (below_step HF13.out hb14)
  have HP14 := Aside0.mk (below_step HP13.out hb14)
  clear hb14 HB13 HF13 HP13
  go_wp2_with (first | (fail))
  go_at_call 13
  with_reducible refine (places_lit0 w14 [wordS 3] [true] [] 2 _ _ 1 1 ?h0 ?h2 rfl rfl plc2 (by decide) (by decide)).mono ?_
  case h0 => rfl
  case h2 => rfl
  rintro e w15 ⟨v15, rfl, hb15⟩
  have HB15 := Aside0.mk (below_step HB14.out hb15)
  have HF15 := Aside0.mk (below_step HF14.out hb15)
  have HP15 := Aside0.mk (below_step HP14.out hb15)
  clear hb15 HB14 HF14 HP14
  go_wp2_with (first | (fail))
  go_at_call 24
  with_reducible refine (retargetlaw40_words.calls 3 3 0 (-1) 0 0 0 0 _ rfl).mono ?_
  rintro e w16 ⟨rfl, hb16⟩
  have HB16 := Aside0.mk (below_step HB15.out hb16)
  have HF16 := Aside0.mk (below_step HF15.out hb16)
  have HP16 := Aside0.mk (below_step HP15.out hb16)
  clear hb16 HB15 HF15 HP15
  go_wp2_with (first | (fail))
  go_at_call 15
  with_reducible refine (stable_lit0 w16 [wordS 3] false 2 _ 1 ?h0 rfl stb1 (by decide)).mono ?_
  case h0 => rfl
  rintro e w17 ⟨rfl, hb17⟩
  have HB17 := Aside0.mk (below_step HB16.out hb17)
  have HF17 := Aside0.mk (below_step HF16.out hb17)
  have HP17 := Aside0.mk (below_step HP16.out hb17)
  clear hb17 HB16 HF16 HP16
  go_wp2_with (first | (fail))
  go_loopw [96, 14] (fun v96 v14 wr => ∃ i : Nat, i ≤ 14 ∧ v96 = .int .i64 i ∧ v14 = .bool true ∧ Aside0 (k48.C wr (some ⟨w17.heap.size, 0, none⟩) 14 badL) ∧ Aside0 (Below w.heap.size w wr) ∧ Aside0 (Below w4.heap.size w4 wr) ∧ Aside0 (Below w13.heap.size w13 wr)) (fun v _ _ => 14 - (intOf v).toNat)
  case atStart => exact ⟨0, by omega, rfl, rfl, ⟨C_lit48 (xs := badL) (blk_new w17 _) rfl (by decide)⟩, ⟨below_alloc HB17.out _⟩, ⟨below_alloc HF17.out _⟩, ⟨below_alloc HP17.out _⟩⟩
  case round =>
    clear HB17 HF17 HP17
    obtain ⟨i, hi, rfl, rfl, HLR, HBR, HFR, HPR⟩ := hrel
    by_cases hlt : i < 14
    · have hli : (i : Int) < 14 := by omega
      obtain ⟨ad0, e0, hx0, hx1, hx2, hx3, hx4, hx5, hx6⟩ := at_T48 HLR.out (i : Int) (by omega) (by omega)
      cases e0
      have hmem : rd_T48 badL (i : Int) ∈ badL := by
        have hlb : i < badL.length := hlt
        unfold rd_T48
        rw [Int.toNat_natCast, List.getD_eq_getElem?_getD, List.getElem?_eq_getElem hlb]
        exact List.getElem_mem hlb
      have hchk := badAll _ hmem
      obtain ⟨it, hit⟩ : ∃ s, s = rd_T48 badL (i : Int) := ⟨_, rfl⟩
      rw [← hit] at hx0 hx1 hx2 hx3 hx4 hx5 hx6 hchk
      simp only [Int.toNat_natCast, add_plain] at hx0 hx1 hx2 hx3 hx4 hx5 hx6
      have HCK := Aside0.mk hchk
      have lt0 := cell_lt hx0
      clear hit hmem hchk
      go_wp2_with (first | (fail))
      go_at_call 18
      with_reducible refine (check_box wr _ [it] [0] 8 _ _ 1 1 ?h0 ?h1 rfl rfl HCK.out (by simp) (by decide)).mono ?_
      case h0 => rfl
      case h1 => rfl
      rintro e ws ⟨rfl, hbs⟩
      clear hx0 hx1 hx2 hx3 hx4 hx5 hx6
      go_wp2
      go_roundw
      case rel => exact ⟨i + 1, by omega, by go_num, rfl, ⟨Kd.C_below HLR.out hbs⟩, ⟨below_step HBR.out hbs⟩, ⟨below_step HFR.out hbs⟩, ⟨below_step HPR.out hbs⟩⟩
      case measure => simp [intOf]; omega
    · obtain rfl : i = 14 := by omega
      go_wp2_with (first | (fail))
      go_at_call 18
      with_reducible refine (check_lab _ _ 1 1 [1] 8 rfl (C_litI (blk_new wr _) rfl (by decide)) (Nat.le_refl _) chk1 (by decide)).mono ?_
      rintro e wa ⟨rfl, hba⟩
      have HBa := Aside0.mk (below_step (below_alloc HBR.out _) hba)
      have HFa := Aside0.mk (below_step (below_alloc HFR.out _) hba)
      have HPa := Aside0.mk (below_step (below_alloc HPR.out _) hba)
      clear hba HBR HFR HPR HLR
      go_wp2_with (first | ((with_reducible refine gate_dst (N := 118) rfl ?_); (refine gate_guard (by rfl) ?_; dsimp only); refine Kd.R_make (Kd.int .i64) (w0 := wa) wa.heap.size 3 rfl rfl 23 _ _ rfl (501 : Int) rfl rfl Try.underlying23 (.int .i64 0) 8 info3 rfl (by decide) (by decide) 0 (ok := fun _ => True) (okp := fun _ => True) rfl (fun _ _ => trivial) trivial (by decide) (by decide) (Below.refl _ _) (Nat.le_refl _) ?_; intro vb wb rs hbn hgn hown; obtain ⟨Ab, cb, rfl, hcb⟩ := Kd.Q_slice (Kd.Q_of_R rs); clear hgn hown))
      have hCb : (Kd.int .i64).C wb Ab 501 (List.replicate 501 0) := by have h_ := (Kd.R_reads' rs).2.2; rw [List.length_replicate] at h_; exact h_
      have hcb' : 501 ≤ cb := by rw [List.length_replicate] at hcb; exact hcb
      with_reducible refine (check_lab _ _ cb 501 (List.replicate 501 0) 8 (by rw [List.length_replicate]) hCb hcb' chk2 (by rw [List.length_replicate]; decide)).mono ?_
      rintro e wd ⟨rfl, hbd⟩
      have HBd := Aside0.mk (below_step (below_step HBa.out hbn) hbd)
      have HFd := Aside0.mk (below_step (below_step HFa.out hbn) hbd)
      have HPd := Aside0.mk (below_step (below_step HPa.out hbn) hbd)
      clear hbn hbd HBa HFa HPa rs hcb hcb' hCb
      go_wp2_with (first | ((with_reducible refine gate_dst (N := 124) rfl ?_); (refine gate_guard (by rfl) ?_; dsimp only); refine Kd.R_make (Kd.int .i64) (w0 := wd) wd.heap.size 3 rfl rfl 23 _ _ rfl (500 : Int) rfl rfl Try.underlying23 (.int .i64 0) 8 info3 rfl (by decide) (by decide) 0 (ok := fun _ => True) (okp := fun _ => True) rfl (fun _ _ => trivial) trivial (by decide) (by decide) (Below.refl _ _) (Nat.le_refl _) ?_; intro ve we rs2 hbn2 hgn hown; obtain ⟨Ae, ce, rfl, hce⟩ := Kd.Q_slice (Kd.Q_of_R rs2); clear hgn hown))
      have hCe : (Kd.int .i64).C we Ae 500 (List.replicate 500 0) := by have h_ := (Kd.R_reads' rs2).2.2; rw [List.length_replicate] at h_; exact h_
      have hce' : 500 ≤ ce := by rw [List.length_replicate] at hce; exact hce
      with_reducible refine (check_lab _ _ ce 500 (List.replicate 500 0) 0 (by rw [List.length_replicate]) hCe hce' chk3 (by rw [List.length_replicate]; decide)).mono ?_
      rintro e wf ⟨rfl, hbf⟩
      have HBf := Aside0.mk (below_step (below_step HBd.out hbn2) hbf)
      have HFf := Aside0.mk (below_step (below_step HFd.out hbn2) hbf)
      have HPf := Aside0.mk (below_step (below_step HPd.out hbn2) hbf)
      clear hbn2 hbf HBd HFd HPd rs2 hce hce' hCe
      go_wp2_with (first | (fail))
      go_at_call 23
      with_reducible refine (alive_ok _).mono ?_
      rintro e wg ⟨rfl, hbg⟩
      have HBg := Aside0.mk (below_step HBf.out hbg)
      have HFg := Aside0.mk (below_step HFf.out hbg)
      have HPg := Aside0.mk (below_step HPf.out hbg)
      clear hbg HBf HFf HPf
      go_wp2_with (first | (fail))
      go_at_call 20
      with_reducible refine (sb_lit wg Af qf (Kd.C_below HF.out HFg.out) HCF.out).mono ?_
      rintro e wh ⟨rfl, hbh⟩
      have HBh := Aside0.mk (below_step HBg.out hbh)
      have HPh := Aside0.mk (below_step HPg.out hbh)
      clear hbh HBg HPg HFg
      go_wp2_with (first | (fail))
      go_at_call 17
      with_reducible refine (si_lit wh Ap qp (Kd.C_below HP.out HPh.out) HCP.out).mono ?_
      rintro e wi ⟨rfl, hbi⟩
      have HBi := Aside0.mk (below_step HBh.out hbi)
      clear hbi HBh HPh
      go_wp2
      go_ret
      exact ⟨rfl, HBi.out⟩
