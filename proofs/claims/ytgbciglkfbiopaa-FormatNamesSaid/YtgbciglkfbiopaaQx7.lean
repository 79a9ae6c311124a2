-- Written by wip/tools/given.py (own program over the kit's print.py) out of the translation. Not trusted: Lean checks it.
import Derived.Test.YtgbciglkfbiopaaQx0
import Derived.Test.YtgbciglkfbiopaaQx2
import Derived.Test.YtgbciglkfbiopaaQx6
import Derived.Test.YtgbciglkfbiopaaIter
import Derived.Test.YtgbciglkfbiopaaRnd
namespace Go.Proofs.Ytgbciglkfbiopaa.Q
open Go.RowKit Go.Proofs.YtgbciglkfbiopaaW.PrintWords Go.Proofs.YtgbciglkfbiopaaW.PrintLast Go.Proofs.YtgbciglkfbiopaaW.PrintMore
attribute [local go_sem] max2_int min2_int max_two min_two max_three min_three max_four min_four   -- for this text's walks alone
set_option linter.unusedVariables false
set_option linter.unusedSimpArgs false

/-! ### format_Mask: function 20 -/
open Go.Shelf
def mk_ (len : Int) : Int := shr .u64 18446744073709551615 (wrap64 (64 - len))
theorem mask_some {len : Int} (h : 1 ≤ len) (h' : len ≤ 64) : bits_Mask.f len = some (mk_ len) := by
  unfold bits_Mask.f bits_wide.f
  rw [if_pos (by omega)]
  simp only [Option.bind_some]
  rw [if_pos (by simpa using h'), if_pos (by unfold wrap64; omega)]
  rfl
/-- Two answers of one function are one. -/
theorem Ev.det_ {α : Type} {g : Nat → Option α} {r r' : α} (h : Ev g r) (hg : ∀ k, LeO (g k) (g (k + 1))) {k : Nat} (h' : g k = some r') : r' = r := by
  obtain ⟨K, h⟩ := h
  have h1 := at_rounds hg (Nat.le_max_left k K) h'
  have h2 := h (max k K) (Nat.le_max_right _ _)
  rw [h1] at h2
  exact Option.some.inj h2
theorem ev_within1 (a b x : Int) : Ev (fun k => format_within.f k a b [x]) (decide (a ≤ x ∧ x ≤ b)) := by
  refine ⟨2, fun k hk => ?_⟩
  obtain ⟨m, rfl⟩ : ∃ m, k = m + 1 + 1 := ⟨k - 2, by omega⟩
  have e0 : rd [x] 0 = x := rfl
  have e1 : wrap64 (0 + 1) = 1 := by unfold wrap64; rfl
  simp only [format_within.f, format_within.l0, List.length_singleton, e0, e1]
  by_cases h1 : x < a
  · rw [if_pos (by decide), if_pos (by decide), if_pos (by decide), if_pos h1]
    congr 1
    symm
    exact decide_eq_false (by omega)
  · rw [if_pos (by decide), if_pos (by decide), if_pos (by decide), if_neg h1]
    by_cases h2 : x > b
    · rw [if_pos h2]
      congr 1
      symm
      exact decide_eq_false (by omega)
    · rw [if_neg h2, if_neg (by decide)]
      congr 1
      symm
      exact decide_eq_true (by omega)

/-- A piece lies in a word of so many bits. -/
def inWord (size : Int) (p : S41) : Prop := (1 ≤ p.f1 ∧ p.f1 ≤ size) ∧ (0 ≤ p.f0 ∧ p.f0 ≤ size - p.f1)
instance (size : Int) (p : S41) : Decidable (inWord size p) := by unfold inWord; exact inferInstance
def pm (p : S41) : Int := shl .u64 (mk_ p.f1) p.f0
def chk (size : Int) : Int → List S41 → Int
  | _, [] => 0
  | taken, p :: ps => if inWord size p then (if Go.bits .and .u64 taken (pm p) = 0 then chk size (Go.bits .or .u64 taken (pm p)) ps else 8) else 8
def chkSpec (size : Int) (l : List S41) : Int := if 1 ≤ size ∧ size ≤ 64 then (if (l.length : Int) > 4 then 4 else chk size 0 l) else 2

theorem ev_Check_l0 (size : Int) (h1 : 1 ≤ size) (h2 : size ≤ 64) (l : List S41) (hl : l.length ≤ 4) : ∀ (n i : Nat) (taken : Int), i + n = l.length → Ev (fun k => format_Check.l0 k size taken l (l.length : Int) (i : Int)) (chk size taken (l.drop i))
  | 0, i, taken, hi => by
    refine Ev.step (f := fun k => some 0) (fun k => ?_) ?_
    · simp only [format_Check.l0]
      rw [if_neg (by omega)]
    · rw [List.drop_eq_nil_of_le (by omega)]
      exact Ev.now _
  | n + 1, i, taken, hi => by
    have hlt : i < l.length := by omega
    have hd : l.drop i = l[i] :: l.drop (i + 1) := List.drop_eq_getElem_cons hlt
    have hr : rd_T41 l (i : Int) = l[i] := by
      unfold rd_T41
      rw [Int.toNat_natCast, List.getD_eq_getElem?_getD, List.getElem?_eq_getElem hlt]
      rfl
    have hw : wrap64 ((i : Int) + 1) = ((i + 1 : Nat) : Int) := by unfold wrap64; omega
    obtain ⟨p, hp⟩ : ∃ p, p = l[i] := ⟨_, rfl⟩
    rw [← hp] at hd hr
    rw [hd]
    refine Ev.step (f := fun k => (format_within.f k 1 size (([p.f1] : List Int))).bind fun t112 => (if t112 = true then ((format_within.f k 0 (wrap64 (size - p.f1)) (([p.f0] : List Int))).bind fun t116 => (format_Check.j1 k size taken l (l.length : Int) i (!t116) p.f0 p.f1)) else (format_Check.j1 k size taken l (l.length : Int) i true p.f0 p.f1))) (fun k => ?_) ?_
    · simp only [format_Check.l0]
      rw [if_pos (by omega), if_pos (by omega), if_pos (by omega), hr]
    refine Ev.bind (ev_within1 _ _ _) ?_
    have jt : Ev (fun k => format_Check.j1 k size taken l (l.length : Int) i true p.f0 p.f1) 8 := by
      refine Ev.step (f := fun k => some 8) (fun k => ?_) (Ev.now _)
      simp only [format_Check.j1, if_true]
    by_cases c1 : 1 ≤ p.f1 ∧ p.f1 ≤ size
    · simp only [decide_eq_true c1, if_true]
      have hw1 : wrap64 (size - p.f1) = size - p.f1 := by unfold wrap64; omega
      rw [hw1]
      refine Ev.bind (ev_within1 _ _ _) ?_
      by_cases c2 : 0 ≤ p.f0 ∧ p.f0 ≤ size - p.f1
      · simp only [decide_eq_true c2, Bool.not_true]
        have hin : inWord size p := ⟨c1, c2⟩
        unfold chk
        rw [if_pos hin]
        refine Ev.step (f := fun k => if Go.bits .and .u64 taken (pm p) = 0 then format_Check.l0 k size (Go.bits .or .u64 taken (pm p)) l (l.length : Int) ((i + 1 : Nat) : Int) else some 8) (fun k => ?_) ?_
        · simp only [format_Check.j1]
          rw [if_neg (by decide), mask_some (by omega) (by omega)]
          simp only [Option.bind_some]
          rw [if_pos c2.1, hw]
          rfl
        · by_cases c3 : Go.bits .and .u64 taken (pm p) = 0
          · simp only [if_pos c3]
            exact ev_Check_l0 size h1 h2 l hl n (i + 1) _ (by omega)
          · simp only [if_neg c3]
            exact Ev.now _
      · simp only [decide_eq_false c2, Bool.not_false]
        unfold chk
        rw [if_neg (fun h => c2 h.2)]
        exact jt
    · simp only [decide_eq_false c1, Bool.false_eq_true, if_false]
      unfold chk
      rw [if_neg (fun h => c1 h.1)]
      exact jt

theorem ev_Check (size : Int) (l : List S41) : Ev (fun k => format_Check.f k size l) (chkSpec size l) := by
  unfold format_Check.f chkSpec
  refine Ev.bind (ev_within1 _ _ _) ?_
  by_cases c : 1 ≤ size ∧ size ≤ 64
  · simp only [decide_eq_true c, if_true, if_pos c]
    by_cases c2 : (l.length : Int) > 4
    · simp only [if_pos c2]
      exact Ev.now _
    · simp only [if_neg c2]
      have := ev_Check_l0 size c.1 c.2 l (by omega) l.length 0 0 (by omega)
      simpa using this
  · simp only [decide_eq_false c, Bool.false_eq_true, if_false, if_neg c]
    exact Ev.now _

theorem chk_in {size : Int} : ∀ {taken : Int} {l : List S41}, chk size taken l = 0 → ∀ p ∈ l, inWord size p
  | _, [], _, p, hp => by cases hp
  | taken, q :: l, h, p, hp => by
    unfold chk at h
    by_cases c : inWord size q
    · rw [if_pos c] at h
      by_cases c2 : Go.bits .and .u64 taken (pm q) = 0
      · rw [if_pos c2] at h
        rcases List.mem_cons.1 hp with rfl | hp
        · exact c
        · exact chk_in h p hp
      · rw [if_neg c2] at h
        cases h
    · rw [if_neg c] at h
      cases h
theorem check_spec {k : Nat} {a0 r : Int} {l : List S41} (h : format_Check.f k a0 l = some r) : r = chkSpec a0 l := Ev.det_ (ev_Check a0 l) (fun k => format_Check.mono _ _ k) h
theorem chkSpec_zero {size : Int} {l : List S41} (h : chkSpec size l = 0) : (1 ≤ size ∧ size ≤ 64) ∧ l.length ≤ 4 ∧ chk size 0 l = 0 := by
  unfold chkSpec at h
  by_cases c : 1 ≤ size ∧ size ≤ 64
  · rw [if_pos c] at h
    by_cases c2 : (l.length : Int) > 4
    · rw [if_pos c2] at h; cases h
    · rw [if_neg c2] at h
      exact ⟨c, by omega, h⟩
  · rw [if_neg c] at h; cases h
theorem check_fine {k : Nat} {a0 : Int} {l : List S41} (h : format_Check.f k a0 l = some 0) : Fine l := by
  obtain ⟨c, hl, hc⟩ := chkSpec_zero (check_spec h).symm
  refine ⟨by omega, fun p hp => ?_⟩
  have := chk_in hc p hp
  unfold inWord at this
  omega
def maskStep (m : Int) (x : S41 × Int) : Int := Go.bits .or .u64 m (shl .u64 (mk_ x.1.f1) x.1.f0)
def maskOf (l : List S41) : Int := (pairs l).foldl maskStep 0
def format_Mask.f (k : Nat) (a0 : Int) (l1 : List S41) : Option (Int × Int) := (format_Check.f k a0 l1).bind fun t => if t = 0 then some (maskOf l1, 0) else some (0, t)
theorem KeepsOthers.drewN_ (W : World) (m : Nat) : KeepsOthers W (W.drewN m) := ⟨Nat.le_refl _, fun _ _ h _ => h⟩
def maskG (pre : List Pc) : Int := (pre.map (·.1)).foldl maskStep 0
theorem maskG_snoc (pre : List Pc) (x : Pc) : maskG (pre ++ [x]) = maskStep (maskG pre) x.1 := by simp [maskG]
attribute [local go_sem] Oper.semAt_some
set_option maxRecDepth 100000 in
set_option maxHeartbeats 4000000 in
theorem format_Mask.calls (k : Nat) (a0 : Int) (A1 : Option Addr) (c1 : Nat) (l1 : List S41) (r1 r2 : Int) (w : World) (hr1 : Kd.C k41 w A1 l1.length l1) (hc1 : l1.length ≤ c1) (h : format_Mask.f k a0 l1 = some (r1, r2)) :
    Calls Try.prog 20 #[.int .i64 a0, .slice A1 l1.length c1] w fun e w' => e = .returned (.tuple #[.int .u64 r1, .int .i64 r2]) ∧ Below w.heap.size w w' := by
  unfold format_Mask.f at h
  obtain ⟨t, hA, h⟩ := Option.bind_eq_some_iff.mp h
  by_cases ht : t = 0
  · subst ht
    rw [if_pos rfl] at h
    have hf := check_fine hA
    have h' := Option.some.inj h
    obtain rfl : maskOf l1 = r1 := congrArg Prod.fst h'
    obtain rfl : 0 = r2 := congrArg Prod.snd h'
    clear h h'
    have HA := Aside0.mk hA
    have HR := Aside0.mk hr1
    clear hA hr1
    refine (callsIn_wide (n := 3)).1 ?_
    refine callsIn_of_wp_marks Try.func20 rfl trivial ?_ rfl
    simp only [Try.ntmps20, List.size_toArray, List.length_cons, List.length_nil, Nat.reduceAdd, Nat.reduceSub, Array.replicate_succ, Array.replicate_zero, List.push_toArray, List.append_toArray, List.nil_append, List.cons_append]
    gi_wp2_with (first | (refine ⟨trivial, ?_⟩; gi_at_call 23; refine (callsIn_wide.2 (format_Check.calls k a0 A1 c1 l1 0 _ (Kd.C_alloc HR.out _) hc1 HA.out)).mono ?_; rintro e w1 ⟨rfl, hb1⟩) | (refine ⟨trivial, ?_⟩; gi_at_call 38; refine (shifted_in Fence.wide _ trivial rfl _ _ _ _).mono ?_; rintro e w2 ⟨rfl, rfl⟩))
    have hs1 : w.heap.size + 1 ≤ w1.heap.size := by have := hb1.size; simpa using this
    have bM1 : Boxed w1 w.heap.size 22 (.int .u64 0) := (hb1.block w.heap.size (by simp)).trans (World.alloc_heap_new w _)
    have hw1 : Below w.heap.size w w1 := ((Below.refl _ w).alloc (Nat.le_refl _) _).trans (hb1.mono (by simp))
    have bM : Boxed (w1.alloc (.cells #[.slice A1 l1.length c1] 42)) w.heap.size 22 (.int .u64 0) := bM1.alloc _
    have hw2 : Below w.heap.size w (w1.alloc (.cells #[.slice A1 l1.length c1] 42)) := hw1.alloc (by omega) _
    have bS := Boxed.new w1 42 (.slice A1 l1.length c1)
    refine wpIn_rangeFunc_ownH rfl (by omega) (gf := 47) (lb := #[.pointer (some ⟨w1.heap.size, 0, none⟩)]) rfl trivial (enters_of Try.func47 (by kernel_rfl) rfl)
      (shifted_stops Fence.wide _ trivial rfl (by omega) w.heap.size w1.heap.size A1 c1 l1 hf _ (by simp; omega) (by simp) (fun h0 a ha => by have := came_lt HR.out h0 a ha; omega) bS.cell (Kd.C_below HR.out hw2))
      (fun h k => KeepCells.trans h k) (fun W l o o' _ h ho _ => KeepCells.putObj _ _ h ho) (Below.refl _ _) (fun _ => rfl)
      (fun pre W => Boxed W w.heap.size 22 (.int .u64 (maskG pre)) ∧ Below w.heap.size w W)
      (fun _ _ _ => False)
      (OwnFrom.and (Own.from (boxed_own _ _ _) _) (ownFrom_below (Nat.le_refl _) (by simp; omega)))
      (fun _ _ _ _ _ hs _ _ => hs)
      ⟨bM, hw2⟩
      (fun x a' W => ∃ Bx, w.heap.size < Bx ∧ PBox W Bx x ∧ a' = { tmps := #[.int .i64 a0, .slice A1 l1.length c1, undef, undef, .pointer (some ⟨w.heap.size, 0, none⟩), .int .i64 0, .int .i64 0, .pointer (some ⟨Bx, 0, none⟩), .int .i64 a0, .slice A1 l1.length c1, .int .i64 0, .int .i64 0, .bool false, undef, .slice A1 l1.length c1, .func (.func 47) #[] #[.pointer (some ⟨w1.heap.size, 0, none⟩)], .agg #[.int .i64 x.1.1.f0, .int .i64 x.1.1.f1], .int .i64 x.1.2, undef, undef, undef, undef, undef, undef, undef, undef, undef], defers := [] })
      (fun x a' => pbox_own_ex _ _ _ _) ?assign ?body ?done ?stop
    case assign =>
      rintro l pre x W K ⟨bM2, hB2⟩ hK
      gi_wp2
      exact hK _ _ ((KeepsOthers.alloc _ _).from _) (KeepCells.alloc (KeepCells.refl _ _) _) ⟨bM2.alloc _, hB2.alloc hB2.size _⟩ ⟨W.heap.size, bM2.lt, PBox.new W x, rfl⟩
    case body =>
      rintro l pre x a' W hl ⟨r, hr⟩ ⟨bM2, hB2⟩ ⟨Bx, hBx, bX, rfl⟩ hlt
      have hpv := x.2
      unfold PV at hpv
      have cM := bM2.cell
      have fM := bM2.frozen
      have c0 := bX.c0
      have c1' := bX.c1
      have HX := Aside0.mk bX
      have HM := Aside0.mk bM2
      have HBW := Aside0.mk hB2
      clear bX bM2 hB2 hr
      obtain ⟨p0, hp0⟩ : ∃ a, a = x.1.1.f0 := ⟨_, rfl⟩
      obtain ⟨p1, hp1⟩ : ∃ a, a = x.1.1.f1 := ⟨_, rfl⟩
      obtain ⟨p2, hp2⟩ : ∃ a, a = x.1.2 := ⟨_, rfl⟩
      rw [← hp0, ← hp1, ← hp2] at hpv
      rw [← hp0] at c0
      rw [← hp1] at c1'
      rw [← hp0, ← hp1, ← hp2]
      have hmk := mask_some hpv.2.2.1 hpv.2.2.2.1
      have HP : Aside0 (p0 = x.1.1.f0 ∧ p1 = x.1.1.f1 ∧ p2 = x.1.2) := ⟨hp0, hp1, hp2⟩
      have HK := Aside0.mk hmk
      clear hp0 hp1 hp2 hmk
      have h0 : 0 ≤ p0 := hpv.1
      have hmx : Try.prog.follows .mixedOrders = true := by kernel_rfl
      gi_wp2
      refine start_round (m := 9) (S := fun w' => ∃ m, w' = W.drewN m) (ds := [8]) #[false, false, false, false, false, false, false, false, false] hmx (by rfl) (fun ⟨_, _, h_⟩ => h_) rfl rfl ⟨1, rfl⟩ ?_
      intro hS0
      obtain ⟨m0, hm0⟩ := hS0
      rw [hm0]
      clear hm0
      refine take_ (i := 0) (N := (some 18)) (v := ?_) (a' := ?_) #[true, false, false, false, false, false, false, false, false] rfl rfl (by kernel_rfl) (fun _ _ _ h => h) (Or.inl ⟨by rfl, ?_⟩) ⟨_, rfl⟩ ?_ ?_
      rotate_left
      · rintro w' ⟨m, rfl⟩
        go_simp
        with_reducible rfl
      rotate_left
      · simp only [Act.put, List.setIfInBounds_toArray, List.set_cons_zero, List.set_cons_succ, i64_w, i32_w]
        rfl
      refine pure_ (i := 1) (N := (some 19)) (v := ?_) (a' := ?_) #[true, true, false, false, false, false, false, false, false] rfl rfl (by kernel_rfl) (fun _ _ _ h => h) (Or.inl ⟨by rfl, ?_⟩) ?_ ?_
      rotate_left
      · intro w'
        go_simp
        with_reducible rfl
      rotate_left
      · simp only [Act.put, List.setIfInBounds_toArray, List.set_cons_zero, List.set_cons_succ, i64_w, i32_w]
        rfl
      refine take_ (i := 2) (N := (some 20)) (v := ?_) (a' := ?_) #[true, true, true, false, false, false, false, false, false] rfl rfl (by kernel_rfl) (fun _ _ _ h => h) (Or.inl ⟨by rfl, ?_⟩) ⟨_, rfl⟩ ?_ ?_
      rotate_left
      · rintro w' ⟨m, rfl⟩
        go_simp
        with_reducible rfl
      rotate_left
      · simp only [Act.put, List.setIfInBounds_toArray, List.set_cons_zero, List.set_cons_succ, i64_w, i32_w]
        rfl
      refine pure_ (i := 4) (N := (some 22)) (v := ?_) (a' := ?_) #[true, true, true, false, true, false, false, false, false] rfl rfl (by kernel_rfl) (fun _ _ _ h => h) (Or.inl ⟨by rfl, ?_⟩) ?_ ?_
      rotate_left
      · intro w'
        go_simp
        with_reducible rfl
      rotate_left
      · simp only [Act.put, List.setIfInBounds_toArray, List.set_cons_zero, List.set_cons_succ, i64_w, i32_w]
        rfl
      refine take_ (i := 5) (N := (some 23)) (v := ?_) (a' := ?_) #[true, true, true, false, true, true, false, false, false] rfl rfl (by kernel_rfl) (fun _ _ _ h => h) (Or.inl ⟨by rfl, ?_⟩) ⟨_, rfl⟩ ?_ ?_
      rotate_left
      · rintro w' ⟨m, rfl⟩
        go_simp
        with_reducible rfl
      rotate_left
      · simp only [Act.put, List.setIfInBounds_toArray, List.set_cons_zero, List.set_cons_succ, i64_w, i32_w]
        rfl
      refine one_ (i := 3) (N := (some 21)) #[true, true, true, true, true, true, false, false, false] rfl rfl (by kernel_rfl) (by decide) (fun K hK => ?_)
      refine goes_ Try.func33 (by kernel_rfl) rfl #[.int .i64 p1] (by rfl) rfl rfl (by (try simp only [List.map_toArray, List.map_cons, List.map_nil]); rfl) ?_
      with_reducible refine (bits_Mask.calls p1 _ _ HK.out).mono ?_
      rintro e w' ⟨rfl, ⟨nd1, rfl⟩⟩
      refine ⟨_, rfl, ?_⟩
      refine hK.out _ _ ⟨_, World.drewN_drewN _ _ _⟩ (fun hHeld => ?_)
      clear hK K
      rw [World.drewN_drewN]
      refine norm_ (a' := ?_) ?_ ?_
      rotate_left
      · show Act.put _ (some 21) _ = _
        simp only [Act.put, List.setIfInBounds_toArray, List.set_cons_zero, List.set_cons_succ, i64_w, i32_w]
        rfl
      refine pure_ (i := 6) (N := (some 24)) (v := ?_) (a' := ?_) #[true, true, true, true, true, true, true, false, false] rfl rfl (by kernel_rfl) (fun _ _ _ h => h) (Or.inl ⟨by rfl, ?_⟩) ?_ ?_
      rotate_left
      · intro w'
        go_simp
        with_reducible rfl
      rotate_left
      · simp only [Act.put, List.setIfInBounds_toArray, List.set_cons_zero, List.set_cons_succ, i64_w, i32_w]
        rfl
      refine pure_ (i := 7) (N := (some 25)) (v := ?_) (a' := ?_) #[true, true, true, true, true, true, true, true, false] rfl rfl (by kernel_rfl) (fun _ _ _ h => h) (Or.inl ⟨by rfl, ?_⟩) ?_ ?_
      rotate_left
      · intro w'
        go_simp
        with_reducible rfl
      rotate_left
      · simp only [Act.put, List.setIfInBounds_toArray, List.set_cons_zero, List.set_cons_succ, i64_w, i32_w]
        rfl
      refine last_ (i := 8) (N := none) #[true, true, true, true, true, true, true, true, true] rfl rfl (by kernel_rfl) (by decide) (fun K hK => ?_)
      refine skip_ (w1 := ?_) (by rfl) rfl ?_ ?_
      rotate_left
      · go_simp
        rfl
      refine hK.out _ _ ?_
      clear hK K
      refine done_ (by kernel_rfl) ?_
      have hv : (Value.int .u64 (Go.bits .or .u64 (maskG pre) (IntKind.u64.wrap (mk_ p1 * 2 ^ p0.toNat)))) = .int .u64 (maskG (pre ++ [x])) := by
        rw [maskG_snoc]
        unfold maskStep shl
        rw [← HP.out.1, ← HP.out.2.1, Nat.min_eq_left (show p0.toNat ≤ IntKind.u64.bits by show p0.toNat ≤ 64; omega)]
      rw [hv]
      exact ⟨((KeepsOthers.drewN_ W _).trans (KeepsOthers.setCell _ _ _)).from _, ((KeepCells.refl _ _).drewN _).setCell _, (show Boxed (W.drewN _) _ _ _ from HM.out).set _, (pw_below_drewN HBW.out _).setCell (p := ⟨w.heap.size, 0, none⟩) (Nat.le_refl _) _⟩
    case done =>
      rintro D ys W hD hys ⟨bM2, hB2⟩ hK
      have cM := bM2.cell
      have fM := bM2.frozen
      have hm : maskG ys = maskOf l1 := by unfold maskG maskOf; rw [hys]
      rw [hm] at cM bM2
      clear hm
      have HM := Aside0.mk bM2
      have HBW := Aside0.mk hB2
      clear bM2 hB2
      gi_wp2
      have hK' := (KeepsOthers.setCell W ⟨w.heap.size, 0, none⟩ (.int .u64 (maskOf l1))).same D _ hK rfl
      refine ⟨by simp, .inl ⟨_, _, rfl, run_takeDeferred hK', ?_⟩⟩
      have hc5 := cell_kept (World.cell?_setCell_same' W ⟨w.heap.size, 0, none⟩ (.int .u64 (maskOf l1)) (by rw [cM]; rfl)) (grownBy_putObj' _ D (.deferred none)) (fun r e => by cases e; exact ⟨_, hK', rfl⟩)
      refine ⟨.tuple #[.int .u64 (maskOf l1), .int .i64 0], ?_, rfl, (HBW.out.setCell (p := ⟨w.heap.size, 0, none⟩) (Nat.le_refl _) _).trans (belowK_b (w := w) (Nat.le_refl _) _ D _ _ (by simp at hD; omega) hK' rfl rfl)⟩
      simp [results, Try.f20, go_sem, hc5]
    case stop =>
      rintro D c pre W _ _ h _
      exact h.elim
  · rw [if_neg ht] at h
    have h' := Option.some.inj h
    obtain rfl : 0 = r1 := congrArg Prod.fst h'
    obtain rfl : t = r2 := congrArg Prod.snd h'
    clear h h'
    have HA := Aside0.mk hA
    have HR := Aside0.mk hr1
    have hne : (t != 0) = true := by simpa using ht
    clear hA hr1 ht
    go_enter Try.func20, Try.ntmps20
    go_wp2_with (go_at_call 23; refine (format_Check.calls k a0 A1 c1 l1 t _ (Kd.C_alloc HR.out _) hc1 HA.out).mono ?_; rintro e w1 ⟨rfl, hb1⟩; have bM1 : Boxed w1 w.heap.size 22 (.int .u64 0) := (hb1.block w.heap.size (by simp)).trans (World.alloc_heap_new w _); have cM := bM1.cell; have fM := bM1.frozen)
    have hc5 := World.cell?_setCell_same' w1 ⟨w.heap.size, 0, none⟩ (.int .u64 0) (by rw [cM]; rfl)
    have hw1 : Below w.heap.size w w1 := ((Below.refl _ w).alloc (Nat.le_refl _) _).trans (hb1.mono (by simp))
    refine bodyPost_ret (v := .tuple #[.int .u64 0, .int .i64 t]) ?_ rfl ⟨rfl, hw1.setCell (p := ⟨w.heap.size, 0, none⟩) (Nat.le_refl _) _⟩
    simp [results, Try.results20, go_sem, hc5]
theorem format_Mask.mono : ∀ a0 a1 k, LeO (format_Mask.f k a0 a1) (format_Mask.f (k + 1) a0 a1) := fun a0 a1 k => LeO.bind (format_Check.mono _ _ _) (fun _ => LeO.refl _)
theorem mask_fine {k : Nat} {a0 mk : Int} {l : List S41} (h : format_Mask.f k a0 l = some (mk, 0)) : Fine l := by
  unfold format_Mask.f at h
  obtain ⟨t, hA, h⟩ := Option.bind_eq_some_iff.mp h
  by_cases ht : t = 0
  · subst ht
    exact check_fine hA
  · rw [if_neg ht] at h
    exact absurd (congrArg Prod.snd (Option.some.inj h)) ht

end Go.Proofs.Ytgbciglkfbiopaa.Q
