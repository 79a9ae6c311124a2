-- Written by wip/tools/given.py (own program over the kit's print.py) out of the translation. Not trusted: Lean checks it.
import Derived.Test.YtgbciglkfbiopaaQx0
import Derived.Test.YtgbciglkfbiopaaQx2
import Derived.Test.YtgbciglkfbiopaaQx5
import Derived.Test.YtgbciglkfbiopaaQx6
import Derived.Test.YtgbciglkfbiopaaQx7
import Derived.Test.YtgbciglkfbiopaaIter
import Derived.Test.YtgbciglkfbiopaaRnd
namespace Go.Proofs.Ytgbciglkfbiopaa.Q
open Go.RowKit Go.Proofs.YtgbciglkfbiopaaW.PrintWords Go.Proofs.YtgbciglkfbiopaaW.PrintLast Go.Proofs.YtgbciglkfbiopaaW.PrintMore
attribute [local go_sem] max2_int min2_int max_two min_two max_three min_three max_four min_four   -- for this text's walks alone
set_option linter.unusedVariables false
set_option linter.unusedSimpArgs false

/-! ### format_Get: function 21 -/
open Go.Shelf
def getStep (word m : Int) (x : S41 × Int) : Int := Go.bits .or .u64 m (shl .u64 (Go.bits .and .u64 (shr .u64 word x.1.f0) (mk_ x.1.f1)) x.2)
def getOf (word : Int) (l : List S41) : Int := (pairs l).foldl (getStep word) 0
def format_Get.f (k : Nat) (a0 a1 : Int) (l2 : List S41) : Option (Int × Int) := (format_Check.f k a0 l2).bind fun t => if t = 0 then ((format_fits.f a1 a0).bind fun b => if b = true then some (getOf a1 l2, 0) else some (0, 24)) else some (0, t)
def getG (word : Int) (pre : List Pc) : Int := (pre.map (·.1)).foldl (getStep word) 0
theorem getG_snoc (word : Int) (pre : List Pc) (x : Pc) : getG word (pre ++ [x]) = getStep word (getG word pre) x.1 := by simp [getG]
attribute [local go_sem] Oper.semAt_some
set_option maxRecDepth 100000 in
set_option maxHeartbeats 4000000 in
theorem get_ok (k : Nat) (a0 a1 : Int) (A2 : Option Addr) (c2 : Nat) (l2 : List S41) (w : World) (HR : Aside0 (Kd.C k41 w A2 l2.length l2)) (HC : Aside0 (l2.length ≤ c2)) (HA : Aside0 (format_Check.f k a0 l2 = some 0)) (HF : Aside0 (format_fits.f a1 a0 = some true)) (hf : Fine l2) :
    Calls Try.prog 21 #[.int .i64 a0, .int .u64 a1, .slice A2 l2.length c2] w fun e w' => e = .returned (.tuple #[.int .u64 (getOf a1 l2), .int .i64 0]) ∧ Below w.heap.size w w' := by
  refine (callsIn_wide (n := 3)).1 ?_
  refine callsIn_of_wp_marks Try.func21 rfl trivial ?_ rfl
  simp only [Try.ntmps21, List.size_toArray, List.length_cons, List.length_nil, Nat.reduceAdd, Nat.reduceSub, Array.replicate_succ, Array.replicate_zero, List.push_toArray, List.append_toArray, List.nil_append, List.cons_append]
  gi_wp2_with (first | (refine ⟨trivial, ?_⟩; gi_at_call 23; refine (callsIn_wide.2 (format_Check.calls k a0 A2 c2 l2 0 _ (Kd.C_alloc (Kd.C_alloc HR.out _) _) HC.out HA.out)).mono ?_; rintro e w1 ⟨rfl, hb1⟩; have bW1 : Boxed w1 w.heap.size 22 (.int .u64 a1) := (hb1.block w.heap.size (by simp; omega)).trans ((Boxed.new w 22 (.int .u64 a1)).alloc _); have cW1 := bW1.cell) | (refine ⟨trivial, ?_⟩; gi_at_call 35; refine (callsIn_wide.2 (format_fits.calls a1 a0 true _ HF.out)).mono ?_; rintro e w2 ⟨rfl, ⟨nd, rfl⟩⟩) | (refine ⟨trivial, ?_⟩; gi_at_call 38; refine (shifted_in Fence.wide _ trivial rfl _ _ _ _).mono ?_; rintro e w2 ⟨rfl, rfl⟩))
  have hs1 : w.heap.size + 2 ≤ w1.heap.size := by have := hb1.size; simpa using this
  have bM1 : Boxed w1 (w.heap.size + 1) 22 (.int .u64 0) := (hb1.block (w.heap.size + 1) (by simp)).trans (by have := Boxed.new (w.alloc (.cells #[.int .u64 a1] 22)) 22 (.int .u64 0); rw [World.size_alloc] at this; exact this)
  have hw1 : Below w.heap.size w w1 := (((Below.refl _ w).alloc (Nat.le_refl _) _).alloc (by simp) _).trans (hb1.mono (by simp; omega))
  have bM : Boxed ((w1.drewN nd).alloc (.cells #[.slice A2 l2.length c2] 42)) (w.heap.size + 1) 22 (.int .u64 0) := (show Boxed (w1.drewN nd) _ _ _ from bM1).alloc _
  have bW : Boxed ((w1.drewN nd).alloc (.cells #[.slice A2 l2.length c2] 42)) w.heap.size 22 (.int .u64 a1) := (show Boxed (w1.drewN nd) _ _ _ from bW1).alloc _
  have hw2 : Below w.heap.size w ((w1.drewN nd).alloc (.cells #[.slice A2 l2.length c2] 42)) := (pw_below_drewN hw1 nd).alloc (by simp; omega) _
  have bS : Boxed ((w1.drewN nd).alloc (.cells #[.slice A2 l2.length c2] 42)) w1.heap.size 42 (.slice A2 l2.length c2) := Boxed.new (w1.drewN nd) 42 (.slice A2 l2.length c2)
  refine wpIn_rangeFunc_ownH rfl (by omega) (gf := 47) (lb := #[.pointer (some ⟨w1.heap.size, 0, none⟩)]) rfl trivial (enters_of Try.func47 (by kernel_rfl) rfl)
    (shifted_stops Fence.wide _ trivial rfl (by omega) (w.heap.size + 1) w1.heap.size A2 c2 l2 hf _ (by simp; omega) (by simp) (fun h0 a ha => by have := came_lt HR.out h0 a ha; omega) bS.cell (Kd.C_below HR.out hw2))
    (fun h k => KeepCells.trans h k) (fun W l o o' _ h ho _ => KeepCells.putObj _ _ h ho) (Below.refl _ _) (fun _ => rfl)
    (fun pre W => (Boxed W (w.heap.size + 1) 22 (.int .u64 (getG a1 pre)) ∧ Boxed W w.heap.size 22 (.int .u64 a1)) ∧ Below w.heap.size w W)
    (fun _ _ _ => False)
    (OwnFrom.and (OwnFrom.and (Own.from (boxed_own _ _ _) _) (Own.from (boxed_own _ _ _) _)) (ownFrom_below (Nat.le_refl _) (by simp; omega)))
    (fun _ _ _ _ _ hs _ _ => hs)
    ⟨⟨bM, bW⟩, hw2⟩
    (fun x a' W => ∃ Bx, w.heap.size < Bx ∧ PBox W Bx x ∧ a' = { tmps := #[.int .i64 a0, .int .u64 a1, .slice A2 l2.length c2, undef, .pointer (some ⟨w.heap.size, 0, none⟩), undef, .pointer (some ⟨w.heap.size + 1, 0, none⟩), .int .i64 0, .int .i64 0, .pointer (some ⟨Bx, 0, none⟩), .int .i64 x.1.2, .int .i64 a0, .slice A2 l2.length c2, .int .i64 0, .int .i64 0, .bool false, undef, .int .u64 a1, .int .i64 a0, .bool true, .bool false, .slice A2 l2.length c2, .func (.func 47) #[] #[.pointer (some ⟨w1.heap.size, 0, none⟩)], .agg #[.int .i64 x.1.1.f0, .int .i64 x.1.1.f1], .int .i64 x.1.2, undef, undef, undef, undef, undef, undef, undef, undef, undef, undef, undef, undef, undef], defers := [] })
    (fun x a' => pbox_own_ex _ _ _ _) ?assign ?body ?done ?stop
  case assign =>
    rintro l pre x W K ⟨⟨bM2, bW2⟩, hB2⟩ hK
    gi_wp2
    exact hK _ _ ((KeepsOthers.alloc _ _).from _) (KeepCells.alloc (KeepCells.refl _ _) _) ⟨⟨bM2.alloc _, bW2.alloc _⟩, hB2.alloc hB2.size _⟩ ⟨W.heap.size, bW2.lt, PBox.new W x, rfl⟩
  case body =>
    rintro l pre x a' W hl ⟨r, hr⟩ ⟨⟨bM2, bW2⟩, hB2⟩ ⟨Bx, hBx, bX, rfl⟩ hlt
    have hpv := x.2
    unfold PV at hpv
    have cM := bM2.cell
    have fM := bM2.frozen
    have cW := bW2.cell
    have c0 := bX.c0
    have c1' := bX.c1
    have HM := Aside0.mk bM2
    have HW2 := Aside0.mk bW2
    have HBW := Aside0.mk hB2
    clear bX bM2 bW2 hB2 hr cW1 bW1 bM1 bM bW bS
    obtain ⟨p0, hp0⟩ : ∃ a, a = x.1.1.f0 := ⟨_, rfl⟩
    obtain ⟨p1, hp1⟩ : ∃ a, a = x.1.1.f1 := ⟨_, rfl⟩
    obtain ⟨p2, hp2⟩ : ∃ a, a = x.1.2 := ⟨_, rfl⟩
    rw [← hp0, ← hp1, ← hp2] at hpv
    rw [← hp0] at c0
    rw [← hp1] at c1'
    rw [← hp0, ← hp1, ← hp2]
    have hmk := mask_some hpv.2.2.1 hpv.2.2.2.1
    have HP : Aside0 (p0 = x.1.1.f0 ∧ p1 = x.1.1.f1 ∧ p2 = x.1.2) := ⟨hp0, hp1, hp2⟩
    have HK := Aside0.mk hmk
    clear hp0 hp1 hp2 hmk
    have h0 : 0 ≤ p0 := hpv.1
    have h2 : 0 ≤ p2 := hpv.2.2.2.2.1
    have hmx : Try.prog.follows .mixedOrders = true := by kernel_rfl
    gi_wp2
    refine start_round (m := 13) (S := fun w' => ∃ m, w' = W.drewN m) (ds := [12]) #[false, false, false, false, false, false, false, false, false, false, false, false, false] hmx (by rfl) (fun ⟨_, _, h_⟩ => h_) rfl rfl ⟨1, rfl⟩ ?_
    intro hS0
    obtain ⟨m0, hm0⟩ := hS0
    rw [hm0]
    clear hm0
    refine take_ (i := 0) (N := (some 25)) (v := ?_) (a' := ?_) #[true, false, false, false, false, false, false, false, false, false, false, false, false] rfl rfl (by kernel_rfl) (fun _ _ _ h => h) (Or.inl ⟨by rfl, ?_⟩) ⟨_, rfl⟩ ?_ ?_
    rotate_left
    · rintro w' ⟨m, rfl⟩
      go_simp
      with_reducible rfl
    rotate_left
    · simp only [Act.put, List.setIfInBounds_toArray, List.set_cons_zero, List.set_cons_succ, i64_w, i32_w]
      rfl
    refine take_ (i := 1) (N := (some 26)) (v := ?_) (a' := ?_) #[true, true, false, false, false, false, false, false, false, false, false, false, false] rfl rfl (by kernel_rfl) (fun _ _ _ h => h) (Or.inl ⟨by rfl, ?_⟩) ⟨_, rfl⟩ ?_ ?_
    rotate_left
    · rintro w' ⟨m, rfl⟩
      go_simp
      with_reducible rfl
    rotate_left
    · simp only [Act.put, List.setIfInBounds_toArray, List.set_cons_zero, List.set_cons_succ, i64_w, i32_w]
      rfl
    refine pure_ (i := 2) (N := (some 27)) (v := ?_) (a' := ?_) #[true, true, true, false, false, false, false, false, false, false, false, false, false] rfl rfl (by kernel_rfl) (fun _ _ _ h => h) (Or.inl ⟨by rfl, ?_⟩) ?_ ?_
    rotate_left
    · intro w'
      go_simp
      with_reducible rfl
    rotate_left
    · simp only [Act.put, List.setIfInBounds_toArray, List.set_cons_zero, List.set_cons_succ, i64_w, i32_w]
      rfl
    refine take_ (i := 3) (N := (some 28)) (v := ?_) (a' := ?_) #[true, true, true, true, false, false, false, false, false, false, false, false, false] rfl rfl (by kernel_rfl) (fun _ _ _ h => h) (Or.inl ⟨by rfl, ?_⟩) ⟨_, rfl⟩ ?_ ?_
    rotate_left
    · rintro w' ⟨m, rfl⟩
      go_simp
      with_reducible rfl
    rotate_left
    · simp only [Act.put, List.setIfInBounds_toArray, List.set_cons_zero, List.set_cons_succ, i64_w, i32_w]
      rfl
    refine pure_ (i := 4) (N := (some 29)) (v := ?_) (a' := ?_) #[true, true, true, true, true, false, false, false, false, false, false, false, false] rfl rfl (by kernel_rfl) (fun _ _ _ h => h) (Or.inl ⟨by rfl, ?_⟩) ?_ ?_
    rotate_left
    · intro w'
      go_simp
      with_reducible rfl
    rotate_left
    · simp only [Act.put, List.setIfInBounds_toArray, List.set_cons_zero, List.set_cons_succ, i64_w, i32_w]
      rfl
    refine pure_ (i := 5) (N := (some 30)) (v := ?_) (a' := ?_) #[true, true, true, true, true, true, false, false, false, false, false, false, false] rfl rfl (by kernel_rfl) (fun _ _ _ h => h) (Or.inl ⟨by rfl, ?_⟩) ?_ ?_
    rotate_left
    · intro w'
      go_simp
      with_reducible rfl
    rotate_left
    · simp only [Act.put, List.setIfInBounds_toArray, List.set_cons_zero, List.set_cons_succ, i64_w, i32_w]
      rfl
    refine take_ (i := 6) (N := (some 31)) (v := ?_) (a' := ?_) #[true, true, true, true, true, true, true, false, false, false, false, false, false] rfl rfl (by kernel_rfl) (fun _ _ _ h => h) (Or.inl ⟨by rfl, ?_⟩) ⟨_, rfl⟩ ?_ ?_
    rotate_left
    · rintro w' ⟨m, rfl⟩
      go_simp
      with_reducible rfl
    rotate_left
    · simp only [Act.put, List.setIfInBounds_toArray, List.set_cons_zero, List.set_cons_succ, i64_w, i32_w]
      rfl
    refine pure_ (i := 9) (N := (some 34)) (v := ?_) (a' := ?_) #[true, true, true, true, true, true, true, false, false, true, false, false, false] rfl rfl (by kernel_rfl) (fun _ _ _ h => h) (Or.inl ⟨by rfl, ?_⟩) ?_ ?_
    rotate_left
    · intro w'
      go_simp
      with_reducible rfl
    rotate_left
    · simp only [Act.put, List.setIfInBounds_toArray, List.set_cons_zero, List.set_cons_succ, i64_w, i32_w]
      rfl
    refine one_ (i := 7) (N := (some 32)) #[true, true, true, true, true, true, true, true, false, true, false, false, false] rfl rfl (by kernel_rfl) (by decide) (fun K hK => ?_)
    refine goes_ Try.func33 (by kernel_rfl) rfl #[.int .i64 p1] (by rfl) rfl rfl (by (try simp only [List.map_toArray, List.map_cons, List.map_nil]); rfl) ?_
    with_reducible refine (bits_Mask.calls p1 _ _ HK.out).mono ?_
    rintro e w' ⟨rfl, ⟨nd1, rfl⟩⟩
    refine ⟨_, rfl, ?_⟩
    refine hK.out _ _ ⟨_, World.drewN_drewN _ _ _⟩ (fun hHeld => ?_)
    clear hK K
    rw [World.drewN_drewN]
    refine norm_ (a' := ?_) ?_ ?_
    rotate_left
    · show Act.put _ (some 32) _ = _
      simp only [Act.put, List.setIfInBounds_toArray, List.set_cons_zero, List.set_cons_succ, i64_w, i32_w]
      rfl
    refine pure_ (i := 8) (N := (some 33)) (v := ?_) (a' := ?_) #[true, true, true, true, true, true, true, true, true, true, false, false, false] rfl rfl (by kernel_rfl) (fun _ _ _ h => h) (Or.inl ⟨by rfl, ?_⟩) ?_ ?_
    rotate_left
    · intro w'
      go_simp
      with_reducible rfl
    rotate_left
    · simp only [Act.put, List.setIfInBounds_toArray, List.set_cons_zero, List.set_cons_succ, i64_w, i32_w]
      rfl
    refine pure_ (i := 10) (N := (some 35)) (v := ?_) (a' := ?_) #[true, true, true, true, true, true, true, true, true, true, true, false, false] rfl rfl (by kernel_rfl) (fun _ _ _ h => h) (Or.inl ⟨by rfl, ?_⟩) ?_ ?_
    rotate_left
    · intro w'
      go_simp
      with_reducible rfl
    rotate_left
    · simp only [Act.put, List.setIfInBounds_toArray, List.set_cons_zero, List.set_cons_succ, i64_w, i32_w]
      rfl
    refine pure_ (i := 11) (N := (some 36)) (v := ?_) (a' := ?_) #[true, true, true, true, true, true, true, true, true, true, true, true, false] rfl rfl (by kernel_rfl) (fun _ _ _ h => h) (Or.inl ⟨by rfl, ?_⟩) ?_ ?_
    rotate_left
    · intro w'
      go_simp
      with_reducible rfl
    rotate_left
    · simp only [Act.put, List.setIfInBounds_toArray, List.set_cons_zero, List.set_cons_succ, i64_w, i32_w]
      rfl
    refine last_ (i := 12) (N := none) #[true, true, true, true, true, true, true, true, true, true, true, true, true] rfl rfl (by kernel_rfl) (by decide) (fun K hK => ?_)
    refine skip_ (w1 := ?_) (by rfl) rfl ?_ ?_
    rotate_left
    · go_simp
      rfl
    refine hK.out _ _ ?_
    clear hK K
    refine done_ (by kernel_rfl) ?_
    have hv : (Value.int .u64 (Go.bits .or .u64 (getG a1 pre) (IntKind.u64.wrap (Go.bits .and .u64 (a1 / 2 ^ p0.toNat) (mk_ p1) * 2 ^ min p2.toNat 64)))) = .int .u64 (getG a1 (pre ++ [x])) := by
      rw [getG_snoc]
      unfold getStep shl shr
      rw [← HP.out.1, ← HP.out.2.1, ← HP.out.2.2, Nat.min_eq_left (show p0.toNat ≤ IntKind.u64.bits by show p0.toNat ≤ 64; omega)]
      rfl
    rw [hv]
    exact ⟨((KeepsOthers.drewN_ W _).trans (KeepsOthers.setCell _ _ _)).from _, ((KeepCells.refl _ _).drewN _).setCell _, ⟨(show Boxed (W.drewN _) _ _ _ from HM.out).set _, (show Boxed (W.drewN _) _ _ _ from HW2.out).other (by omega) _⟩, (pw_below_drewN HBW.out _).setCell (p := ⟨w.heap.size + 1, 0, none⟩) (by simp) _⟩
  case done =>
    rintro D ys W hD hys ⟨⟨bM2, bW2⟩, hB2⟩ hK
    have cM := bM2.cell
    have fM := bM2.frozen
    have hm : getG a1 ys = getOf a1 l2 := by unfold getG getOf; rw [hys]
    rw [hm] at cM bM2
    clear hm
    have HM := Aside0.mk bM2
    have HBW := Aside0.mk hB2
    clear bM2 hB2 bW2 cW1 bW1 bM1 bM bW bS
    gi_wp2
    have hK' := (KeepsOthers.setCell W ⟨w.heap.size + 1, 0, none⟩ (.int .u64 (getOf a1 l2))).same D _ hK rfl
    refine ⟨by simp, .inl ⟨_, _, rfl, run_takeDeferred hK', ?_⟩⟩
    have hc5 := cell_kept (World.cell?_setCell_same' W ⟨w.heap.size + 1, 0, none⟩ (.int .u64 (getOf a1 l2)) (by rw [cM]; rfl)) (grownBy_putObj' _ D (.deferred none)) (fun r e => by cases e; exact ⟨_, hK', rfl⟩)
    refine ⟨.tuple #[.int .u64 (getOf a1 l2), .int .i64 0], ?_, rfl, (HBW.out.setCell (p := ⟨w.heap.size + 1, 0, none⟩) (by simp) _).trans (belowK_b (w := w) (Nat.le_refl _) _ D _ _ (by simp at hD; omega) hK' rfl rfl)⟩
    simp [results, Try.f21, go_sem, hc5]
  case stop =>
    rintro D c pre W _ _ h _
    exact h.elim
set_option maxRecDepth 100000 in
set_option maxHeartbeats 4000000 in
theorem get_off (k : Nat) (a0 a1 : Int) (A2 : Option Addr) (c2 : Nat) (l2 : List S41) (w : World) (HR : Aside0 (Kd.C k41 w A2 l2.length l2)) (HC : Aside0 (l2.length ≤ c2)) (HA : Aside0 (format_Check.f k a0 l2 = some 0)) (HF : Aside0 (format_fits.f a1 a0 = some false)) :
    Calls Try.prog 21 #[.int .i64 a0, .int .u64 a1, .slice A2 l2.length c2] w fun e w' => e = .returned (.tuple #[.int .u64 0, .int .i64 24]) ∧ Below w.heap.size w w' := by
  go_enter Try.func21, Try.ntmps21
  go_wp2_with (first | (go_at_call 23; refine (format_Check.calls k a0 A2 c2 l2 0 _ (Kd.C_alloc (Kd.C_alloc HR.out _) _) HC.out HA.out).mono ?_; rintro e w1 ⟨rfl, hb1⟩; have bW1 : Boxed w1 w.heap.size 22 (.int .u64 a1) := (hb1.block w.heap.size (by simp; omega)).trans ((Boxed.new w 22 (.int .u64 a1)).alloc _); have cW1 := bW1.cell; have bM1 : Boxed w1 (w.heap.size + 1) 22 (.int .u64 0) := (hb1.block (w.heap.size + 1) (by simp)).trans (by have := Boxed.new (w.alloc (.cells #[.int .u64 a1] 22)) 22 (.int .u64 0); rw [World.size_alloc] at this; exact this); have cM := bM1.cell; have fM := bM1.frozen) | (go_at_call 35; refine (format_fits.calls a1 a0 false _ HF.out).mono ?_; rintro e w2 ⟨rfl, ⟨nd, rfl⟩⟩))
  have hc5 := World.cell?_setCell_same' (w1.drewN nd) ⟨w.heap.size + 1, 0, none⟩ (.int .u64 0) (by rw [show (w1.drewN nd).cell? _ = w1.cell? _ from rfl, cM]; rfl)
  have hw1 : Below w.heap.size w w1 := (((Below.refl _ w).alloc (Nat.le_refl _) _).alloc (by simp) _).trans (hb1.mono (by simp; omega))
  refine bodyPost_ret (v := .tuple #[.int .u64 0, .int .i64 24]) ?_ rfl ⟨rfl, (pw_below_drewN hw1 nd).setCell (p := ⟨w.heap.size + 1, 0, none⟩) (by simp) _⟩
  simp [results, Try.results21, go_sem, hc5]
set_option maxRecDepth 100000 in
set_option maxHeartbeats 4000000 in
theorem get_bad (k : Nat) (a0 a1 : Int) (A2 : Option Addr) (c2 : Nat) (l2 : List S41) (t : Int) (w : World) (HR : Aside0 (Kd.C k41 w A2 l2.length l2)) (HC : Aside0 (l2.length ≤ c2)) (HA : Aside0 (format_Check.f k a0 l2 = some t)) (hne : (t != 0) = true) :
    Calls Try.prog 21 #[.int .i64 a0, .int .u64 a1, .slice A2 l2.length c2] w fun e w' => e = .returned (.tuple #[.int .u64 0, .int .i64 t]) ∧ Below w.heap.size w w' := by
  go_enter Try.func21, Try.ntmps21
  go_wp2_with (go_at_call 23; refine (format_Check.calls k a0 A2 c2 l2 t _ (Kd.C_alloc (Kd.C_alloc HR.out _) _) HC.out HA.out).mono ?_; rintro e w1 ⟨rfl, hb1⟩; have bM1 : Boxed w1 (w.heap.size + 1) 22 (.int .u64 0) := (hb1.block (w.heap.size + 1) (by simp)).trans (by have := Boxed.new (w.alloc (.cells #[.int .u64 a1] 22)) 22 (.int .u64 0); rw [World.size_alloc] at this; exact this); have cM := bM1.cell; have fM := bM1.frozen)
  have hc5 := World.cell?_setCell_same' w1 ⟨w.heap.size + 1, 0, none⟩ (.int .u64 0) (by rw [cM]; rfl)
  have hw1 : Below w.heap.size w w1 := (((Below.refl _ w).alloc (Nat.le_refl _) _).alloc (by simp) _).trans (hb1.mono (by simp; omega))
  refine bodyPost_ret (v := .tuple #[.int .u64 0, .int .i64 t]) ?_ rfl ⟨rfl, hw1.setCell (p := ⟨w.heap.size + 1, 0, none⟩) (by simp) _⟩
  simp [results, Try.results21, go_sem, hc5]
theorem format_Get.mono : ∀ a0 a1 a2 k, LeO (format_Get.f k a0 a1 a2) (format_Get.f (k + 1) a0 a1 a2) := fun a0 a1 a2 k => LeO.bind (format_Check.mono _ _ _) (fun _ => LeO.refl _)
theorem format_Get.calls (k : Nat) (a0 : Int) (a1 : Int) (A2 : Option Addr) (c2 : Nat) (l2 : List S41) (r1 r2 : Int) (w : World) (hr2 : Kd.C k41 w A2 l2.length l2) (hc2 : l2.length ≤ c2) (h : format_Get.f k a0 a1 l2 = some (r1, r2)) :
    Calls Try.prog 21 #[.int .i64 a0, .int .u64 a1, .slice A2 l2.length c2] w fun e w' => e = .returned (.tuple #[.int .u64 r1, .int .i64 r2]) ∧ Below w.heap.size w w' := by
  unfold format_Get.f at h
  obtain ⟨t, hA, h⟩ := Option.bind_eq_some_iff.mp h
  by_cases ht : t = 0
  · subst ht
    rw [if_pos rfl] at h
    obtain ⟨b, hF, h⟩ := Option.bind_eq_some_iff.mp h
    cases b with
    | true =>
      have h' := Option.some.inj h
      obtain rfl : getOf a1 l2 = r1 := congrArg Prod.fst h'
      obtain rfl : 0 = r2 := congrArg Prod.snd h'
      exact get_ok k a0 a1 A2 c2 l2 w ⟨hr2⟩ ⟨hc2⟩ ⟨hA⟩ ⟨hF⟩ (check_fine hA)
    | false =>
      have h' := Option.some.inj h
      obtain rfl : 0 = r1 := congrArg Prod.fst h'
      obtain rfl : 24 = r2 := congrArg Prod.snd h'
      exact get_off k a0 a1 A2 c2 l2 w ⟨hr2⟩ ⟨hc2⟩ ⟨hA⟩ ⟨hF⟩
  · rw [if_neg ht] at h
    have h' := Option.some.inj h
    obtain rfl : 0 = r1 := congrArg Prod.fst h'
    obtain rfl : t = r2 := congrArg Prod.snd h'
    exact get_bad k a0 a1 A2 c2 l2 t w ⟨hr2⟩ ⟨hc2⟩ ⟨hA⟩ (by simpa using ht)

end Go.Proofs.Ytgbciglkfbiopaa.Q
