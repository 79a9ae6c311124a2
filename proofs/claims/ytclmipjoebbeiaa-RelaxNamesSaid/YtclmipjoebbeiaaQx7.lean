-- Written by wip/tools/given.py (own program over the kit's print.py) out of the translation. Not trusted: Lean checks it.
import Derived.Test.YtclmipjoebbeiaaQx0
import Derived.Test.YtclmipjoebbeiaaIter
namespace Go.Proofs.Ytclmipjoebbeiaa.Q
open Go.RowKit Go.Proofs.YtclmipjoebbeiaaW.PrintWords Go.Proofs.YtclmipjoebbeiaaW.PrintLast Go.Proofs.YtclmipjoebbeiaaW.PrintMore
attribute [local go_sem] max2_int min2_int max_two min_two max_three min_three max_four min_four   -- for this text's walks alone
set_option linter.unusedVariables false
set_option linter.unusedSimpArgs false

/-! ### relax_places: function 28 -/
open Go.Shelf
attribute [local go_sem] Oper.semAt_some
theorem infoI3 : (Try.prog.info? 3).map (fun i => (i.zero, i.size, i.bytes)) = some (some (.int .i64 0), 1, 8) := by kernel_rfl
set_option maxHeartbeats 1000000 in
theorem sums_in (F : Fence) (n : Nat) (h40 : F.fn 40) (hro : F.round = none) (m : Int) (fs : Array Value) (w : World) :
    CallsIn F n Try.prog 40 #[.int .i64 m, .func (.func 39) #[] fs] w fun e w' => e = .returned (.func (.func 44) #[] #[.pointer (some ⟨w.heap.size, 0, none⟩), .pointer (some ⟨w.heap.size + 1, 0, none⟩)]) ∧ w' = (w.alloc (.cells #[.int .i64 m] 3)).alloc (.cells #[.func (.func 39) #[] fs] 62) := by
  refine callsIn_of_wp Try.func40 rfl h40 ?_ hro
  simp only [Try.ntmps40, List.size_toArray, List.length_cons, List.length_nil, Nat.reduceAdd, Nat.reduceSub, Array.replicate_succ, Array.replicate_zero, List.push_toArray, List.append_toArray, List.nil_append, List.cons_append]
  gi_wp2
  go_ret
  exact ⟨rfl, rfl⟩
theorem sums_stops (n : Nat) (hn : 1 ≤ n) (B n₁ Bn Bs bl bp : Nat) (A0 : Option Addr) (c0 : Nat) (l0 : List S48) (A1 : Option Addr) (c1 : Nat) (l1 : List Bool) (hl0 : l0.length ≤ 1000) (hl : l1.length = l0.length) (w : World) (hsz : n₁ ≤ w.heap.size)
    (hBn : w.cell? ⟨Bn, 0, none⟩ = some (.int .i64 (l0.length : Int))) (hn1 : Bn < n₁) (hBs : w.cell? ⟨Bs, 0, none⟩ = some (sizeV bl bp)) (hsn : Bs ≠ B ∧ Bs < n₁)
    (hc : Cap w bl bp A0 c0 l0 A1 c1 l1) (hbl : bl ≠ B ∧ bl < n₁) (hbp : bp ≠ B ∧ bp < n₁) (ha : ∀ a, 0 < l0.length → A0 = some a → a.block ≠ B ∧ a.block < n₁) (ha' : ∀ a, 0 < l1.length → A1 = some a → a.block ≠ B ∧ a.block < n₁) :
    SeqStopsK Fence.wide n Try.prog 44 #[.pointer (some ⟨Bn, 0, none⟩), .pointer (some ⟨Bs, 0, none⟩)] (fun x : Int => #[Value.int .i64 x]) (KeepCells B n₁) (fun ys => ys = placesOf l0 l1) (fun _ => True) (l0.length + 1) w := fun y J Jx W hW hJ hJx hY h0 => by
  have hk : ∀ (k : Nat) (o : Obj), k < n₁ → w.heap[k]? = some o → W.heap[k]? = some o := fun k o hk h => (hW.block k (by omega)).trans h
  have hcW : ∀ {p : Addr} {v : Value}, p.block < n₁ → w.cell? p = some v → W.cell? p = some v := fun {p v} hp h => (hW.cell (by omega)).trans h
  have hcap : Cap W bl bp A0 c0 l0 A1 c1 l1 := by
    refine ⟨hcW hbl.2 hc.bl, hcW hbp.2 hc.bp, fun k hlt => ?_, fun k hlt => ?_⟩
    · obtain ⟨ad, e, h0, h1⟩ := hc.r0 k hlt
      have := ha ad (by omega) e
      exact ⟨ad, e, hcW (by rw [add_block_]; exact this.2) h0, hcW (by show (ad.add (k * 7)).block < n₁; rw [add_block_]; exact this.2) h1⟩
    · obtain ⟨ad, e, h0⟩ := hc.r1 k hlt
      have := ha' ad (by omega) e
      exact ⟨ad, e, hcW (by rw [add_block_]; exact this.2) h0⟩
  exact (sums1_in n hn y B n₁ Bn Bs bl bp A0 c0 l0 A1 c1 l1 hl0 hl J Jx W hY (hcW hn1 hBn) (hcW hsn.2 hBs) hsn hcap hbl hbp ha ha' h0).mono fun e W' ⟨he, hj⟩ => ⟨he, hj⟩

theorem came_lt0 {w : World} {A : Option Addr} {l : List S48} (h : Kd.C k48 w A l.length l) (a : Addr) (h0 : 0 < l.length) (ha : A = some a) : a.block < w.heap.size := by
  obtain ⟨ad, e0, hc0, _⟩ := at_T48 h 0 (by omega) (by omega)
  have := cell_lt hc0
  rw [add_block_] at this
  rw [e0] at ha
  cases ha
  exact this
theorem came_lt1 {w : World} {A : Option Addr} {l : List Bool} (h : Kd.C Kd.bool w A l.length l) (a : Addr) (h0 : 0 < l.length) (ha : A = some a) : a.block < w.heap.size := by
  obtain ⟨ad, e0, hc0⟩ := Kd.at_bool h 0 (by omega) (by omega)
  have := cell_lt hc0
  rw [add_block_] at this
  rw [e0] at ha
  cases ha
  exact this

def relax_places.f (l0_0 : List S48) (l0_1 : List Int) (l1 : List Bool) : Option (List Int) := if l0_0.length ≤ 1000 ∧ l1.length = l0_0.length then some (placesOf l0_0 l1) else none
set_option maxRecDepth 100000 in
set_option maxHeartbeats 4000000 in
theorem places_ok (A0_0 : Option Addr) (c0_0 : Nat) (l0_0 : List (S48)) (A0_1 : Option Addr) (c0_1 : Nat) (l0_1 : List Int) (A1 : Option Addr) (c1 : Nat) (l1 : List Bool) (w : World) (HR0 : Aside0 (Kd.C k48 w A0_0 l0_0.length l0_0)) (HR1 : Aside0 (Kd.C Kd.bool w A1 l1.length l1)) (hle : l0_0.length ≤ 1000) (HL : Aside0 (l1.length = l0_0.length)) :
    Calls Try.prog 28 #[.agg #[.slice A0_0 l0_0.length c0_0, .slice A0_1 l0_1.length c0_1], .slice A1 l1.length c1] w fun e w' => ∃ v0_ : Value, e = .returned (v0_) ∧ Kd.R (Kd.int .i64) 3 w' w.heap.size (fun _ => True) v0_ (placesOf l0_0 l1) ∧ Below w.heap.size w w' := by
  obtain ⟨i0, hi, hz0, hz1, hz2⟩ := info_parts infoI3
  refine (callsIn_wide (n := 3)).1 ?_
  refine callsIn_of_wp_marks Try.func28 rfl trivial ?_ rfl
  simp only [Try.ntmps28, List.size_toArray, List.length_cons, List.length_nil, Nat.reduceAdd, Nat.reduceSub, Array.replicate_succ, Array.replicate_zero, List.push_toArray, List.append_toArray, List.nil_append, List.cons_append]
  gi_wp2_with (refine ⟨trivial, ?_⟩; gi_at_call 40; refine (sums_in Fence.wide _ trivial rfl _ _ _).mono ?_; rintro e w' ⟨rfl, rfl⟩)
  have bP : (((((w.alloc (.cells #[.slice A0_0 l0_0.length c0_0, .slice A0_1 l0_1.length c0_1] 25)).alloc (.cells #[.slice A1 l1.length c1] 26)).alloc (.cells #[.slice none 0 0] 23)).alloc (.cells #[.int .i64 (l0_0.length : Int)] 3)).alloc (.cells #[.func (.func 39) #[] #[.pointer (some ⟨w.heap.size + 1, 0, none⟩), .pointer (some ⟨w.heap.size, 0, none⟩)]] 62)).cell? ⟨w.heap.size, 0, none⟩ = some (.slice A0_0 l0_0.length c0_0) := by simp [go_sem]
  have bL : (((((w.alloc (.cells #[.slice A0_0 l0_0.length c0_0, .slice A0_1 l0_1.length c0_1] 25)).alloc (.cells #[.slice A1 l1.length c1] 26)).alloc (.cells #[.slice none 0 0] 23)).alloc (.cells #[.int .i64 (l0_0.length : Int)] 3)).alloc (.cells #[.func (.func 39) #[] #[.pointer (some ⟨w.heap.size + 1, 0, none⟩), .pointer (some ⟨w.heap.size, 0, none⟩)]] 62)).cell? ⟨w.heap.size + 1, 0, none⟩ = some (.slice A1 l1.length c1) := by simp [go_sem]
  have bN : (((((w.alloc (.cells #[.slice A0_0 l0_0.length c0_0, .slice A0_1 l0_1.length c0_1] 25)).alloc (.cells #[.slice A1 l1.length c1] 26)).alloc (.cells #[.slice none 0 0] 23)).alloc (.cells #[.int .i64 (l0_0.length : Int)] 3)).alloc (.cells #[.func (.func 39) #[] #[.pointer (some ⟨w.heap.size + 1, 0, none⟩), .pointer (some ⟨w.heap.size, 0, none⟩)]] 62)).cell? ⟨w.heap.size + 1 + 1 + 1, 0, none⟩ = some (.int .i64 (l0_0.length : Int)) := by simp [go_sem]
  have bS : (((((w.alloc (.cells #[.slice A0_0 l0_0.length c0_0, .slice A0_1 l0_1.length c0_1] 25)).alloc (.cells #[.slice A1 l1.length c1] 26)).alloc (.cells #[.slice none 0 0] 23)).alloc (.cells #[.int .i64 (l0_0.length : Int)] 3)).alloc (.cells #[.func (.func 39) #[] #[.pointer (some ⟨w.heap.size + 1, 0, none⟩), .pointer (some ⟨w.heap.size, 0, none⟩)]] 62)).cell? ⟨w.heap.size + 1 + 1 + 1 + 1, 0, none⟩ = some (sizeV (w.heap.size + 1) w.heap.size) := by simp [go_sem]
  have bO : Boxed (((((w.alloc (.cells #[.slice A0_0 l0_0.length c0_0, .slice A0_1 l0_1.length c0_1] 25)).alloc (.cells #[.slice A1 l1.length c1] 26)).alloc (.cells #[.slice none 0 0] 23)).alloc (.cells #[.int .i64 (l0_0.length : Int)] 3)).alloc (.cells #[.func (.func 39) #[] #[.pointer (some ⟨w.heap.size + 1, 0, none⟩), .pointer (some ⟨w.heap.size, 0, none⟩)]] 62)) (w.heap.size + 1 + 1) 23 (.slice none 0 0) := by
    have := Boxed.new ((w.alloc (.cells #[.slice A0_0 l0_0.length c0_0, .slice A0_1 l0_1.length c0_1] 25)).alloc (.cells #[.slice A1 l1.length c1] 26)) 23 (.slice none 0 0)
    simp only [World.size_alloc] at this
    exact (this.alloc _).alloc _
  have hB0 : Below w.heap.size w (((((w.alloc (.cells #[.slice A0_0 l0_0.length c0_0, .slice A0_1 l0_1.length c0_1] 25)).alloc (.cells #[.slice A1 l1.length c1] 26)).alloc (.cells #[.slice none 0 0] 23)).alloc (.cells #[.int .i64 (l0_0.length : Int)] 3)).alloc (.cells #[.func (.func 39) #[] #[.pointer (some ⟨w.heap.size + 1, 0, none⟩), .pointer (some ⟨w.heap.size, 0, none⟩)]] 62)) :=
    (((((Below.refl _ w).alloc (Nat.le_refl _) _).alloc (by simp) _).alloc (by simp; omega) _).alloc (by simp; omega) _).alloc (by simp; omega) _
  have hsz : (((((w.alloc (.cells #[.slice A0_0 l0_0.length c0_0, .slice A0_1 l0_1.length c0_1] 25)).alloc (.cells #[.slice A1 l1.length c1] 26)).alloc (.cells #[.slice none 0 0] 23)).alloc (.cells #[.int .i64 (l0_0.length : Int)] 3)).alloc (.cells #[.func (.func 39) #[] #[.pointer (some ⟨w.heap.size + 1, 0, none⟩), .pointer (some ⟨w.heap.size, 0, none⟩)]] 62)).heap.size = w.heap.size + 5 := by simp
  generalize (((((w.alloc (.cells #[.slice A0_0 l0_0.length c0_0, .slice A0_1 l0_1.length c0_1] 25)).alloc (.cells #[.slice A1 l1.length c1] 26)).alloc (.cells #[.slice none 0 0] 23)).alloc (.cells #[.int .i64 (l0_0.length : Int)] 3)).alloc (.cells #[.func (.func 39) #[] #[.pointer (some ⟨w.heap.size + 1, 0, none⟩), .pointer (some ⟨w.heap.size, 0, none⟩)]] 62)) = W0 at bP bL bN bS bO hB0 hsz ⊢
  refine wpIn_rangeFunc_ownG rfl (by omega) (gf := 44) (lb := #[.pointer (some ⟨w.heap.size + 1 + 1 + 1, 0, none⟩), .pointer (some ⟨w.heap.size + 1 + 1 + 1 + 1, 0, none⟩)]) rfl trivial (enters_of Try.func44 (by kernel_rfl) rfl)
    (sums_stops _ (by omega) (w.heap.size + 1 + 1) (w.heap.size + 5) (w.heap.size + 1 + 1 + 1) (w.heap.size + 1 + 1 + 1 + 1) (w.heap.size + 1) w.heap.size A0_0 c0_0 l0_0 A1 c1 l1 hle HL.out W0 (by omega) bN (by omega) bS (by omega)
      (Cap.mk_ bL bP (Kd.C_below HR0.out hB0) (Kd.C_below HR1.out hB0)) (by omega) (by omega) (fun a h0 ha => by have := came_lt0 HR0.out a h0 ha; omega) (fun a h0 ha => by have := came_lt1 HR1.out a h0 ha; omega))
    (fun h k => KeepCells.trans h k) (fun W l o o' _ h ho _ => KeepCells.putObj _ _ h ho) (Below.refl _ _) (fun _ => rfl)
    (fun pre W => (∃ v, Boxed W (w.heap.size + 1 + 1) 23 v ∧ W.ownsRow (w.heap.size + 5) 3 1 v pre.length (pre.map (Value.int .i64)) ∧ True) ∧ Below w.heap.size W0 W)
    (fun _ _ _ => False)
    (OwnFrom.and (Own.from (holdsRow_own (w.heap.size + 5) (w.heap.size + 1 + 1) 23 3 1 (fun pre : List Int => pre.length) (fun pre => pre.map (Value.int .i64)) (fun _ _ => True)) _) (ownFrom_below (by omega) (by omega)))
    (fun _ _ _ _ _ hs _ _ => hs)
    ⟨⟨_, bO, World.ownsRow_nil _ _ _ _, trivial⟩, Below.refl _ _⟩
    (fun x => { tmps := #[.agg #[.slice A0_0 l0_0.length c0_0, .slice A0_1 l0_1.length c0_1], .slice A1 l1.length c1, .pointer (some ⟨w.heap.size, 0, none⟩), .pointer (some ⟨w.heap.size + 1, 0, none⟩), .slice none 0 0, .pointer (some ⟨w.heap.size + 1 + 1, 0, none⟩), .func (.func 39) #[] #[.pointer (some ⟨w.heap.size + 1, 0, none⟩), .pointer (some ⟨w.heap.size, 0, none⟩)], .int .i64 x, .func (.func 39) #[] #[.pointer (some ⟨w.heap.size + 1, 0, none⟩), .pointer (some ⟨w.heap.size, 0, none⟩)], .pointer (some ⟨w.heap.size, 0, none⟩), .slice A0_0 l0_0.length c0_0, .int .i64 (l0_0.length : Int), .func (.func 39) #[] #[.pointer (some ⟨w.heap.size + 1, 0, none⟩), .pointer (some ⟨w.heap.size, 0, none⟩)], .func (.func 44) #[] #[.pointer (some ⟨w.heap.size + 1 + 1 + 1, 0, none⟩), .pointer (some ⟨w.heap.size + 1 + 1 + 1 + 1, 0, none⟩)], .int .i64 x, undef, undef, undef, undef, undef], defers := [] }) ?assign ?body ?done ?stop
  case assign =>
    intro l x W K hK
    gi_wp2
    exact hK
  case body =>
    rintro l pre x W ⟨⟨v, hv, hrow, _⟩, hB⟩ hlt
    have hc := hv.cell
    have hBs := hB.size
    have hb1 : pre.length + 1 ≤ maxLen := by unfold maxLen; omega
    have hb3 : (pre.length + 1) * 8 ≤ 140737488355328 := by omega
    have hb4 : w.heap.size + 5 ≤ (W.alloc (.cells #[.int .i64 x] 3)).heap.size := by simp; omega
    gi_wp2_with (gi_at_builtin; refine wpListIn_append_own _ rfl _ _ 23 rfl (w.heap.size + 5) 3 i0 (.int .i64 0) 1 8 Try.underlying23 hi hz0 hz1 hz2 rfl (by decide) _ _ _ rfl (hrow.alloc _) ⟨W.heap.size, 0, none⟩ 1 1 [.int .i64 x] rfl rfl (cell_one_new _ _ _) (by simp [Value.oneCell']) hb1 hb3 hb4 ?_; intro v' w1 hown' hgrow _; obtain ⟨g', cap', rfl⟩ := ownsRow_succ hown'; obtain ⟨hv1, hv2, hr2, hk2, hb2⟩ := hv.appended (by decide) (own_weaken hrow (show w.heap.size ≤ w.heap.size + 5 by omega)) (show w.heap.size ≤ W.heap.size by omega) (show w.heap.size ≤ w.heap.size + 1 + 1 by omega) (own_weaken hown' (show w.heap.size ≤ w.heap.size + 5 by omega)) hgrow; have hc1 := hv1.cell; have hf1 := hv1.frozen)
    refine ⟨hk2.from _, ⟨Nat.le_trans (by simp) (Nat.le_trans hgrow.size (KeepsWalks.setCell w1 _ _).size), fun k o hk hn h0 ho => ?_⟩, ⟨⟨_, hv2, by simpa using hown'.kept (grownBy_setCell' w1 _ _) (.inr (hv1.not_row (by decide) hown').symm), trivial⟩, hB.trans hb2⟩⟩
    have hkW : k < W.heap.size := (Array.getElem?_eq_some_iff.1 h0).1
    refine (Below.heap_setCell w1 ⟨w.heap.size + 1 + 1, 0, none⟩ _ k hk).trans ((hgrow.block k (by simp; omega) (fun e => ?_)).trans ((Below.heap_alloc W _ k hkW).trans h0))
    have := own_base hrow k e.symm
    omega
  case done =>
    rintro D ys W hD rfl ⟨⟨v, hv, hrow, _⟩, hB⟩ hK
    have hc := hv.cell
    gi_wp2
    refine ⟨by simp, .inl ⟨_, _, rfl, run_takeDeferred hK, ?_⟩⟩
    exact ⟨_, results_tmp rfl _ _ _, v, rfl, Kd.R_of_own (own_weaken (ownsRow_putObj hrow _ hK rfl) (by omega)) (fun _ _ => trivial), (hB0.trans hB).trans (belowK_b (w := w) (Nat.le_refl _) W D _ _ (by omega) hK rfl rfl)⟩
  case stop =>
    rintro D c pre W _ _ h _
    exact h.elim
theorem relax_places.calls (A0_0 : Option Addr) (c0_0 : Nat) (l0_0 : List (S48)) (A0_1 : Option Addr) (c0_1 : Nat) (l0_1 : List Int) (A1 : Option Addr) (c1 : Nat) (l1 : List Bool) (r : List Int) (w : World) (hr0_0 : Kd.C k48 w A0_0 l0_0.length l0_0) (hc0_0 : l0_0.length ≤ c0_0) (hr0_1 : Kd.C (Kd.int .i64) w A0_1 l0_1.length l0_1) (hc0_1 : l0_1.length ≤ c0_1) (hr1 : Kd.C Kd.bool w A1 l1.length l1) (hc1 : l1.length ≤ c1) (h : relax_places.f l0_0 l0_1 l1 = some r) :
    Calls Try.prog 28 #[.agg #[.slice A0_0 l0_0.length c0_0, .slice A0_1 l0_1.length c0_1], .slice A1 l1.length c1] w fun e w' => ∃ v0_ : Value, e = .returned (v0_) ∧ Kd.R (Kd.int .i64) 3 w' w.heap.size (fun _ => True) v0_ r ∧ Below w.heap.size w w' := by
  unfold relax_places.f at h
  by_cases hc : l0_0.length ≤ 1000 ∧ l1.length = l0_0.length
  · rw [if_pos hc] at h
    obtain rfl := Option.some.inj h
    exact places_ok A0_0 c0_0 l0_0 A0_1 c0_1 l0_1 A1 c1 l1 w ⟨hr0_0⟩ ⟨hr1⟩ hc.1 ⟨hc.2⟩
  · rw [if_neg hc] at h
    cases h

end Go.Proofs.Ytclmipjoebbeiaa.Q
