-- Written by wip/tools/given.py (own program over the kit's print.py) out of the translation. Not trusted: Lean checks it.
import Derived.Test.YtclmipjoebbeiaaQx0
import Derived.Test.YtclmipjoebbeiaaQx4
import Derived.Test.YtclmipjoebbeiaaQx7
import Derived.Test.YtclmipjoebbeiaaQx14
import Derived.Test.YtclmipjoebbeiaaGrowRun
namespace Go.Proofs.Ytclmipjoebbeiaa.Q
open Go.RowKit Go.Proofs.YtclmipjoebbeiaaW.PrintWords Go.Proofs.YtclmipjoebbeiaaW.PrintLast Go.Proofs.YtclmipjoebbeiaaW.PrintMore
attribute [local go_sem] max2_int min2_int max_two min_two max_three min_three max_four min_four   -- for this text's walks alone
set_option linter.unusedVariables false
set_option linter.unusedSimpArgs false

/-! ### relax_Solve: function 21 -/
attribute [local go_sem] Oper.semAt_some
theorem infoB4 : (Try.prog.info? 4).map (fun i => (i.zero, i.size, i.bytes)) = some (some (.bool false), 1, 1) := by kernel_rfl
theorem checkS_ex {its : List S48} {lab : List Int} (h1 : its.length ≤ 100000) (h2 : lab.length ≤ 100000) : ∃ k, relax_Check.f k its lab = some (checkS its lab) := (evn_Check its lab h1 h2).rounds

set_option maxRecDepth 100000 in
set_option maxHeartbeats 4000000 in
theorem solve_calls (w : World) (A0 : Option Addr) (c0 : Nat) (l0 : List S48) (A1 : Option Addr) (c1 : Nat) (l1 : List Int)
    (hr0 : Aside0 (k48.C w A0 l0.length l0)) (hr1 : Aside0 ((Kd.int .i64).C w A1 l1.length l1)) (hc0 : Aside0 (l0.length ≤ c0)) (hc1 : Aside0 (l1.length ≤ c1)) (hl0 : l0.length ≤ 100000) (hl1 : l1.length ≤ 100000) :
    Calls Try.prog 21 #[.agg #[.slice A0 l0.length c0, .slice A1 l1.length c1]] w fun e w' => ∃ v : Value, e = .returned (.tuple #[v, .int .i64 (solveS l0 l1).2]) ∧ Kd.bool.R 4 w' w.heap.size (fun _ => True) v (solveS l0 l1).1 ∧ Below w.heap.size w w' := by
  obtain ⟨kc, hkc⟩ := checkS_ex hl0 hl1
  have HKC := Aside0.mk hkc
  clear hkc
  have bb0 := blk_new w (.cells #[.slice A0 l0.length c0, .slice A1 l1.length c1] 25)
  have HB1 := Aside0.mk ((Below.refl w.heap.size w).alloc (Nat.le_refl _) (.cells #[.slice A0 l0.length c0, .slice A1 l1.length c1] 25))
  have HC := Aside0.mk (relax_Check.calls kc A0 c0 l0 A1 c1 l1 _ (w.alloc (.cells #[.slice A0 l0.length c0, .slice A1 l1.length c1] 25)) (Kd.C_below hr0.out HB1.out) hc0.out (Kd.C_below hr1.out HB1.out) hc1.out HKC.out)
  have HBK := Aside0.mk bb0
  clear bb0
  by_cases hv : valid l0 l1 = true
  · have es : solveS l0 l1 = solveOk l0 l1 := by unfold solveS; rw [if_pos hv]
    rw [es]
    have ec : checkS l0 l1 = 0 := by unfold checkS; rw [if_pos hv]
    rw [ec] at HC
    have HV := Aside0.mk hv
    have HLE := Aside0.mk (valid_facts hv).1
    clear es ec hv hl0 hl1
    go_enter Try.func21, Try.ntmps21
    go_wp2_with (first | (fail))
    go_at_call 18
    with_reducible refine HC.out.mono ?_
    clear HC
    rintro e w1 ⟨rfl, hb1⟩
    have HB := Aside0.mk (HB1.out.trans (hb1.mono (by simp)))
    have hbk1 := blk_below HBK.out hb1
    have cp0 : w1.cell? ⟨w.heap.size, 0, none⟩ = some (.slice A0 l0.length c0) := (blk_cell hbk1 0).trans rfl
    have cp1 : w1.cell? ⟨w.heap.size, 1, none⟩ = some (.slice A1 l1.length c1) := (blk_cell hbk1 1).trans rfl
    have HBK1 := Aside0.mk hbk1
    clear hb1 hbk1
    go_wp2_with (first | (fail))
    refine start_ (n := 7) (S := fun w' => w'.cell? ⟨w.heap.size, 0, none⟩ = some (.slice A0 l0.length c0) ∧ w'.cell? ⟨w.heap.size, 1, none⟩ = some (.slice A1 l1.length c1)) (ds := []) #[false, false, false, false, false, false, false] (by kernel_rfl) rfl rfl ⟨cp0, cp1⟩ (fun hS0 => ?_)
    refine take_ (i := 0) (N := (some 14)) (v := ?_) (a' := ?_) #[true, false, false, false, false, false, false] rfl rfl (by kernel_rfl) (fun _ _ _ h => h) (Or.inl ⟨by rfl, ?_⟩) hS0 ?_ ?_
    rotate_left
    · rintro w' ⟨h0, h1⟩
      go_simp
      with_reducible rfl
    rotate_left
    · simp only [Act.put, List.setIfInBounds_toArray, List.set_cons_zero, List.set_cons_succ, i64_w, i32_w]
      rfl
    refine pure_ (i := 1) (N := (some 15)) (v := ?_) (a' := ?_) #[true, true, false, false, false, false, false] rfl rfl (by kernel_rfl) (fun _ _ _ h => h) (Or.inl ⟨by rfl, ?_⟩) ?_ ?_
    rotate_left
    · intro w'
      go_simp
      with_reducible rfl
    rotate_left
    · simp only [Act.put, List.setIfInBounds_toArray, List.set_cons_zero, List.set_cons_succ, i64_w, i32_w]
      rfl
    refine take_ (i := 2) (N := (some 16)) (v := ?_) (a' := ?_) #[true, true, true, false, false, false, false] rfl rfl (by kernel_rfl) (fun _ _ _ h => h) (Or.inl ⟨by rfl, ?_⟩) hS0 ?_ ?_
    rotate_left
    · rintro w' ⟨h0, h1⟩
      go_simp
      with_reducible rfl
    rotate_left
    · simp only [Act.put, List.setIfInBounds_toArray, List.set_cons_zero, List.set_cons_succ, i64_w, i32_w]
      rfl
    refine pure_ (i := 3) (N := (some 17)) (v := ?_) (a' := ?_) #[true, true, true, true, false, false, false] rfl rfl (by kernel_rfl) (fun _ _ _ h => h) (Or.inl ⟨by rfl, ?_⟩) ?_ ?_
    rotate_left
    · intro w'
      go_simp
      with_reducible rfl
    rotate_left
    · simp only [Act.put, List.setIfInBounds_toArray, List.set_cons_zero, List.set_cons_succ, i64_w, i32_w]
      rfl
    refine one_ (i := 4) (N := (some 18)) #[true, true, true, true, true, false, false] rfl rfl (by kernel_rfl) (by decide) (fun K hK => ?_)
    have hW1 := HB.out.size
    refine Kd.R_make_step Kd.bool (w0 := w1.drew) w1.drew.heap.size 4 (by rfl) rfl 26 _ _ rfl (l0.length : Int) rfl rfl Try.underlying26 (.bool false) 1 infoB4 rfl (by decide) (by decide) false (ok := fun _ => True) (okp := fun _ => True) rfl (fun _ _ => trivial) trivial (by omega) (by have := HLE.out; simp; omega) (Below.refl _ _) (Nat.le_refl _) ?_
    intro vl w2 rl hb2 hg2 hown2
    rw [Int.toNat_natCast] at rl
    obtain ⟨Al, cl, rfl, hcl⟩ := Kd.Q_slice (Kd.Q_of_R rl)
    rw [List.length_replicate] at rl hown2 hcl ⊢
    have hbk2 : w2.heap[w.heap.size]? = some (.cells #[.slice A0 l0.length c0, .slice A1 l1.length c1] 25 (0, 0)) := blk_below (w := w1.drew) HBK1.out hb2
    refine hK.out _ _ ⟨(blk_cell hbk2 0).trans rfl, (blk_cell hbk2 1).trans rfl⟩ (fun hS1 => ?_)
    clear hK K
    refine norm_ (a' := ?_) ?_ ?_
    rotate_left
    · show Act.put _ (some 18) _ = _
      simp only [Act.put, List.setIfInBounds_toArray, List.set_cons_zero, List.set_cons_succ, i64_w, i32_w]
      rfl
    refine one_ (i := 5) (N := (some 19)) #[true, true, true, true, true, true, false] rfl rfl (by kernel_rfl) (by decide) (fun K hK => ?_)
    refine goes_ Try.func35 (by kernel_rfl) rfl #[.agg #[.slice A0 l0.length c0, .slice A1 l1.length c1], .slice Al l0.length cl] (by rfl) rfl rfl (by (try simp only [List.map_toArray, List.map_cons, List.map_nil]); rfl) ?_
    have HBK2 := Aside0.mk hbk2
    have hr0' : Aside0 (k48.C w1.drew A0 l0.length l0) := ⟨Kd.C_drew (Kd.C_below hr0.out HB.out)⟩
    have hr1' : Aside0 ((Kd.int .i64).C w1.drew A1 l1.length l1) := ⟨Kd.C_drew (Kd.C_below hr1.out HB.out)⟩
    with_reducible refine (grow_calls w1.drew w2 A0 c0 l0 A1 c1 l1 Al cl ⟨hb2⟩ hr0' hr1' hc0 hc1 ⟨rl⟩ HV).mono ?_
    rintro e w3 ⟨rfl, hb3, rl3⟩
    refine ⟨_, rfl, ?_⟩
    have hbk3 : w3.heap[w.heap.size]? = some (.cells #[.slice A0 l0.length c0, .slice A1 l1.length c1] 25 (0, 0)) := blk_below (w := w1.drew) HBK1.out hb3
    clear hbk2 HBK2 rl hb2 hg2 hown2 hcl hS1 hS0 cp0 cp1
    obtain ⟨cp0, cp1⟩ : w3.cell? ⟨w.heap.size, 0, none⟩ = some (.slice A0 l0.length c0) ∧ w3.cell? ⟨w.heap.size, 1, none⟩ = some (.slice A1 l1.length c1) := ⟨(blk_cell hbk3 0).trans rfl, (blk_cell hbk3 1).trans rfl⟩
    refine hK.out _ _ ⟨cp0, cp1⟩ (fun hS2 => ?_)
    clear hK K hS2
    refine norm_ (a' := ?_) ?_ ?_
    rotate_left
    · show Act.put _ (some 19) _ = _
      simp only [Act.put, List.setIfInBounds_toArray, List.set_cons_zero, List.set_cons_succ, i64_w, i32_w]
      rfl
    refine pure_ (i := 6) (N := (some 5)) (v := ?_) (a' := ?_) #[true, true, true, true, true, true, true] rfl rfl (by kernel_rfl) (fun _ _ _ h => h) (Or.inl ⟨by rfl, ?_⟩) ?_ ?_
    rotate_left
    · intro w'
      go_simp
      with_reducible rfl
    rotate_left
    · simp only [Act.put, List.setIfInBounds_toArray, List.set_cons_zero, List.set_cons_succ, i64_w, i32_w]
      rfl
    refine done_ (by kernel_rfl) ?_
    have HB3 := Aside0.mk (show Below w.heap.size w w3 from HB.out.trans ((show Below w1.heap.size w1 w1.drew from below_drew (Below.refl _ _)).trans hb3 |>.mono hW1))
    obtain ⟨I0, _⟩ := leastOf_spec HV.out
    have hlen := I0.len
    have HON := Aside0.mk I0.only
    clear I0
    obtain ⟨ls, hls⟩ : ∃ l, l = leastOf l0 l1 := ⟨_, rfl⟩
    have HLS := Aside0.mk hls
    rw [← hls] at rl3 hlen HON
    clear hls
    have HP := Aside0.mk (relax_places.calls A0 c0 l0 A1 c1 l1 Al cl ls (placesOf l0 ls) w3 (Kd.C_below hr0.out HB3.out) hc0.out (Kd.C_below hr1.out HB3.out) hc1.out (by have := Kd.R_reads' rl3; exact this.2.2) (by have := Kd.R_reads' rl3; rw [hlen]; exact this.2.1) (by unfold relax_places.f; rw [if_pos ⟨by have := HLE.out; omega, hlen⟩]))
    rw [hlen] at HP
    have HR3 := Aside0.mk rl3
    have HBK3 := Aside0.mk hbk3
    have HLEN := Aside0.mk hlen
    clear rl3 hbk3 hb3 hlen
    go_wp2_with (first | (fail))
    go_at_call 28
    with_reducible refine HP.out.mono ?_
    clear HP cp0 cp1
    rintro e w4 ⟨va, rfl, ra, hb4⟩
    obtain ⟨Aa, ca, rfl, hca, rca⟩ := Kd.R_reads ra
    have HRA := Aside0.mk rca
    have HCA := Aside0.mk hca
    have HB4 := Aside0.mk hb4
    clear ra hb4 rca hca
    have hi0 : ∀ j : Nat, j < 0 → ls.getD j false = true → longOk l0 l1 (placesOf l0 ls) j = true := fun j hj => absurd hj (by omega)
    have HI0 := Aside0.mk hi0
    clear hi0
    go_wp2
    go_loopw [25] (fun v wr => ∃ i : Nat, i ≤ l0.length ∧ v = .int .i64 i ∧ Below w4.heap.size w4 wr ∧ ∀ j : Nat, j < i → ls.getD j false = true → longOk l0 l1 (placesOf l0 ls) j = true) (fun v _ => l0.length - (intOf v).toNat)
    case atStart => exact ⟨0, Nat.zero_le _, rfl, Below.refl _ _, HI0.out⟩
    case round =>
      clear HI0
      obtain ⟨i, hi, rfl, hbr, hok⟩ := hrel
      have HOK := Aside0.mk hok
      have HBR := Aside0.mk hbr
      have HBW : Aside0 (Below w.heap.size w wr) := ⟨(HB3.out.trans (HB4.out.mono HB3.out.size)).trans (hbr.mono (Nat.le_trans HB3.out.size HB4.out.size))⟩
      have HI := Aside0.mk hi
      clear hok hbr hi
      by_cases hlt : i < l0.length
      · have hle := HLE.out
        have hlt2 : (i : Int) < (l0.length : Int) := by omega
        obtain ⟨ad, e1, hb⟩ := Kd.at_bool (Kd.C_below (Kd.C_below (Kd.R_reads' HR3.out).2.2 HB4.out) HBR.out) (i : Int) (by omega) (by rw [HLEN.out]; omega)
        cases e1
        obtain ⟨bb, hbb⟩ : ∃ b, b = ls.getD i false := ⟨_, rfl⟩
        have hb' : wr.cell? (ad.add i) = some (.bool bb) := by
          rw [Int.toNat_natCast] at hb
          rw [hbb, hb]; simp [rdOf]
        have HBB := Aside0.mk hbb
        clear hb hbb
        have hbkr := blk_below (blk_below HBK3.out HB4.out) HBR.out
        have cp0 : wr.cell? ⟨w.heap.size, 0, none⟩ = some (.slice A0 l0.length c0) := (blk_cell hbkr 0).trans rfl
        have cp1 : wr.cell? ⟨w.heap.size, 1, none⟩ = some (.slice A1 l1.length c1) := (blk_cell hbkr 1).trans rfl
        clear hbkr
        cases bb with
        | false =>
          go_wp2
          go_roundw
          case rel => exact ⟨i + 1, by omega, by go_num, HBR.out, fun j hj hb => by
            by_cases e : j = i
            · rw [e, ← HBB.out] at hb; cases hb
            · exact HOK.out j (by omega) hb⟩
          case measure => simp [intOf]; omega
        | true =>
          have hj1 : jumpAt l0 i = true := by
            have h1 := HON.out i hlt HBB.out.symm
            have h2 := (item_facts HV.out hlt).2
            unfold okRest at h2
            rw [if_neg h1] at h2
            unfold jumpAt
            exact decide_eq_true h2.1.1
          have hrf := reaches_f HV.out hlt hj1 (at_ := placesOf l0 ls) (by simp [placesOf]) true
          rw [if_pos rfl] at hrf
          obtain ⟨rr, hrr⟩ : ∃ r, r = longOk l0 l1 (placesOf l0 ls) i := ⟨_, rfl⟩
          rw [← hrr] at hrf
          have HRR := Aside0.mk hrr
          have HRC := Aside0.mk (relax_reaches.calls A0 c0 l0 A1 c1 l1 Aa ca (placesOf l0 ls) (i : Int) true _ wr (Kd.C_below hr0.out HBW.out) hc0.out (Kd.C_below hr1.out HBW.out) hc1.out (Kd.C_below HRA.out HBR.out) HCA.out hrf)
          clear hrf hrr hj1
          cases rr with
          | true =>
            go_wp2_with (first | (go_at_call 31; with_reducible refine HRC.out.mono ?_; rintro e w5 ⟨rfl, hb5⟩))
            go_roundw
            case rel => exact ⟨i + 1, by omega, by go_num, HBR.out.trans (hb5.mono HBR.out.size), fun j hj hb => by
              by_cases e : j = i
              · rw [e]; exact HRR.out.symm
              · exact HOK.out j (by omega) hb⟩
            case measure => simp [intOf]; omega
          | false =>
            go_wp2_with (first | (go_at_call 31; with_reducible refine HRC.out.mono ?_; rintro e w5 ⟨rfl, hb5⟩))
            go_ret2
            have es : solveOk l0 l1 = ([], 24) := by
              unfold solveOk
              rw [if_neg, ]
              intro h
              have := (longAll_iff l0 l1 (leastOf l0 l1) l0.length 0).1 h i (by omega) (by omega) (by rw [← HLS.out]; exact HBB.out.symm)
              rw [← HLS.out, ← HRR.out] at this
              cases this
            rw [es]
            exact ⟨_, rfl, Kd.R_nil _ _ _ _ _, HBW.out.trans (hb5.mono HBW.out.size)⟩
      · have e : i = l0.length := by have := HI.out; omega
        subst e
        go_wp2
        go_ret2
        have es : solveOk l0 l1 = (ls, 0) := by
          unfold solveOk
          rw [if_pos, HLS.out]
          rw [longAll_iff, ← HLS.out]
          exact fun j _ hj hb => HOK.out j (by omega) hb
        rw [es]
        exact ⟨_, rfl, Kd.R_below (Kd.R_below (Kd.R_lower HR3.out HB.out.size) HB4.out) HBR.out, HBW.out⟩
  · have es : solveS l0 l1 = ([], 8) := by unfold solveS; rw [if_neg hv]
    rw [es]
    have ec : checkS l0 l1 = 8 := by unfold checkS; rw [if_neg hv]
    rw [ec] at HC
    clear es ec hv hl0 hl1
    go_enter Try.func21, Try.ntmps21
    go_wp2_with (first | (go_at_call 18; with_reducible refine HC.out.mono ?_; rintro e w1 ⟨rfl, hb1⟩))
    go_ret2
    exact ⟨_, rfl, Kd.R_nil _ _ _ _ _, HB1.out.trans (hb1.mono (by simp))⟩
def relax_Solve.f (k : Nat) (l0_0 : List S48) (l0_1 : List Int) : Option (List Bool × Int) := if l0_0.length ≤ 100000 ∧ l0_1.length ≤ 100000 then some (solveS l0_0 l0_1) else none
theorem relax_Solve.mono : ∀ a0 a1 k, LeO (relax_Solve.f k a0 a1) (relax_Solve.f (k + 1) a0 a1) := fun a0 a1 k => LeO.refl _
theorem relax_Solve.calls (k : Nat) (A0_0 : Option Addr) (c0_0 : Nat) (l0_0 : List (S48)) (A0_1 : Option Addr) (c0_1 : Nat) (l0_1 : List Int) (r1 : List Bool) (r2 : Int) (w : World) (hr0_0 : Kd.C k48 w A0_0 l0_0.length l0_0) (hc0_0 : l0_0.length ≤ c0_0) (hr0_1 : Kd.C (Kd.int .i64) w A0_1 l0_1.length l0_1) (hc0_1 : l0_1.length ≤ c0_1) (h : relax_Solve.f k l0_0 l0_1 = some (r1, r2)) :
    Calls Try.prog 21 #[.agg #[.slice A0_0 l0_0.length c0_0, .slice A0_1 l0_1.length c0_1]] w fun e w' => ∃ v0_ : Value, e = .returned (.tuple #[v0_, .int .i64 r2]) ∧ Kd.R Kd.bool 4 w' w.heap.size (fun _ => True) v0_ r1 ∧ Below w.heap.size w w' := by
  unfold relax_Solve.f at h
  by_cases hc : l0_0.length ≤ 100000 ∧ l0_1.length ≤ 100000
  · rw [if_pos hc] at h
    have e := Option.some.inj h
    have e1 : (solveS l0_0 l0_1).1 = r1 := by rw [e]
    have e2 : (solveS l0_0 l0_1).2 = r2 := by rw [e]
    rw [← e1, ← e2]
    exact solve_calls w A0_0 c0_0 l0_0 A0_1 c0_1 l0_1 ⟨hr0_0⟩ ⟨hr0_1⟩ ⟨hc0_0⟩ ⟨hc0_1⟩ hc.1 hc.2
  · rw [if_neg hc] at h
    cases h

end Go.Proofs.Ytclmipjoebbeiaa.Q
