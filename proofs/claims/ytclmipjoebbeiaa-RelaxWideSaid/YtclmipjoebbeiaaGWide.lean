/- RelaxWide: the walk, for the answer true. -/
import Derived.Test.YtclmipjoebbeiaaGWidePure
import Derived.Test.YtclmipjoebbeiaaQx31
import Derived.Test.YtclmipjoebbeiaaQx8
import Derived.Test.YtclmipjoebbeiaaQx21
namespace Go.Proofs.Ytclmipjoebbeiaa.Q
open Go.RowKit Go.Proofs.YtclmipjoebbeiaaW.PrintWords Go.Proofs.YtclmipjoebbeiaaW.PrintLast Go.Proofs.YtclmipjoebbeiaaW.PrintMore
set_option linter.unusedVariables false
set_option linter.unusedSimpArgs false
attribute [local go_sem] Oper.semAt_some

def wid (l : List S48) (i : Nat) : List S48 := (l.take i).map widen ++ l.drop i
theorem wid_length (l : List S48) (i : Nat) : (wid l i).length = l.length := by simp [wid]; omega
theorem wid_zero (l : List S48) : wid l 0 = l := by simp [wid]
theorem wid_all (l : List S48) : wid l l.length = l.map widen := by simp [wid]
theorem wid_at (l : List S48) {i : Nat} (h : i < l.length) : (wid l i).getD i z48 = l.getD i z48 := by
  unfold wid
  rw [List.getD_eq_getElem?_getD, List.getD_eq_getElem?_getD, List.getElem?_append_right (by simp; omega)]
  simp [Nat.min_eq_left (Nat.le_of_lt h)]
theorem wid_succ (l : List S48) {i : Nat} (h : i < l.length) : (wid l i).set i (widen (l.getD i z48)) = wid l (i + 1) := by
  refine List.ext_getElem? fun j => ?_
  unfold wid
  rw [List.getElem?_set]
  by_cases hj : i = j
  · subst hj
    rw [if_pos rfl, if_pos (by simp; omega), List.getElem?_append_left (by simp; omega)]
    simp [List.getElem?_take, h]
  · rw [if_neg hj]
    by_cases hlt : j < i
    · rw [List.getElem?_append_left (by simp; omega), List.getElem?_append_left (by simp; omega)]
      simp [List.getElem?_take, hlt, show j < i + 1 by omega]
    · rw [List.getElem?_append_right (by simp; omega), List.getElem?_append_right (by simp; omega)]
      simp only [List.length_map, List.length_take, List.getElem?_drop]
      congr 1
      omega
theorem wid_same (l : List S48) {i : Nat} (h : i < l.length) (hf : (l.getD i z48).f2 < 0) : wid l (i + 1) = wid l i := by
  rw [← wid_succ l h]
  have e : widen (l.getD i z48) = (wid l i).getD i z48 := by rw [wid_at l h]; unfold widen; rw [if_neg (by omega)]
  rw [e, List.getD_eq_getElem?_getD, List.getElem?_eq_getElem (by rw [wid_length]; exact h)]
  simp
theorem row_two {W : World} {B : Nat} {ok : Nat → Prop} {g n cap : Nat} {xs : List S48} {i : Nat} (h : k48.R 48 W B ok (.slice (some ⟨g, 0, none⟩) n cap) xs) (hi : i < n) (it x' : S48) (hit : xs.getD i z48 = it) (a b : Int) (j : Nat)
    (hx : (j = 3 ∧ x' = ⟨it.f0, it.f1, it.f2, a, b, it.f5, it.f6⟩) ∨ (j = 5 ∧ x' = ⟨it.f0, it.f1, it.f2, it.f3, it.f4, a, b⟩)) :
    k48.R 48 ((W.setCell ⟨g, i * 7 + j, none⟩ (.int .i64 a)).setCell ⟨g, i * 7 + (j + 1), none⟩ (.int .i64 b)) B ok (.slice (some ⟨g, 0, none⟩) n cap) (xs.set i x') := by
  obtain ⟨ce, hcl, hM, hcc, hfr⟩ := Kd.R_elem h z48 (i : Int) (by omega) (by omega)
  rw [Int.toNat_natCast, hit] at hM
  obtain rfl := k48_openM hM
  rcases hx with ⟨rfl, rfl⟩ | ⟨rfl, rfl⟩
  · have := (Kd.R_seg h (i : Int) (by omega) (by omega) (seg := [.int .i64 a, .int .i64 b]) (j := 3) hcl hcc (show 3 + 2 ≤ 7 from by decide) (x' := ⟨it.f0, it.f1, it.f2, a, b, it.f5, it.f6⟩) (k48_mkM _ _ _ ⟨it.f0, it.f1, it.f2, a, b, it.f5, it.f6⟩) (fun _ hk => hk)).1
    rw [Int.toNat_natCast] at this
    exact this
  · have := (Kd.R_seg h (i : Int) (by omega) (by omega) (seg := [.int .i64 a, .int .i64 b]) (j := 5) hcl hcc (show 5 + 2 ≤ 7 from by decide) (x' := ⟨it.f0, it.f1, it.f2, it.f3, it.f4, a, b⟩) (k48_mkM _ _ _ ⟨it.f0, it.f1, it.f2, it.f3, it.f4, a, b⟩) (fun _ hk => hk)).1
    rw [Int.toNat_natCast] at this
    exact this

set_option maxRecDepth 100000 in
set_option maxHeartbeats 4000000 in
theorem retargetlaw40_RelaxWide.walk (A0 : Option Addr) (c0 : Nat) (l0 : List S48) (A1 : Option Addr) (c1 : Nat) (l1 : List Int) (w : World)
    (hr0' : k48.C w A0 l0.length l0) (hc0' : l0.length ≤ c0) (hr1' : (Kd.int .i64).C w A1 l1.length l1) (hc1' : l1.length ≤ c1) :
    Calls Try.prog 10 #[.agg #[.slice A0 l0.length c0, .slice A1 l1.length c1]] w fun e w' => e = .returned (.bool true) ∧ Below w.heap.size w w' := by
  have hr0 := Aside0.mk hr0'
  have hr1 := Aside0.mk hr1'
  have hc0 := Aside0.mk hc0'
  have hc1 := Aside0.mk hc1'
  clear hr0' hr1' hc0' hc1'
  go_enter Try.func10, Try.ntmps10
  go_wp2_with (first | (fail))
  go_at_call 23
  with_reducible refine (alive_ok _).mono ?_
  rintro e w1 ⟨rfl, hb1⟩
  have HBK := Aside0.mk (blk_below (blk_new w (.cells #[.slice A0 l0.length c0, .slice A1 l1.length c1] 25)) hb1)
  have HB1 := Aside0.mk (((Below.refl w.heap.size w).alloc (Nat.le_refl _) (.cells #[.slice A0 l0.length c0, .slice A1 l1.length c1] 25)).trans (hb1.mono (by simp)))
  clear hb1
  have cp0 : w1.cell? ⟨w.heap.size, 0, none⟩ = some (.slice A0 l0.length c0) := (blk_cell HBK.out 0).trans rfl
  have cp1 : w1.cell? ⟨w.heap.size, 1, none⟩ = some (.slice A1 l1.length c1) := (blk_cell HBK.out 1).trans rfl
  have HG := Aside0.mk (retargetref40_Great.calls A0 c0 l0 A1 c1 l1 _ w1 (Kd.C_below hr0.out HB1.out) hc0.out (Kd.C_below hr1.out HB1.out) hc1.out (great_f l0 l1))
  go_wp2_with (first | (fail))
  go_at_call 12
  with_reducible refine HG.out.mono ?_
  clear HG
  rintro e w2 ⟨rfl, hb2⟩
  have HBK2 := Aside0.mk (blk_below HBK.out hb2)
  have HB2 := Aside0.mk (HB1.out.trans (hb2.mono HB1.out.size))
  clear hb2 cp0 cp1
  have cp0 : w2.cell? ⟨w.heap.size, 0, none⟩ = some (.slice A0 l0.length c0) := (blk_cell HBK2.out 0).trans rfl
  have cp1 : w2.cell? ⟨w.heap.size, 1, none⟩ = some (.slice A1 l1.length c1) := (blk_cell HBK2.out 1).trans rfl
  clear HBK HB1
  by_cases hg : Gr l0 l1
  · rw [decide_eq_true hg]
    go_wp2
    go_ret
    exact ⟨rfl, HB2.out⟩
  rw [decide_eq_false hg]
  obtain ⟨hle0, hle1⟩ := not_gr hg
  have HLE := Aside0.mk (show l0.length ≤ 100000 ∧ l1.length ≤ 100000 from ⟨by omega, by omega⟩)
  clear hg
  have HB2' := Aside0.mk HB2.out
  go_wp2_with (first
    | ((with_reducible refine gate_dst (N := 22) rfl ?_); refine Kd.R_make Kd.bool (w0 := w) w.heap.size 4 rfl rfl 26 _ _ rfl (l0.length : Int) rfl rfl Try.underlying26 (.bool false) 1 infoB4 rfl (by decide) (by decide) false (ok := fun _ => True) (okp := fun _ => True) rfl (fun _ _ => trivial) trivial (by omega) (by simp; omega) HB2'.out HB2'.out.size ?_; intro vs w3 rs hb3 hg3 hown3; have HBK3 := Aside0.mk (blk_grown HBK2.out hg3 (by simp)); have cp0 : w3.cell? ⟨w.heap.size, 0, none⟩ = some (.slice A0 l0.length c0) := (blk_cell HBK3.out 0).trans rfl; have cp1 : w3.cell? ⟨w.heap.size, 1, none⟩ = some (.slice A1 l1.length c1) := (blk_cell HBK3.out 1).trans rfl))
  rw [Int.toNat_natCast] at rs
  obtain ⟨As, cs, rfl, hcs⟩ := Kd.Q_slice (Kd.Q_of_R rs)
  rw [List.length_replicate] at rs hcs ⊢
  have HRS := Aside0.mk (show Kd.bool.R 4 w3 w.heap.size (fun _ => True) (.slice As l0.length cs) (shortL l0) from rs)
  have HCS := Aside0.mk hcs
  have HB3 := Aside0.mk hb3
  obtain ⟨ks, hks⟩ := (evn_Stable (long := shortL l0) HLE.out.1 HLE.out.2 (by rw [shortL_len]; exact HLE.out.1)).rounds
  rw [stable_short] at hks
  clear rs hcs hb3 hg3 hown3 HB2' HB2 HBK2
  have HSC := Aside0.mk (Kd.R_reads' HRS.out).2.2
  by_cases hv : valid l0 l1 = true
  · rw [if_pos hv] at hks
    have HST := Aside0.mk (relax_Stable.calls ks A0 c0 l0 A1 c1 l1 As cs (shortL l0) _ _ w3 (Kd.C_below hr0.out HB3.out) hc0.out (Kd.C_below hr1.out HB3.out) hc1.out HSC.out (by rw [shortL_len]; exact HCS.out) hks)
    rw [shortL_len] at HST
    with_reducible refine HST.out.mono ?_
    clear HST hks
    rintro e w4 ⟨rfl, hb4⟩
    have HBK4 := Aside0.mk (blk_below HBK3.out hb4)
    have HB4 := Aside0.mk (HB3.out.trans (hb4.mono HB3.out.size))
    have HR4 := Aside0.mk (Kd.R_below HRS.out hb4)
    clear hb4 cp0 cp1 HBK3 HRS HSC
    have cp0 : w4.cell? ⟨w.heap.size, 0, none⟩ = some (.slice A0 l0.length c0) := (blk_cell HBK4.out 0).trans rfl
    have cp1 : w4.cell? ⟨w.heap.size, 1, none⟩ = some (.slice A1 l1.length c1) := (blk_cell HBK4.out 1).trans rfl
    have HSO := Aside0.mk (relax_Solve.calls 0 A0 c0 l0 A1 c1 l1 (solveS l0 l1).1 (solveS l0 l1).2 w4 (Kd.C_below hr0.out HB4.out) hc0.out (Kd.C_below hr1.out HB4.out) hc1.out (solve_f HLE.out.1 HLE.out.2 0))
    have HV := Aside0.mk hv
    clear hv
    obtain ⟨is, his⟩ : ∃ b, b = decide (failsS l0 l1 (shortL l0) < 0) := ⟨_, rfl⟩
    rw [← his]
    have HIS := Aside0.mk his
    clear his
    go_wp2_with (first | (fail))
    go_at_call 21
    with_reducible refine HSO.out.mono ?_
    clear HSO cp0 cp1
    rintro e w5 ⟨v, rfl, rv, hb5⟩
    obtain ⟨Al, cl, rfl, hcl⟩ := Kd.Q_slice (Kd.Q_of_R rv)
    have HBK5 := Aside0.mk (blk_below HBK4.out hb5)
    have HB5 := Aside0.mk (HB4.out.trans (hb5.mono HB4.out.size))
    have HR5 := Aside0.mk (Kd.R_below HR4.out hb5)
    have HRV := Aside0.mk rv
    have HCL := Aside0.mk hcl
    clear hb5 rv hcl HBK4 HB4 HR4
    have cp0 : w5.cell? ⟨w.heap.size, 0, none⟩ = some (.slice A0 l0.length c0) := (blk_cell HBK5.out 0).trans rfl
    have cp1 : w5.cell? ⟨w.heap.size, 1, none⟩ = some (.slice A1 l1.length c1) := (blk_cell HBK5.out 1).trans rfl
    have e0 : (solveS l0 l1).2 = 0 ∨ (solveS l0 l1).2 = 24 := by
      rcases solveS_cases l0 l1 with ⟨_, e, _⟩ | ⟨_, e, _⟩ | ⟨hv, e⟩
      · rw [e]; exact Or.inl rfl
      · rw [e]; exact Or.inr rfl
      · rw [HV.out] at hv; cases hv
    have HE := Aside0.mk e0
    clear e0
    go_upto_region 9 with (fail)
    go_cut [5, 7, 8, 61] (fun v5 v7 v8 v61 wc => v61 = .bool false ∧ Aside0 (wc.heap[w.heap.size]? = some (.cells #[.slice A0 l0.length c0, .slice A1 l1.length c1] 25 (0, 0))) ∧ Aside0 (Below w.heap.size w wc) ∧ Aside0 (Kd.bool.R 4 wc w.heap.size (fun _ => True) (.slice As l0.length cs) (shortL l0)))
    case first =>
      rcases solveS_cases l0 l1 with ⟨hv, e, hL⟩ | ⟨hv, e, hL⟩ | ⟨hv, e⟩
      · rw [e] at HRV HCL ⊢
        obtain ⟨I, _⟩ := leastOf_spec hv
        have hln := I.len
        obtain ⟨ks, hks⟩ := (evn_SameBools (Q.leastOf l0 l1) (shortL l0) (by rw [hln]; exact HLE.out.1)).rounds
        have er : decide (Q.leastOf l0 l1 = shortL l0) = is := by rw [HIS.out]; exact decide_eq_decide.2 ((least_short hv).trans (fails_iff _ _ _).symm)
        rw [er] at hks
        have HSB := Aside0.mk (retargetref40_SameBools.calls ks Al cl (Q.leastOf l0 l1) As cs (shortL l0) is w5 (Kd.R_reads' HRV.out).2.2 HCL.out (Kd.R_reads' HR5.out).2.2 (by rw [shortL_len]; exact HCS.out) hks)
        rw [hln, shortL_len] at HSB
        clear hks er I hL e hv
        cases is with
        | true =>
          go_wp2_with (first | (go_at_call 20; with_reducible refine HSB.out.mono ?_; rintro e w6 ⟨rfl, ⟨nd, rfl⟩⟩))
          go_meet
          case rel => exact ⟨rfl, ⟨blk_drewN HBK5.out _⟩, ⟨pw_below_drewN HB5.out _⟩, ⟨by apply Kd.R_drewN; exact HR5.out⟩⟩
        | false =>
          go_wp2_with (first | (go_at_call 20; with_reducible refine HSB.out.mono ?_; rintro e w6 ⟨rfl, ⟨nd, rfl⟩⟩))
          go_meet
          case rel => exact ⟨rfl, ⟨blk_drewN HBK5.out _⟩, ⟨pw_below_drewN HB5.out _⟩, ⟨by apply Kd.R_drewN; exact HR5.out⟩⟩
      · rw [e] at HRV HCL ⊢
        have ei : is = false := by
          rw [HIS.out]
          refine decide_eq_false (fun hf => ?_)
          have := solve_short hv ((fails_iff _ _ _).1 hf)
          rw [e] at this
          have h24 := congrArg Prod.snd this
          simp at h24
        subst ei
        clear hL e hv
        go_wp2
        go_meet
        case rel => exact ⟨rfl, HBK5, HB5, HR5⟩
      · rw [HV.out] at hv; cases hv
    case rest =>
      obtain ⟨rfl, BKc, HBc, HRSc⟩ := hcut
      clear HBK5 HB5 HR5 HRV HCL HE HIS
      have HRc0 := Aside0.mk (Kd.C_below hr0.out HBc.out)
      have HRc1 := Aside0.mk (Kd.C_below hr1.out HBc.out)
      have HB := Aside0.mk (below_drew1 (Below.refl wc.heap.size wc))
      have BK247 := Aside0.mk (blk_drew BKc.out)
      obtain ⟨y250, hy250⟩ : ∃ y_ : List S48, y_ = ([] : List S48) := ⟨_, rfl⟩
      obtain ⟨y253, hy253⟩ : ∃ y_ : List S48, y_ = y250 ++ l0 := ⟨_, rfl⟩
      have LMc31 : Aside0 (y250.length + l0.length < 2513169434916) := ⟨by rw [hy250]; have := HLE.out.1; simp; omega⟩
      have Ny250 := Aside0.mk hy250
      have Ny253 := Aside0.mk hy253
      clear hy250 hy253
      go_wp2_with (fail)
      refine start_ (n := 9) (S := fun w' => w'.cell? ⟨w.heap.size, 0, none⟩ = some (.slice A0 l0.length c0) ∧ w'.cell? ⟨w.heap.size, 1, none⟩ = some (.slice A1 l1.length c1)) (ds := []) #[false, false, false, false, false, false, false, false, false] (by kernel_rfl) rfl rfl ⟨(blk_cell BK247.out 0).trans rfl, (blk_cell BK247.out 1).trans rfl⟩ (fun hHeld => ?_)
      generalize wc.drew = w37 at BK247 HB hHeld ⊢
      refine pure_ (i := 1) (N := some 63) (v := ?_) (a' := ?_) #[false, true, false, false, false, false, false, false, false] rfl rfl (by kernel_rfl) (fun _ _ _ h => h) (Or.inl ⟨by rfl, ?_⟩) ?_ ?_
      rotate_left
      · intro w'
        go_simp
        with_reducible rfl
      rotate_left
      · simp only [Act.put, List.setIfInBounds_toArray, List.set_cons_zero, List.set_cons_succ, i64_w, i32_w]
        rfl
      refine pure_ (i := 4) (N := some 66) (v := ?_) (a' := ?_) #[false, true, false, false, true, false, false, false, false] rfl rfl (by kernel_rfl) (fun _ _ _ h => h) (Or.inl ⟨by rfl, ?_⟩) ?_ ?_
      rotate_left
      · intro w'
        go_simp
        with_reducible rfl
      rotate_left
      · simp only [Act.put, List.setIfInBounds_toArray, List.set_cons_zero, List.set_cons_succ, i64_w, i32_w]
        rfl
      refine take_ (i := 2) (N := some 64) (v := ?_) (a' := ?_) #[false, true, true, false, true, false, false, false, false] rfl rfl (by kernel_rfl) (fun _ _ _ h => h) (Or.inl ⟨by rfl, ?_⟩) hHeld ?_ ?_
      rotate_left
      · rintro w' ⟨s0, s1⟩
        go_simp
        with_reducible rfl
      rotate_left
      · simp only [Act.put, List.setIfInBounds_toArray, List.set_cons_zero, List.set_cons_succ, i64_w, i32_w]
        rfl
      refine take_ (i := 5) (N := some 67) (v := ?_) (a' := ?_) #[false, true, true, false, true, true, false, false, false] rfl rfl (by kernel_rfl) (fun _ _ _ h => h) (Or.inl ⟨by rfl, ?_⟩) hHeld ?_ ?_
      rotate_left
      · rintro w' ⟨s0, s1⟩
        go_simp
        with_reducible rfl
      rotate_left
      · simp only [Act.put, List.setIfInBounds_toArray, List.set_cons_zero, List.set_cons_succ, i64_w, i32_w]
        rfl
      refine join_ (σ := Value × Value × Nat) 1 #[true, true, true, true, true, true, true, true, false] (fun s_ => [(62, s_.1), (65, s_.2.1), (9, .pointer (some ⟨s_.2.2, 0, none⟩)), (68, .agg #[s_.2.1, .slice A1 l1.length c1])]) (fun s_ w' => (w'.cell? ⟨w.heap.size, 0, none⟩ = some (.slice A0 l0.length c0) ∧ w'.cell? ⟨w.heap.size, 1, none⟩ = some (.slice A1 l1.length c1)) ∧ (Kd.R k48 48 w' wc.heap.size (fun _ => True) s_.2.1 y253) ∧ (w'.heap[w.heap.size]? = some (.cells #[.slice A0 l0.length c0, .slice A1 l1.length c1] 25 (0, 0))) ∧ (w'.heap[s_.2.2]? = some (.cells #[.slice none 0 0, .slice none 0 0] 25 (0, 0))) ∧ (wc.heap.size ≤ s_.2.2) ∧ (wc.heap.size ≤ s_.2.2) ∧ (w.heap.size ≠ s_.2.2) ∧ (s_.2.2 ≠ w.heap.size) ∧ (Below wc.heap.size wc w')) ?_ ?_
      rotate_left
      · intro hCont
        refine two_ (i := 0) (j := 7) (Ni := some 62) (Nj := some 9) #[true, true, true, false, true, true, false, false, false] #[false, true, true, false, true, true, false, true, false] rfl rfl rfl rfl (by kernel_rfl) (by decide) (by decide) (fun K hK => ?_) (fun K hK => ?_)
        · skip
          refine Kd.R_lit_step k48 _ 48 ?hg (N := 62) ?hd (xs := ([] : List (S48))) (inner := []) (ok := fun _ => True) (okp := fun _ => True) ?hr ?hp (fun _ hk => hk) trivial (Below.refl _ _) (Nat.le_refl _) (by simp) ?_; (case hd => rfl); (case hg => rfl); (case hr => first | (go_simp; done) | (go_simp; rfl)); (case hp => exact (Reps.none _ _))
          intro v251 w38 ho39 hb hg_ hnew_
          clear hg_ hnew_
          (first | rw [← Ny250.out] at ho39 | (simp only [Int.reduceToNat] at ho39; rw [← Ny250.out] at ho39))
          have n0_ := Aside0.mk (Kd.R_lower ho39 (below_size (by repeat (first | (with_reducible first | exact HB.out | apply below_alloc | apply pw_below_drewN | apply below_drew1 | refine below_set ?_ GE247.out) | exact HB.out))))
          have n1_ := Aside0.mk (blk_below (g := w.heap.size) (o := .cells #[.slice A0 l0.length c0, .slice A1 l1.length c1] 25 (0, 0)) (by (with_reducible repeat (first | refine blk_drewN ?_ _ | refine blk_drew ?_ | refine blk_alloc ?_ _)); exact BK247.out) hb)
          have n2_ := Aside0.mk (below_step (by repeat (first | (with_reducible first | exact HB.out | apply below_alloc | apply pw_below_drewN | apply below_drew1 | refine below_set ?_ GE247.out) | exact HB.out)) hb)
          clear BK247
          clear HB
          have HO252 := n0_
          have BK247 := n1_
          have HB := n2_
          clear n0_ n1_ n2_
          clear hb ho39
          refine hK.out _ _ ⟨(blk_cell BK247.out 0).trans rfl, (blk_cell BK247.out 1).trans rfl⟩ (fun hHeld => ?_)
          clear hK K
          refine norm_ (a' := ?_) ?_ ?_
          rotate_left
          · show Act.put _ (some 62) _ = _
            simp only [Act.put, List.setIfInBounds_toArray, List.set_cons_zero, List.set_cons_succ, i64_w, i32_w]
            rfl
          refine two_ (i := 3) (j := 7) (Ni := some 65) (Nj := some 9) #[true, true, true, true, true, true, false, false, false] #[true, true, true, false, true, true, false, true, false] rfl rfl rfl rfl (by kernel_rfl) (by decide) (by decide) (fun K hK => ?_) (fun K hK => ?_)
          · skip
            refine Kd.R_append_rows_step k48 (w0 := wc) wc.heap.size (by rfl) (.tmp 62) (.tmp 64) 22 48 (.agg #[(.int .i64 0), (.int .i64 0), (.int .i64 0), (.int .i64 0), (.int .i64 0), (.int .i64 0), (.int .i64 0)]) 56 rfl Try.underlying22 info48 rfl (by decide) (by omega) v251 y250 l0 _ _ _ (fun _ => True) (fun _ => False) rfl rfl ?aO ?aR (fun _ _ h => h) (fun _ h => h.elim) ?aF ?aB ?aS ?aL ?_
            (case aR => repeat (first | exact (Kd.C_below HRc0.out HB.out) | (with_reducible refine Kd.C_alloc ?_ _) | (with_reducible refine Kd.C_drewN ?_ _) | (with_reducible refine Kd.C_drew ?_)))
            (case aB => exact (by repeat (first | (with_reducible first | exact HB.out | apply below_alloc | apply pw_below_drewN | apply below_drew1 | refine below_set ?_ GE247.out) | exact HB.out)))
            (case aF => exact (fun _ _ => trivial))
            (case aO => exact (by (with_reducible repeat (first | apply Kd.R_alloc | apply Kd.R_drewN | apply Kd.R_drew)); exact HO252.out))
            (case aS => exact (below_size (by repeat (first | (with_reducible first | exact HB.out | apply below_alloc | apply pw_below_drewN | apply below_drew1 | refine below_set ?_ GE247.out) | exact HB.out))))
            (case aL => have := LMc31.out; omega)
            intro v254 w40 ho hb hg hat
            rw [← Ny253.out] at ho
            have n0_ := Aside0.mk (blk_grown (g := w.heap.size) (o := .cells #[.slice A0 l0.length c0, .slice A1 l1.length c1] 25 (0, 0)) (by (with_reducible repeat (first | refine blk_drewN ?_ _ | refine blk_drew ?_ | refine blk_alloc ?_ _)); exact BK247.out) hg (Kd.R_ne HO252.out BK247.out (by decide)))
            have n1_ := Aside0.mk (hb)
            have n2_ := Aside0.mk (ho)
            clear BK247
            clear HB
            clear HO252
            have BK247 := n0_
            have HB := n1_
            have HO255 := n2_
            clear n0_ n1_ n2_
            clear ho hb hg hat
            obtain ⟨Ao41, co41, eo41⟩ := Kd.R_slice HO255.out
            (first | subst eo41 | (injection eo41 with f1_ f2_ f3_; have f4_ := f1_.symm; have f5_ := f3_.symm; clear f1_ f2_ f3_; subst f4_; subst f5_))
            refine hK.out _ _ ⟨(blk_cell BK247.out 0).trans rfl, (blk_cell BK247.out 1).trans rfl⟩ (fun hHeld => ?_)
            clear hK K
            refine norm_ (a' := ?_) ?_ ?_
            rotate_left
            · show Act.put _ (some 65) _ = _
              simp only [Act.put, List.setIfInBounds_toArray, List.set_cons_zero, List.set_cons_succ, i64_w, i32_w]
              rfl
            refine pure_ (i := 6) (N := some 68) (v := ?_) (a' := ?_) #[true, true, true, true, true, true, true, false, false] rfl rfl (by kernel_rfl) (fun _ _ _ h => h) (Or.inl ⟨by rfl, ?_⟩) ?_ ?_
            rotate_left
            · intro w'
              go_simp
              with_reducible rfl
            rotate_left
            · simp only [Act.put, List.setIfInBounds_toArray, List.set_cons_zero, List.set_cons_succ, i64_w, i32_w]
              rfl
            refine one_ (i := 7) (N := some 9) #[true, true, true, true, true, true, true, true, false] rfl rfl (by kernel_rfl) (by decide) (fun K hK => ?_)
            refine box_step ?hg (N := 9) ?hd (cs := #[.slice none 0 0, .slice none 0 0]) (t := 25) ?hr ?_; (case hd => rfl); (case hg => rfl); (case hr => first | (go_simp; done) | (go_simp; rfl))
            intro gb256 hg w42 hbox hb
            have n0_ := Aside0.mk (Kd.R_below (by (with_reducible repeat (first | apply Kd.R_alloc | apply Kd.R_drewN | apply Kd.R_drew)); exact HO255.out) hb)
            have n1_ := Aside0.mk (blk_below (g := w.heap.size) (o := .cells #[.slice A0 l0.length c0, .slice A1 l1.length c1] 25 (0, 0)) (by (with_reducible repeat (first | refine blk_drewN ?_ _ | refine blk_drew ?_ | refine blk_alloc ?_ _)); exact BK247.out) hb)
            have n2_ := Aside0.mk (below_step (by repeat (first | (with_reducible first | exact HB.out | apply below_alloc | apply pw_below_drewN | apply below_drew1 | refine below_set ?_ GE247.out) | exact HB.out)) hb)
            have n3_ := Aside0.mk (hbox)
            have n4_ := Aside0.mk ((by rw [hg]; exact (below_size (by repeat (first | (with_reducible first | exact HB.out | apply below_alloc | apply pw_below_drewN | apply below_drew1 | refine below_set ?_ GE247.out) | exact HB.out))) : wc.heap.size ≤ gb256))
            have n5_ := Aside0.mk ((by rw [hg]; exact (below_size (by repeat (first | (with_reducible first | exact HB.out | apply below_alloc | apply pw_below_drewN | apply below_drew1 | refine below_set ?_ GE247.out) | exact HB.out))) : wc.heap.size ≤ gb256))
            have n6_ := Aside0.mk ((by rw [hg]; exact Nat.ne_of_lt (blk_lt (g := w.heap.size) (o := .cells #[.slice A0 l0.length c0, .slice A1 l1.length c1] 25 (0, 0)) (by (with_reducible repeat (first | refine blk_drewN ?_ _ | refine blk_drew ?_ | refine blk_alloc ?_ _)); exact BK247.out)) : w.heap.size ≠ gb256))
            have n7_ := Aside0.mk ((by rw [hg]; exact Nat.ne_of_gt (blk_lt (g := w.heap.size) (o := .cells #[.slice A0 l0.length c0, .slice A1 l1.length c1] 25 (0, 0)) (by (with_reducible repeat (first | refine blk_drewN ?_ _ | refine blk_drew ?_ | refine blk_alloc ?_ _)); exact BK247.out)) : gb256 ≠ w.heap.size))
            clear HO255
            clear BK247
            clear HB
            have HO255 := n0_
            have BK247 := n1_
            have HB := n2_
            have BK256 := n3_
            have GW256 := n4_
            have GE256 := n5_
            have NB247_256 := n6_
            have NB256_247 := n7_
            clear n0_ n1_ n2_ n3_ n4_ n5_ n6_ n7_
            clear hb hbox hg
            refine hK.out _ _ ⟨(blk_cell BK247.out 0).trans rfl, (blk_cell BK247.out 1).trans rfl⟩ (fun hHeld => ?_)
            clear hK K
            refine norm_ (a' := ?_) ?_ ?_
            rotate_left
            · show Act.put _ (some 9) _ = _
              simp only [Act.put, List.setIfInBounds_toArray, List.set_cons_zero, List.set_cons_succ, i64_w, i32_w]
              rfl
            exact norm_ (by simp only [putAll, Act.put, List.setIfInBounds_toArray, List.set_cons_zero, List.set_cons_succ]) (hCont (v251, .slice Ao41 y253.length co41, gb256) _ ⟨hHeld, (by (with_reducible repeat (first | apply Kd.R_alloc | apply Kd.R_drewN | apply Kd.R_drew)); exact HO255.out), (by (with_reducible repeat (first | refine blk_drewN ?_ _ | refine blk_drew ?_ | refine blk_alloc ?_ _)); exact BK247.out), (by (with_reducible repeat (first | refine blk_drewN ?_ _ | refine blk_drew ?_ | refine blk_alloc ?_ _)); exact BK256.out), GW256.out, GE256.out, NB247_256.out, NB256_247.out, (by repeat (first | (with_reducible first | exact HB.out | apply below_alloc | apply pw_below_drewN | apply below_drew1 | refine below_set ?_ GE247.out | refine below_set ?_ GE256.out) | exact HB.out))⟩)
          · skip
            refine box_step ?hg (N := 9) ?hd (cs := #[.slice none 0 0, .slice none 0 0]) (t := 25) ?hr ?_; (case hd => rfl); (case hg => rfl); (case hr => first | (go_simp; done) | (go_simp; rfl))
            intro gb256 hg w40 hbox hb
            have n0_ := Aside0.mk (Kd.R_below (by (with_reducible repeat (first | apply Kd.R_alloc | apply Kd.R_drewN | apply Kd.R_drew)); exact HO252.out) hb)
            have n1_ := Aside0.mk (blk_below (g := w.heap.size) (o := .cells #[.slice A0 l0.length c0, .slice A1 l1.length c1] 25 (0, 0)) (by (with_reducible repeat (first | refine blk_drewN ?_ _ | refine blk_drew ?_ | refine blk_alloc ?_ _)); exact BK247.out) hb)
            have n2_ := Aside0.mk (below_step (by repeat (first | (with_reducible first | exact HB.out | apply below_alloc | apply pw_below_drewN | apply below_drew1 | refine below_set ?_ GE247.out) | exact HB.out)) hb)
            have n3_ := Aside0.mk (hbox)
            have n4_ := Aside0.mk ((by rw [hg]; exact (below_size (by repeat (first | (with_reducible first | exact HB.out | apply below_alloc | apply pw_below_drewN | apply below_drew1 | refine below_set ?_ GE247.out) | exact HB.out))) : wc.heap.size ≤ gb256))
            have n5_ := Aside0.mk ((by rw [hg]; exact (below_size (by repeat (first | (with_reducible first | exact HB.out | apply below_alloc | apply pw_below_drewN | apply below_drew1 | refine below_set ?_ GE247.out) | exact HB.out))) : wc.heap.size ≤ gb256))
            have n6_ := Aside0.mk ((by rw [hg]; exact Nat.ne_of_lt (blk_lt (g := w.heap.size) (o := .cells #[.slice A0 l0.length c0, .slice A1 l1.length c1] 25 (0, 0)) (by (with_reducible repeat (first | refine blk_drewN ?_ _ | refine blk_drew ?_ | refine blk_alloc ?_ _)); exact BK247.out)) : w.heap.size ≠ gb256))
            have n7_ := Aside0.mk ((by rw [hg]; exact Nat.ne_of_gt (blk_lt (g := w.heap.size) (o := .cells #[.slice A0 l0.length c0, .slice A1 l1.length c1] 25 (0, 0)) (by (with_reducible repeat (first | refine blk_drewN ?_ _ | refine blk_drew ?_ | refine blk_alloc ?_ _)); exact BK247.out)) : gb256 ≠ w.heap.size))
            clear HO252
            clear BK247
            clear HB
            have HO252 := n0_
            have BK247 := n1_
            have HB := n2_
            have BK256 := n3_
            have GW256 := n4_
            have GE256 := n5_
            have NB247_256 := n6_
            have NB256_247 := n7_
            clear n0_ n1_ n2_ n3_ n4_ n5_ n6_ n7_
            clear hb hbox hg
            refine hK.out _ _ ⟨(blk_cell BK247.out 0).trans rfl, (blk_cell BK247.out 1).trans rfl⟩ (fun hHeld => ?_)
            clear hK K
            refine norm_ (a' := ?_) ?_ ?_
            rotate_left
            · show Act.put _ (some 9) _ = _
              simp only [Act.put, List.setIfInBounds_toArray, List.set_cons_zero, List.set_cons_succ, i64_w, i32_w]
              rfl
            refine one_ (i := 3) (N := some 65) #[true, true, true, true, true, true, false, true, false] rfl rfl (by kernel_rfl) (by decide) (fun K hK => ?_)
            refine Kd.R_append_rows_step k48 (w0 := wc) wc.heap.size (by rfl) (.tmp 62) (.tmp 64) 22 48 (.agg #[(.int .i64 0), (.int .i64 0), (.int .i64 0), (.int .i64 0), (.int .i64 0), (.int .i64 0), (.int .i64 0)]) 56 rfl Try.underlying22 info48 rfl (by decide) (by omega) v251 y250 l0 _ _ _ (fun _ => True) (fun _ => False) rfl rfl ?aO ?aR (fun _ _ h => h) (fun _ h => h.elim) ?aF ?aB ?aS ?aL ?_
            (case aR => repeat (first | exact (Kd.C_below HRc0.out HB.out) | (with_reducible refine Kd.C_alloc ?_ _) | (with_reducible refine Kd.C_drewN ?_ _) | (with_reducible refine Kd.C_drew ?_)))
            (case aB => exact (by repeat (first | (with_reducible first | exact HB.out | apply below_alloc | apply pw_below_drewN | apply below_drew1 | refine below_set ?_ GE247.out | refine below_set ?_ GE256.out) | exact HB.out)))
            (case aF => exact (fun _ _ => trivial))
            (case aO => exact (by (with_reducible repeat (first | apply Kd.R_alloc | apply Kd.R_drewN | apply Kd.R_drew)); exact HO252.out))
            (case aS => exact (below_size (by repeat (first | (with_reducible first | exact HB.out | apply below_alloc | apply pw_below_drewN | apply below_drew1 | refine below_set ?_ GE247.out | refine below_set ?_ GE256.out) | exact HB.out))))
            (case aL => have := LMc31.out; omega)
            intro v254 w41 ho hb hg hat
            rw [← Ny253.out] at ho
            have n0_ := Aside0.mk (blk_grown (g := w.heap.size) (o := .cells #[.slice A0 l0.length c0, .slice A1 l1.length c1] 25 (0, 0)) (by (with_reducible repeat (first | refine blk_drewN ?_ _ | refine blk_drew ?_ | refine blk_alloc ?_ _)); exact BK247.out) hg (Kd.R_ne HO252.out BK247.out (by decide)))
            have n1_ := Aside0.mk (blk_grown (g := gb256) (o := .cells #[.slice none 0 0, .slice none 0 0] 25 (0, 0)) (by (with_reducible repeat (first | refine blk_drewN ?_ _ | refine blk_drew ?_ | refine blk_alloc ?_ _)); exact BK256.out) hg (Kd.R_ne HO252.out BK256.out (by decide)))
            have n2_ := Aside0.mk (hb)
            have n3_ := Aside0.mk (ho)
            clear BK247
            clear BK256
            clear HB
            clear HO252
            have BK247 := n0_
            have BK256 := n1_
            have HB := n2_
            have HO255 := n3_
            clear n0_ n1_ n2_ n3_
            clear ho hb hg hat
            obtain ⟨Ao42, co42, eo42⟩ := Kd.R_slice HO255.out
            (first | subst eo42 | (injection eo42 with f1_ f2_ f3_; have f4_ := f1_.symm; have f5_ := f3_.symm; clear f1_ f2_ f3_; subst f4_; subst f5_))
            refine hK.out _ _ ⟨(blk_cell BK247.out 0).trans rfl, (blk_cell BK247.out 1).trans rfl⟩ (fun hHeld => ?_)
            clear hK K
            refine norm_ (a' := ?_) ?_ ?_
            rotate_left
            · show Act.put _ (some 65) _ = _
              simp only [Act.put, List.setIfInBounds_toArray, List.set_cons_zero, List.set_cons_succ, i64_w, i32_w]
              rfl
            refine pure_ (i := 6) (N := some 68) (v := ?_) (a' := ?_) #[true, true, true, true, true, true, true, true, false] rfl rfl (by kernel_rfl) (fun _ _ _ h => h) (Or.inl ⟨by rfl, ?_⟩) ?_ ?_
            rotate_left
            · intro w'
              go_simp
              with_reducible rfl
            rotate_left
            · simp only [Act.put, List.setIfInBounds_toArray, List.set_cons_zero, List.set_cons_succ, i64_w, i32_w]
              rfl
            exact norm_ (by simp only [putAll, Act.put, List.setIfInBounds_toArray, List.set_cons_zero, List.set_cons_succ]) (hCont (v251, .slice Ao42 y253.length co42, gb256) _ ⟨hHeld, (by (with_reducible repeat (first | apply Kd.R_alloc | apply Kd.R_drewN | apply Kd.R_drew)); exact HO255.out), (by (with_reducible repeat (first | refine blk_drewN ?_ _ | refine blk_drew ?_ | refine blk_alloc ?_ _)); exact BK247.out), (by (with_reducible repeat (first | refine blk_drewN ?_ _ | refine blk_drew ?_ | refine blk_alloc ?_ _)); exact BK256.out), GW256.out, GE256.out, NB247_256.out, NB256_247.out, (by repeat (first | (with_reducible first | exact HB.out | apply below_alloc | apply pw_below_drewN | apply below_drew1 | refine below_set ?_ GE247.out | refine below_set ?_ GE256.out) | exact HB.out))⟩)
        · skip
          refine box_step ?hg (N := 9) ?hd (cs := #[.slice none 0 0, .slice none 0 0]) (t := 25) ?hr ?_; (case hd => rfl); (case hg => rfl); (case hr => first | (go_simp; done) | (go_simp; rfl))
          intro gb256 hg w38 hbox hb
          have n0_ := Aside0.mk (blk_below (g := w.heap.size) (o := .cells #[.slice A0 l0.length c0, .slice A1 l1.length c1] 25 (0, 0)) (by (with_reducible repeat (first | refine blk_drewN ?_ _ | refine blk_drew ?_ | refine blk_alloc ?_ _)); exact BK247.out) hb)
          have n1_ := Aside0.mk (below_step (by repeat (first | (with_reducible first | exact HB.out | apply below_alloc | apply pw_below_drewN | apply below_drew1 | refine below_set ?_ GE247.out) | exact HB.out)) hb)
          have n2_ := Aside0.mk (hbox)
          have n3_ := Aside0.mk ((by rw [hg]; exact (below_size (by repeat (first | (with_reducible first | exact HB.out | apply below_alloc | apply pw_below_drewN | apply below_drew1 | refine below_set ?_ GE247.out) | exact HB.out))) : wc.heap.size ≤ gb256))
          have n4_ := Aside0.mk ((by rw [hg]; exact (below_size (by repeat (first | (with_reducible first | exact HB.out | apply below_alloc | apply pw_below_drewN | apply below_drew1 | refine below_set ?_ GE247.out) | exact HB.out))) : wc.heap.size ≤ gb256))
          have n5_ := Aside0.mk ((by rw [hg]; exact Nat.ne_of_lt (blk_lt (g := w.heap.size) (o := .cells #[.slice A0 l0.length c0, .slice A1 l1.length c1] 25 (0, 0)) (by (with_reducible repeat (first | refine blk_drewN ?_ _ | refine blk_drew ?_ | refine blk_alloc ?_ _)); exact BK247.out)) : w.heap.size ≠ gb256))
          have n6_ := Aside0.mk ((by rw [hg]; exact Nat.ne_of_gt (blk_lt (g := w.heap.size) (o := .cells #[.slice A0 l0.length c0, .slice A1 l1.length c1] 25 (0, 0)) (by (with_reducible repeat (first | refine blk_drewN ?_ _ | refine blk_drew ?_ | refine blk_alloc ?_ _)); exact BK247.out)) : gb256 ≠ w.heap.size))
          clear BK247
          clear HB
          have BK247 := n0_
          have HB := n1_
          have BK256 := n2_
          have GW256 := n3_
          have GE256 := n4_
          have NB247_256 := n5_
          have NB256_247 := n6_
          clear n0_ n1_ n2_ n3_ n4_ n5_ n6_
          clear hb hbox hg
          refine hK.out _ _ ⟨(blk_cell BK247.out 0).trans rfl, (blk_cell BK247.out 1).trans rfl⟩ (fun hHeld => ?_)
          clear hK K
          refine norm_ (a' := ?_) ?_ ?_
          rotate_left
          · show Act.put _ (some 9) _ = _
            simp only [Act.put, List.setIfInBounds_toArray, List.set_cons_zero, List.set_cons_succ, i64_w, i32_w]
            rfl
          refine one_ (i := 0) (N := some 62) #[true, true, true, false, true, true, false, true, false] rfl rfl (by kernel_rfl) (by decide) (fun K hK => ?_)
          refine Kd.R_lit_step k48 _ 48 ?hg (N := 62) ?hd (xs := ([] : List (S48))) (inner := []) (ok := fun _ => True) (okp := fun _ => True) ?hr ?hp (fun _ hk => hk) trivial (Below.refl _ _) (Nat.le_refl _) (by simp) ?_; (case hd => rfl); (case hg => rfl); (case hr => first | (go_simp; done) | (go_simp; rfl)); (case hp => exact (Reps.none _ _))
          intro v251 w39 ho40 hb hg_ hnew_
          clear hg_ hnew_
          (first | rw [← Ny250.out] at ho40 | (simp only [Int.reduceToNat] at ho40; rw [← Ny250.out] at ho40))
          have n0_ := Aside0.mk (Kd.R_lower ho40 (below_size (by repeat (first | (with_reducible first | exact HB.out | apply below_alloc | apply pw_below_drewN | apply below_drew1 | refine below_set ?_ GE247.out | refine below_set ?_ GE256.out) | exact HB.out))))
          have n1_ := Aside0.mk (blk_below (g := w.heap.size) (o := .cells #[.slice A0 l0.length c0, .slice A1 l1.length c1] 25 (0, 0)) (by (with_reducible repeat (first | refine blk_drewN ?_ _ | refine blk_drew ?_ | refine blk_alloc ?_ _)); exact BK247.out) hb)
          have n2_ := Aside0.mk (blk_below (g := gb256) (o := .cells #[.slice none 0 0, .slice none 0 0] 25 (0, 0)) (by (with_reducible repeat (first | refine blk_drewN ?_ _ | refine blk_drew ?_ | refine blk_alloc ?_ _)); exact BK256.out) hb)
          have n3_ := Aside0.mk (below_step (by repeat (first | (with_reducible first | exact HB.out | apply below_alloc | apply pw_below_drewN | apply below_drew1 | refine below_set ?_ GE247.out | refine below_set ?_ GE256.out) | exact HB.out)) hb)
          clear BK247
          clear BK256
          clear HB
          have HO252 := n0_
          have BK247 := n1_
          have BK256 := n2_
          have HB := n3_
          clear n0_ n1_ n2_ n3_
          clear hb ho40
          refine hK.out _ _ ⟨(blk_cell BK247.out 0).trans rfl, (blk_cell BK247.out 1).trans rfl⟩ (fun hHeld => ?_)
          clear hK K
          refine norm_ (a' := ?_) ?_ ?_
          rotate_left
          · show Act.put _ (some 62) _ = _
            simp only [Act.put, List.setIfInBounds_toArray, List.set_cons_zero, List.set_cons_succ, i64_w, i32_w]
            rfl
          refine one_ (i := 3) (N := some 65) #[true, true, true, true, true, true, false, true, false] rfl rfl (by kernel_rfl) (by decide) (fun K hK => ?_)
          refine Kd.R_append_rows_step k48 (w0 := wc) wc.heap.size (by rfl) (.tmp 62) (.tmp 64) 22 48 (.agg #[(.int .i64 0), (.int .i64 0), (.int .i64 0), (.int .i64 0), (.int .i64 0), (.int .i64 0), (.int .i64 0)]) 56 rfl Try.underlying22 info48 rfl (by decide) (by omega) v251 y250 l0 _ _ _ (fun _ => True) (fun _ => False) rfl rfl ?aO ?aR (fun _ _ h => h) (fun _ h => h.elim) ?aF ?aB ?aS ?aL ?_
          (case aR => repeat (first | exact (Kd.C_below HRc0.out HB.out) | (with_reducible refine Kd.C_alloc ?_ _) | (with_reducible refine Kd.C_drewN ?_ _) | (with_reducible refine Kd.C_drew ?_)))
          (case aB => exact (by repeat (first | (with_reducible first | exact HB.out | apply below_alloc | apply pw_below_drewN | apply below_drew1 | refine below_set ?_ GE247.out | refine below_set ?_ GE256.out) | exact HB.out)))
          (case aF => exact (fun _ _ => trivial))
          (case aO => exact (by (with_reducible repeat (first | apply Kd.R_alloc | apply Kd.R_drewN | apply Kd.R_drew)); exact HO252.out))
          (case aS => exact (below_size (by repeat (first | (with_reducible first | exact HB.out | apply below_alloc | apply pw_below_drewN | apply below_drew1 | refine below_set ?_ GE247.out | refine below_set ?_ GE256.out) | exact HB.out))))
          (case aL => have := LMc31.out; omega)
          intro v254 w41 ho hb hg hat
          rw [← Ny253.out] at ho
          have n0_ := Aside0.mk (blk_grown (g := w.heap.size) (o := .cells #[.slice A0 l0.length c0, .slice A1 l1.length c1] 25 (0, 0)) (by (with_reducible repeat (first | refine blk_drewN ?_ _ | refine blk_drew ?_ | refine blk_alloc ?_ _)); exact BK247.out) hg (Kd.R_ne HO252.out BK247.out (by decide)))
          have n1_ := Aside0.mk (blk_grown (g := gb256) (o := .cells #[.slice none 0 0, .slice none 0 0] 25 (0, 0)) (by (with_reducible repeat (first | refine blk_drewN ?_ _ | refine blk_drew ?_ | refine blk_alloc ?_ _)); exact BK256.out) hg (Kd.R_ne HO252.out BK256.out (by decide)))
          have n2_ := Aside0.mk (hb)
          have n3_ := Aside0.mk (ho)
          clear BK247
          clear BK256
          clear HB
          clear HO252
          have BK247 := n0_
          have BK256 := n1_
          have HB := n2_
          have HO255 := n3_
          clear n0_ n1_ n2_ n3_
          clear ho hb hg hat
          obtain ⟨Ao42, co42, eo42⟩ := Kd.R_slice HO255.out
          (first | subst eo42 | (injection eo42 with f1_ f2_ f3_; have f4_ := f1_.symm; have f5_ := f3_.symm; clear f1_ f2_ f3_; subst f4_; subst f5_))
          refine hK.out _ _ ⟨(blk_cell BK247.out 0).trans rfl, (blk_cell BK247.out 1).trans rfl⟩ (fun hHeld => ?_)
          clear hK K
          refine norm_ (a' := ?_) ?_ ?_
          rotate_left
          · show Act.put _ (some 65) _ = _
            simp only [Act.put, List.setIfInBounds_toArray, List.set_cons_zero, List.set_cons_succ, i64_w, i32_w]
            rfl
          refine pure_ (i := 6) (N := some 68) (v := ?_) (a' := ?_) #[true, true, true, true, true, true, true, true, false] rfl rfl (by kernel_rfl) (fun _ _ _ h => h) (Or.inl ⟨by rfl, ?_⟩) ?_ ?_
          rotate_left
          · intro w'
            go_simp
            with_reducible rfl
          rotate_left
          · simp only [Act.put, List.setIfInBounds_toArray, List.set_cons_zero, List.set_cons_succ, i64_w, i32_w]
            rfl
          exact norm_ (by simp only [putAll, Act.put, List.setIfInBounds_toArray, List.set_cons_zero, List.set_cons_succ]) (hCont (v251, .slice Ao42 y253.length co42, gb256) _ ⟨hHeld, (by (with_reducible repeat (first | apply Kd.R_alloc | apply Kd.R_drewN | apply Kd.R_drew)); exact HO255.out), (by (with_reducible repeat (first | refine blk_drewN ?_ _ | refine blk_drew ?_ | refine blk_alloc ?_ _)); exact BK247.out), (by (with_reducible repeat (first | refine blk_drewN ?_ _ | refine blk_drew ?_ | refine blk_alloc ?_ _)); exact BK256.out), GW256.out, GE256.out, NB247_256.out, NB256_247.out, (by repeat (first | (with_reducible first | exact HB.out | apply below_alloc | apply pw_below_drewN | apply below_drew1 | refine below_set ?_ GE247.out | refine below_set ?_ GE256.out) | exact HB.out))⟩)
      rintro ⟨v251, v254, gb256⟩ w43 ⟨hS_, h0_, h1_, h2_, h3_, h4_, h5_, h6_, h7_⟩
      have n0_ : Aside0 (Kd.R k48 48 w43 wc.heap.size (fun _ => True) v254 y253) := ⟨h0_⟩
      have n1_ : Aside0 (w43.heap[w.heap.size]? = some (.cells #[.slice A0 l0.length c0, .slice A1 l1.length c1] 25 (0, 0))) := ⟨h1_⟩
      have n2_ : Aside0 (w43.heap[gb256]? = some (.cells #[.slice none 0 0, .slice none 0 0] 25 (0, 0))) := ⟨h2_⟩
      have n3_ : Aside0 (wc.heap.size ≤ gb256) := ⟨h3_⟩
      have n4_ : Aside0 (wc.heap.size ≤ gb256) := ⟨h4_⟩
      have n5_ : Aside0 (w.heap.size ≠ gb256) := ⟨h5_⟩
      have n6_ : Aside0 (gb256 ≠ w.heap.size) := ⟨h6_⟩
      have n7_ : Aside0 (Below wc.heap.size wc w43) := ⟨h7_⟩
      clear BK247
      clear HB
      clear h0_ h1_ h2_ h3_ h4_ h5_ h6_ h7_
      have HO255 := n0_
      have BK247 := n1_
      have BK256 := n2_
      have GW256 := n3_
      have GE256 := n4_
      have NB247_256 := n5_
      have NB256_247 := n6_
      have HB := n7_
      clear n0_ n1_ n2_ n3_ n4_ n5_ n6_ n7_
      have hHeld : w43.cell? ⟨w.heap.size, 0, none⟩ = some (.slice A0 l0.length c0) ∧ w43.cell? ⟨w.heap.size, 1, none⟩ = some (.slice A1 l1.length c1) := hS_
      obtain ⟨Ao44, co44, eo44⟩ := Kd.R_slice HO255.out
      (first | subst eo44 | (injection eo44 with f1_ f2_ f3_; have f4_ := f1_.symm; have f5_ := f3_.symm; clear f1_ f2_ f3_; subst f4_; subst f5_))
      refine norm_ (a' := ?_) ?_ ?_
      rotate_left
      · simp only [putAll, Act.put, List.setIfInBounds_toArray, List.set_cons_zero, List.set_cons_succ]
        rfl
      refine one_ (i := 8) (N := none) #[true, true, true, true, true, true, true, true, true] rfl rfl (by kernel_rfl) (by decide) (fun K hK => ?_)
      have hs45 : w43.cell? ⟨gb256, 0, none⟩ = some (.slice none 0 0) := (blk_cell BK256.out 0).trans rfl
      have hfs45 := blk_frozen BK256.out 0
      have hns45_0 := NB247_256.out
      have hms45_0 := NB256_247.out
      have hs46 : w43.cell? ⟨gb256, 1, none⟩ = some (.slice none 0 0) := (blk_cell BK256.out 1).trans rfl
      have hfs46 := blk_frozen BK256.out 1
      have hns46_0 := NB247_256.out
      have hms46_0 := NB256_247.out
      refine skip_ (w1 := ?_) (by rfl) rfl ?_ ?_
      rotate_left
      · go_simp
        rfl
      refine hK.out _ _ ⟨((cell_far (p := ⟨gb256, _, none⟩) NB247_256.out _).trans (((cell_far (p := ⟨gb256, _, none⟩) NB247_256.out _).trans (hHeld.1)))), ((cell_far (p := ⟨gb256, _, none⟩) NB247_256.out _).trans (((cell_far (p := ⟨gb256, _, none⟩) NB247_256.out _).trans (hHeld.2))))⟩ (fun hHeld => ?_)
      clear hK K
      refine done_ (by kernel_rfl) ?_
      try go_wp2
      have n0_ : Aside0 (Kd.R k48 48 ((w43.setCell ⟨gb256, 0, none⟩ (.slice Ao44 y253.length co44)).setCell ⟨gb256, 1, none⟩ (.slice A1 l1.length c1)) wc.heap.size (fun _ => True) (.slice Ao44 y253.length co44) y253) := ⟨by (with_reducible repeat (first | apply Kd.R_alloc | apply Kd.R_drewN | apply Kd.R_drew)); exact Kd.R_mono (Kd.R_far (p := ⟨gb256, 1, none⟩) (Kd.R_far (p := ⟨gb256, 0, none⟩) (Kd.R_types HO255.out BK256.out (by decide)) (fun _ hk => hk.2) (.slice Ao44 y253.length co44)) (fun _ hk => hk.2) (.slice A1 l1.length c1)) (fun _ hk => trivial)⟩
      have n1_ : Aside0 (((w43.setCell ⟨gb256, 0, none⟩ (.slice Ao44 y253.length co44)).setCell ⟨gb256, 1, none⟩ (.slice A1 l1.length c1)).heap[w.heap.size]? = some (.cells #[.slice A0 l0.length c0, .slice A1 l1.length c1] 25 (0, 0))) := ⟨by (with_reducible repeat (first | refine blk_drewN ?_ _ | refine blk_drew ?_ | refine blk_alloc ?_ _)); refine blk_far ?_ NB247_256.out _; (with_reducible repeat (first | refine blk_drewN ?_ _ | refine blk_drew ?_ | refine blk_alloc ?_ _)); refine blk_far ?_ NB247_256.out _; (with_reducible repeat (first | refine blk_drewN ?_ _ | refine blk_drew ?_ | refine blk_alloc ?_ _)); exact BK247.out⟩
      have n2_ : Aside0 (((w43.setCell ⟨gb256, 0, none⟩ (.slice Ao44 y253.length co44)).setCell ⟨gb256, 1, none⟩ (.slice A1 l1.length c1)).heap[gb256]? = some (.cells #[.slice Ao44 y253.length co44, .slice A1 l1.length c1] 25 (0, 0))) := ⟨by (with_reducible repeat (first | refine blk_drewN ?_ _ | refine blk_drew ?_ | refine blk_alloc ?_ _)); refine blk_put (cs := #[.slice Ao44 y253.length co44, .slice none 0 0]) ?_ 1 _ rfl; (with_reducible repeat (first | refine blk_drewN ?_ _ | refine blk_drew ?_ | refine blk_alloc ?_ _)); refine blk_put (cs := #[.slice none 0 0, .slice none 0 0]) ?_ 0 _ rfl; (with_reducible repeat (first | refine blk_drewN ?_ _ | refine blk_drew ?_ | refine blk_alloc ?_ _)); exact BK256.out⟩
      have n3_ : Aside0 (Below wc.heap.size wc ((w43.setCell ⟨gb256, 0, none⟩ (.slice Ao44 y253.length co44)).setCell ⟨gb256, 1, none⟩ (.slice A1 l1.length c1))) := ⟨by repeat (first | (with_reducible first | exact HB.out | apply below_alloc | apply pw_below_drewN | apply below_drew1 | refine below_set ?_ GE247.out | refine below_set ?_ GE256.out) | exact HB.out)⟩
      (try clear HO255)
      (try clear BK247)
      (try clear BK256)
      (try clear HB)
      generalize ((w43.setCell ⟨gb256, 0, none⟩ (.slice Ao44 y253.length co44)).setCell ⟨gb256, 1, none⟩ (.slice A1 l1.length c1)) = w47 at n0_ n1_ n2_ n3_ ⊢
      have HO255 := n0_
      have BK247 := n1_
      have BK256 := n2_
      have HB := n3_
      clear n0_ n1_ n2_ n3_
      obtain rfl : y253 = l0 := by rw [Ny253.out, Ny250.out]; rfl
      clear hHeld hs45 hfs45 hns45_0 hms45_0 hs46 hfs46 hns46_0 hms46_0 hS_ cp0 cp1 Ny250 Ny253 LMc31
      go_loopw [10] (fun v wr => ∃ i : Nat, i ≤ y253.length ∧ v = .int .i64 i ∧ Aside0 (k48.R 48 wr wc.heap.size (fun _ => True) (.slice Ao44 y253.length co44) (wid y253 i)) ∧ Aside0 (wr.heap[gb256]? = some (.cells #[.slice Ao44 y253.length co44, .slice A1 l1.length c1] 25 (0, 0))) ∧ Aside0 (Below wc.heap.size wc wr)) (fun v _ => y253.length - (intOf v).toNat)
      case atStart => exact ⟨0, Nat.zero_le _, rfl, ⟨by rw [wid_zero]; exact HO255.out⟩, BK256, HB⟩
      case round =>
        obtain ⟨i, hi, rfl, HRr, HQr, HBr⟩ := hrel
        clear HO255 BK256 BK247 HB
        have cq0 : wr.cell? ⟨gb256, 0, none⟩ = some (.slice Ao44 y253.length co44) := (blk_cell HQr.out 0).trans rfl
        have cq1 : wr.cell? ⟨gb256, 1, none⟩ = some (.slice A1 l1.length c1) := (blk_cell HQr.out 1).trans rfl
        by_cases hlt : i < y253.length
        · have hwl := wid_length y253 i
          have hli : (i : Int) < (y253.length : Int) := by omega
          obtain ⟨go, co, eo, gb, gl, cl_, HG⟩ := Kd.R_form HRr.out (by omega)
          rw [hwl] at eo
          cases eo
          obtain ⟨ce, hcl, hM, hcc, hfr⟩ := Kd.R_elem HRr.out z48 (i : Int) (by omega) (by omega)
          rw [Int.toNat_natCast, wid_at y253 hlt] at hM
          obtain ⟨it, hit⟩ : ∃ s, s = y253.getD i z48 := ⟨_, rfl⟩
          rw [← hit] at hM
          obtain rfl := k48_openM hM
          rw [Int.toNat_natCast] at hcc hfr
          have hx2 : wr.cell? ⟨go, i * 7 + 2, none⟩ = some (.int .i64 it.f2) := hcc 2 _ rfl
          have HIT := Aside0.mk hit
          have HCC := Aside0.mk hcc
          have HFR := Aside0.mk hfr
          have HM := Aside0.mk hM
          clear hcc hfr hit hM hcl
          by_cases hj : it.f2 < 0
          · go_wp2
            go_roundw
            case rel =>
              rw [HIT.out] at hj
              exact ⟨i + 1, by omega, by go_num, ⟨by rw [wid_same y253 hlt hj]; exact HRr.out⟩, HQr, HBr⟩
            case measure => simp [intOf]; omega
          · have hj0 : 0 ≤ it.f2 := by omega
            go_wp2
            have hx3 : wr.cell? ⟨go, i * 7 + 3, none⟩ = some (.int .i64 it.f3) := HCC.out 3 _ rfl
            have hx4 : wr.cell? ⟨go, i * 7 + 4, none⟩ = some (.int .i64 it.f4) := HCC.out 4 _ rfl
            have hf3 : wr.frozen? ⟨go, i * 7 + 3, none⟩ = false := HFR.out 3
            have hf4 : wr.frozen? ⟨go, i * 7 + 4, none⟩ = false := HFR.out 4
            have hgne : gb256 ≠ go := by have h_ := Kd.R_ne HRr.out HQr.out (by decide); intro e_; exact h_ (by rw [e_]; rfl)
            refine start_ (n := 12) (S := fun w' => w'.cell? ⟨gb256, 0, none⟩ = some (.slice (some ⟨go, 0, none⟩) y253.length co44)) (ds := [11]) #[false, false, false, false, false, false, false, false, false, false, false, false] (by kernel_rfl) rfl rfl cq0 (fun hHeld => ?_)
            refine pure_ (i := 0) (N := some 83) (v := ?_) (a' := ?_) #[true, false, false, false, false, false, false, false, false, false, false, false] rfl rfl (by kernel_rfl) (fun _ _ _ h => h) (Or.inl ⟨by rfl, ?_⟩) ?_ ?_
            rotate_left
            · intro w'
              go_simp
              with_reducible rfl
            rotate_left
            · simp only [Act.put, List.setIfInBounds_toArray, List.set_cons_zero, List.set_cons_succ, i64_w, i32_w]
              rfl
            refine take_ (i := 1) (N := some 84) (v := ?_) (a' := ?_) #[true, true, false, false, false, false, false, false, false, false, false, false] rfl rfl (by kernel_rfl) (fun _ _ _ h => h) (Or.inl ⟨by rfl, ?_⟩) hHeld ?_ ?_
            rotate_left
            · rintro w' s0
              go_simp
              with_reducible rfl
            rotate_left
            · simp only [Act.put, List.setIfInBounds_toArray, List.set_cons_zero, List.set_cons_succ, i64_w, i32_w]
              rfl
            refine pure_ (i := 2) (N := some 85) (v := ?_) (a' := ?_) #[true, true, true, false, false, false, false, false, false, false, false, false] rfl rfl (by kernel_rfl) (fun _ _ _ h => h) (Or.inl ⟨by rfl, ?_⟩) ?_ ?_
            rotate_left
            · intro w'
              go_simp
              with_reducible rfl
            rotate_left
            · simp only [Act.put, List.setIfInBounds_toArray, List.set_cons_zero, List.set_cons_succ, i64_w, i32_w]
              rfl
            refine pure_ (i := 3) (N := some 86) (v := ?_) (a' := ?_) #[true, true, true, true, false, false, false, false, false, false, false, false] rfl rfl (by kernel_rfl) (fun _ _ _ h => h) (Or.inl ⟨by rfl, ?_⟩) ?_ ?_
            rotate_left
            · intro w'
              go_simp
              with_reducible rfl
            rotate_left
            · simp only [Act.put, List.setIfInBounds_toArray, List.set_cons_zero, List.set_cons_succ, i64_w, i32_w]
              rfl
            refine take_ (i := 4) (N := some 87) (v := ?_) (a' := ?_) #[true, true, true, true, true, false, false, false, false, false, false, false] rfl rfl (by kernel_rfl) (fun _ _ _ h => h) (Or.inl ⟨by rfl, ?_⟩) hHeld ?_ ?_
            rotate_left
            · rintro w' s0
              go_simp
              with_reducible rfl
            rotate_left
            · simp only [Act.put, List.setIfInBounds_toArray, List.set_cons_zero, List.set_cons_succ, i64_w, i32_w]
              rfl
            refine pure_ (i := 5) (N := some 88) (v := ?_) (a' := ?_) #[true, true, true, true, true, true, false, false, false, false, false, false] rfl rfl (by kernel_rfl) (fun _ _ _ h => h) (Or.inl ⟨by rfl, ?_⟩) ?_ ?_
            rotate_left
            · intro w'
              go_simp
              with_reducible rfl
            rotate_left
            · simp only [Act.put, List.setIfInBounds_toArray, List.set_cons_zero, List.set_cons_succ, i64_w, i32_w]
              rfl
            refine pure_ (i := 6) (N := some 89) (v := ?_) (a' := ?_) #[true, true, true, true, true, true, true, false, false, false, false, false] rfl rfl (by kernel_rfl) (fun _ _ _ h => h) (Or.inl ⟨by rfl, ?_⟩) ?_ ?_
            rotate_left
            · intro w'
              go_simp
              with_reducible rfl
            rotate_left
            · simp only [Act.put, List.setIfInBounds_toArray, List.set_cons_zero, List.set_cons_succ, i64_w, i32_w]
              rfl
            refine pure_ (i := 7) (N := some 90) (v := ?_) (a' := ?_) #[true, true, true, true, true, true, true, true, false, false, false, false] rfl rfl (by kernel_rfl) (fun _ _ _ h => h) (Or.inl ⟨by rfl, ?_⟩) ?_ ?_
            rotate_left
            · intro w'
              go_simp
              with_reducible rfl
            rotate_left
            · simp only [Act.put, List.setIfInBounds_toArray, List.set_cons_zero, List.set_cons_succ, i64_w, i32_w]
              rfl
            refine one_ (i := 8) (N := none) #[true, true, true, true, true, true, true, true, true, false, false, false] rfl rfl (by kernel_rfl) (by decide) (fun K hK => ?_)
            refine skip_ (w1 := ?_) (by rfl) rfl ?_ ?_
            rotate_left
            · go_simp
              rfl
            refine hK.out _ _ (by (first | exact hNEXT_ | exact (cell_far (p := ⟨go, _, none⟩) hgne _).trans hHeld | (trace_state; fail))) (fun hHeld => ?_)
            clear hK K
            refine pure_ (i := 9) (N := some 91) (v := ?_) (a' := ?_) #[true, true, true, true, true, true, true, true, true, true, false, false] rfl rfl (by kernel_rfl) (fun _ _ _ h => h) (Or.inl ⟨by rfl, ?_⟩) ?_ ?_
            rotate_left
            · intro w'
              go_simp
              with_reducible rfl
            rotate_left
            · simp only [Act.put, List.setIfInBounds_toArray, List.set_cons_zero, List.set_cons_succ, i64_w, i32_w]
              rfl
            refine pure_ (i := 10) (N := some 92) (v := ?_) (a' := ?_) #[true, true, true, true, true, true, true, true, true, true, true, false] rfl rfl (by kernel_rfl) (fun _ _ _ h => h) (Or.inl ⟨by rfl, ?_⟩) ?_ ?_
            rotate_left
            · intro w'
              go_simp
              with_reducible rfl
            rotate_left
            · simp only [Act.put, List.setIfInBounds_toArray, List.set_cons_zero, List.set_cons_succ, i64_w, i32_w]
              rfl
            refine last_ (i := 11) (N := none) #[true, true, true, true, true, true, true, true, true, true, true, true] rfl rfl (by kernel_rfl) (by decide) (fun K hK => ?_)
            refine skip_ (w1 := ?_) (by rfl) rfl ?_ ?_
            rotate_left
            · go_simp
              rfl
            refine hK.out _ _ ?_
            clear hK K
            refine done_ (by kernel_rfl) ?_
            have HR1 : Aside0 (k48.R 48 (((wr.setCell ⟨go, i * 7 + 3, none⟩ (.int .i64 (-16777216))).setCell ⟨go, i * 7 + 4, none⟩ (.int .i64 16777216)).drew) wc.heap.size (fun _ => True) (.slice (some ⟨go, 0, none⟩) y253.length co44) ((wid y253 i).set i ⟨it.f0, it.f1, it.f2, -16777216, 16777216, it.f5, it.f6⟩)) := ⟨Kd.R_drew (row_two HRr.out hlt it _ (by rw [wid_at y253 hlt]; exact HIT.out.symm) (-16777216) 16777216 3 (Or.inl ⟨rfl, rfl⟩))⟩
            have HQ1 : Aside0 ((((wr.setCell ⟨go, i * 7 + 3, none⟩ (.int .i64 (-16777216))).setCell ⟨go, i * 7 + 4, none⟩ (.int .i64 16777216)).drew).heap[gb256]? = some (.cells #[.slice (some ⟨go, 0, none⟩) y253.length co44, .slice A1 l1.length c1] 25 (0, 0))) := ⟨blk_drew (blk_far (blk_far HQr.out hgne _) hgne _)⟩
            have HB1 : Aside0 (Below wc.heap.size wc (((wr.setCell ⟨go, i * 7 + 3, none⟩ (.int .i64 (-16777216))).setCell ⟨go, i * 7 + 4, none⟩ (.int .i64 16777216)).drew)) := ⟨below_drew1 (below_set (below_set HBr.out gb) gb)⟩
            clear hHeld hx3 hx4 hf3 hf4 hx2 cq0 cq1 HCC HFR HM HRr HQr HBr HG gl
            generalize (((wr.setCell ⟨go, i * 7 + 3, none⟩ (.int .i64 (-16777216))).setCell ⟨go, i * 7 + 4, none⟩ (.int .i64 16777216)).drew) = W1 at HR1 HQ1 HB1 ⊢
            have hw1 : ((wid y253 i).set i (⟨it.f0, it.f1, it.f2, -16777216, 16777216, it.f5, it.f6⟩ : S48)).getD i z48 = ⟨it.f0, it.f1, it.f2, -16777216, 16777216, it.f5, it.f6⟩ := by rw [List.getD_eq_getElem?_getD, List.getElem?_set_self (by rw [hwl]; exact hlt)]; rfl
            obtain ⟨ce, hcl, hM, hcc, hfr⟩ := Kd.R_elem HR1.out z48 (i : Int) (by omega) (by omega)
            rw [Int.toNat_natCast, hw1] at hM
            obtain rfl := k48_openM hM
            rw [Int.toNat_natCast] at hcc hfr
            have HW1 := Aside0.mk hw1
            have hx5 : W1.cell? ⟨go, i * 7 + 5, none⟩ = some (.int .i64 it.f5) := hcc 5 _ rfl
            have hx6 : W1.cell? ⟨go, i * 7 + 6, none⟩ = some (.int .i64 it.f6) := hcc 6 _ rfl
            have hf5 : W1.frozen? ⟨go, i * 7 + 5, none⟩ = false := hfr 5
            have hf6 : W1.frozen? ⟨go, i * 7 + 6, none⟩ = false := hfr 6
            have cq0 : W1.cell? ⟨gb256, 0, none⟩ = some (.slice (some ⟨go, 0, none⟩) y253.length co44) := (blk_cell HQ1.out 0).trans rfl
            clear hcc hfr hM hcl hw1
            go_wp2
            refine start_ (n := 12) (S := fun w' => w'.cell? ⟨gb256, 0, none⟩ = some (.slice (some ⟨go, 0, none⟩) y253.length co44)) (ds := [11]) #[false, false, false, false, false, false, false, false, false, false, false, false] (by kernel_rfl) rfl rfl cq0 (fun hHeld => ?_)
            refine pure_ (i := 0) (N := some 93) (v := ?_) (a' := ?_) #[true, false, false, false, false, false, false, false, false, false, false, false] rfl rfl (by kernel_rfl) (fun _ _ _ h => h) (Or.inl ⟨by rfl, ?_⟩) ?_ ?_
            rotate_left
            · intro w'
              go_simp
              with_reducible rfl
            rotate_left
            · simp only [Act.put, List.setIfInBounds_toArray, List.set_cons_zero, List.set_cons_succ, i64_w, i32_w]
              rfl
            refine take_ (i := 1) (N := some 94) (v := ?_) (a' := ?_) #[true, true, false, false, false, false, false, false, false, false, false, false] rfl rfl (by kernel_rfl) (fun _ _ _ h => h) (Or.inl ⟨by rfl, ?_⟩) hHeld ?_ ?_
            rotate_left
            · rintro w' s0
              go_simp
              with_reducible rfl
            rotate_left
            · simp only [Act.put, List.setIfInBounds_toArray, List.set_cons_zero, List.set_cons_succ, i64_w, i32_w]
              rfl
            refine pure_ (i := 2) (N := some 95) (v := ?_) (a' := ?_) #[true, true, true, false, false, false, false, false, false, false, false, false] rfl rfl (by kernel_rfl) (fun _ _ _ h => h) (Or.inl ⟨by rfl, ?_⟩) ?_ ?_
            rotate_left
            · intro w'
              go_simp
              with_reducible rfl
            rotate_left
            · simp only [Act.put, List.setIfInBounds_toArray, List.set_cons_zero, List.set_cons_succ, i64_w, i32_w]
              rfl
            refine pure_ (i := 3) (N := some 96) (v := ?_) (a' := ?_) #[true, true, true, true, false, false, false, false, false, false, false, false] rfl rfl (by kernel_rfl) (fun _ _ _ h => h) (Or.inl ⟨by rfl, ?_⟩) ?_ ?_
            rotate_left
            · intro w'
              go_simp
              with_reducible rfl
            rotate_left
            · simp only [Act.put, List.setIfInBounds_toArray, List.set_cons_zero, List.set_cons_succ, i64_w, i32_w]
              rfl
            refine take_ (i := 4) (N := some 97) (v := ?_) (a' := ?_) #[true, true, true, true, true, false, false, false, false, false, false, false] rfl rfl (by kernel_rfl) (fun _ _ _ h => h) (Or.inl ⟨by rfl, ?_⟩) hHeld ?_ ?_
            rotate_left
            · rintro w' s0
              go_simp
              with_reducible rfl
            rotate_left
            · simp only [Act.put, List.setIfInBounds_toArray, List.set_cons_zero, List.set_cons_succ, i64_w, i32_w]
              rfl
            refine pure_ (i := 5) (N := some 98) (v := ?_) (a' := ?_) #[true, true, true, true, true, true, false, false, false, false, false, false] rfl rfl (by kernel_rfl) (fun _ _ _ h => h) (Or.inl ⟨by rfl, ?_⟩) ?_ ?_
            rotate_left
            · intro w'
              go_simp
              with_reducible rfl
            rotate_left
            · simp only [Act.put, List.setIfInBounds_toArray, List.set_cons_zero, List.set_cons_succ, i64_w, i32_w]
              rfl
            refine pure_ (i := 6) (N := some 99) (v := ?_) (a' := ?_) #[true, true, true, true, true, true, true, false, false, false, false, false] rfl rfl (by kernel_rfl) (fun _ _ _ h => h) (Or.inl ⟨by rfl, ?_⟩) ?_ ?_
            rotate_left
            · intro w'
              go_simp
              with_reducible rfl
            rotate_left
            · simp only [Act.put, List.setIfInBounds_toArray, List.set_cons_zero, List.set_cons_succ, i64_w, i32_w]
              rfl
            refine pure_ (i := 7) (N := some 100) (v := ?_) (a' := ?_) #[true, true, true, true, true, true, true, true, false, false, false, false] rfl rfl (by kernel_rfl) (fun _ _ _ h => h) (Or.inl ⟨by rfl, ?_⟩) ?_ ?_
            rotate_left
            · intro w'
              go_simp
              with_reducible rfl
            rotate_left
            · simp only [Act.put, List.setIfInBounds_toArray, List.set_cons_zero, List.set_cons_succ, i64_w, i32_w]
              rfl
            refine one_ (i := 8) (N := none) #[true, true, true, true, true, true, true, true, true, false, false, false] rfl rfl (by kernel_rfl) (by decide) (fun K hK => ?_)
            refine skip_ (w1 := ?_) (by rfl) rfl ?_ ?_
            rotate_left
            · go_simp
              rfl
            refine hK.out _ _ (by (first | exact hNEXT_ | exact (cell_far (p := ⟨go, _, none⟩) hgne _).trans hHeld | (trace_state; fail))) (fun hHeld => ?_)
            clear hK K
            refine pure_ (i := 9) (N := some 101) (v := ?_) (a' := ?_) #[true, true, true, true, true, true, true, true, true, true, false, false] rfl rfl (by kernel_rfl) (fun _ _ _ h => h) (Or.inl ⟨by rfl, ?_⟩) ?_ ?_
            rotate_left
            · intro w'
              go_simp
              with_reducible rfl
            rotate_left
            · simp only [Act.put, List.setIfInBounds_toArray, List.set_cons_zero, List.set_cons_succ, i64_w, i32_w]
              rfl
            refine pure_ (i := 10) (N := some 102) (v := ?_) (a' := ?_) #[true, true, true, true, true, true, true, true, true, true, true, false] rfl rfl (by kernel_rfl) (fun _ _ _ h => h) (Or.inl ⟨by rfl, ?_⟩) ?_ ?_
            rotate_left
            · intro w'
              go_simp
              with_reducible rfl
            rotate_left
            · simp only [Act.put, List.setIfInBounds_toArray, List.set_cons_zero, List.set_cons_succ, i64_w, i32_w]
              rfl
            refine last_ (i := 11) (N := none) #[true, true, true, true, true, true, true, true, true, true, true, true] rfl rfl (by kernel_rfl) (by decide) (fun K hK => ?_)
            refine skip_ (w1 := ?_) (by rfl) rfl ?_ ?_
            rotate_left
            · go_simp
              rfl
            refine hK.out _ _ ?_
            clear hK K
            refine done_ (by kernel_rfl) ?_
            have HR2 : Aside0 (k48.R 48 (((W1.setCell ⟨go, i * 7 + 5, none⟩ (.int .i64 (-16777216))).setCell ⟨go, i * 7 + 6, none⟩ (.int .i64 16777216)).drew) wc.heap.size (fun _ => True) (.slice (some ⟨go, 0, none⟩) y253.length co44) (wid y253 (i + 1))) := ⟨by
              have h_ := Kd.R_drew (row_two HR1.out hlt _ (⟨it.f0, it.f1, it.f2, -16777216, 16777216, -16777216, 16777216⟩ : S48) HW1.out (-16777216) 16777216 5 (Or.inr ⟨rfl, rfl⟩))
              rw [List.set_set, show (⟨it.f0, it.f1, it.f2, -16777216, 16777216, -16777216, 16777216⟩ : S48) = widen (y253.getD i z48) from by rw [← HIT.out]; unfold widen; rw [if_pos hj], wid_succ y253 hlt] at h_
              exact h_⟩
            have HQ2 : Aside0 ((((W1.setCell ⟨go, i * 7 + 5, none⟩ (.int .i64 (-16777216))).setCell ⟨go, i * 7 + 6, none⟩ (.int .i64 16777216)).drew).heap[gb256]? = some (.cells #[.slice (some ⟨go, 0, none⟩) y253.length co44, .slice A1 l1.length c1] 25 (0, 0))) := ⟨blk_drew (blk_far (blk_far HQ1.out hgne _) hgne _)⟩
            have HB2 : Aside0 (Below wc.heap.size wc (((W1.setCell ⟨go, i * 7 + 5, none⟩ (.int .i64 (-16777216))).setCell ⟨go, i * 7 + 6, none⟩ (.int .i64 16777216)).drew)) := ⟨below_drew1 (below_set (below_set HB1.out gb) gb)⟩
            clear hHeld hx5 hx6 hf5 hf6 cq0 HR1 HQ1 HB1 HW1
            generalize (((W1.setCell ⟨go, i * 7 + 5, none⟩ (.int .i64 (-16777216))).setCell ⟨go, i * 7 + 6, none⟩ (.int .i64 16777216)).drew) = W2 at HR2 HQ2 HB2 ⊢
            go_wp2
            go_roundw
            case rel => exact ⟨i + 1, by omega, by go_num, HR2, HQ2, HB2⟩
            case measure => simp [intOf]; omega
        · obtain rfl : i = y253.length := by omega
          rw [wid_all] at HRr
          obtain ⟨ks2, hks2⟩ := (evn_SameBools (shortL (y253.map widen)) (shortL y253) (by rw [shortL_len]; simp; exact HLE.out.1)).rounds
          have e1 : shortL (y253.map widen) = shortL y253 := by simp [shortL]
          rw [e1, decide_eq_true rfl] at hks2
          have HSO2 := Aside0.mk (relax_Solve.calls 0 Ao44 co44 (y253.map widen) A1 c1 l1 (shortL (y253.map widen)) 0 wr (by have h_ := (Kd.R_reads' HRr.out).2.2; exact h_) (by have h_ := (Kd.R_reads' HRr.out).2.1; simpa using h_) (Kd.C_below HRc1.out HBr.out) hc1.out (by rw [← solve_widen HV.out]; exact solve_f (by simp; exact HLE.out.1) HLE.out.2 0))
          rw [e1, List.length_map] at HSO2
          clear e1
          go_wp2_with (first | (fail))
          go_at_call 21
          with_reducible refine HSO2.out.mono ?_
          clear HSO2
          rintro e w6 ⟨v, rfl, rv2, hb6⟩
          obtain ⟨Am, cm, rfl, hcm⟩ := Kd.Q_slice (Kd.Q_of_R rv2)
          have HB6 := Aside0.mk (HBr.out.trans (hb6.mono HBr.out.size))
          have HSB2 := Aside0.mk (retargetref40_SameBools.calls ks2 Am cm (shortL y253) As cs (shortL y253) true w6 (Kd.R_reads' rv2).2.2 hcm (Kd.R_reads' (Kd.R_below HRSc.out HB6.out)).2.2 (by rw [shortL_len]; exact HCS.out) hks2)
          rw [shortL_len] at HSB2 ⊢
          clear hb6 rv2 hcm cq0 cq1
          go_wp2_with (first | (go_at_call 20; with_reducible refine HSB2.out.mono ?_; rintro e w7 ⟨rfl, ⟨nd, rfl⟩⟩))
          go_ret
          exact ⟨rfl, HBc.out.trans ((pw_below_drewN HB6.out _).mono HBc.out.size)⟩
  · rw [if_neg hv] at hks
    have HST := Aside0.mk (relax_Stable.calls ks A0 c0 l0 A1 c1 l1 As cs (shortL l0) _ _ w3 (Kd.C_below hr0.out HB3.out) hc0.out (Kd.C_below hr1.out HB3.out) hc1.out HSC.out (by rw [shortL_len]; exact HCS.out) hks)
    rw [shortL_len] at HST
    with_reducible refine HST.out.mono ?_
    clear HST hks
    rintro e w4 ⟨rfl, hb4⟩
    have HBK4 := Aside0.mk (blk_below HBK3.out hb4)
    have HB4 := Aside0.mk (HB3.out.trans (hb4.mono HB3.out.size))
    have HR4 := Aside0.mk (Kd.R_below HRS.out hb4)
    clear hb4 cp0 cp1 HBK3 HRS HSC
    have cp0 : w4.cell? ⟨w.heap.size, 0, none⟩ = some (.slice A0 l0.length c0) := (blk_cell HBK4.out 0).trans rfl
    have cp1 : w4.cell? ⟨w.heap.size, 1, none⟩ = some (.slice A1 l1.length c1) := (blk_cell HBK4.out 1).trans rfl
    have HSO := Aside0.mk (relax_Solve.calls 0 A0 c0 l0 A1 c1 l1 (solveS l0 l1).1 (solveS l0 l1).2 w4 (Kd.C_below hr0.out HB4.out) hc0.out (Kd.C_below hr1.out HB4.out) hc1.out (solve_f HLE.out.1 HLE.out.2 0))
    have e8 : solveS l0 l1 = ([], 8) := by unfold solveS; rw [if_neg hv]
    rw [e8] at HSO
    clear e8 hv
    go_wp2_with (first | (fail))
    go_at_call 21
    with_reducible refine HSO.out.mono ?_
    rintro e w5 ⟨v, rfl, rv, hb5⟩
    obtain ⟨Al, cl, rfl, hcl⟩ := Kd.Q_slice (Kd.Q_of_R rv)
    clear rv hcl cp0 cp1
    go_wp2
    go_ret
    exact ⟨rfl, HB4.out.trans (hb5.mono HB4.out.size)⟩
