/- RelaxReaches: the walk, for the answer true. -/
import Derived.Test.YtclmipjoebbeiaaNumL
import Derived.Test.YtclmipjoebbeiaaQx31
import Derived.Test.YtclmipjoebbeiaaQx8
namespace Go.Proofs.Ytclmipjoebbeiaa.Q
open Go.RowKit Go.Proofs.YtclmipjoebbeiaaW.PrintWords Go.Proofs.YtclmipjoebbeiaaW.PrintLast Go.Proofs.YtclmipjoebbeiaaW.PrintMore
set_option linter.unusedVariables false
set_option linter.unusedSimpArgs false
attribute [local go_sem] Oper.semAt_some

set_option maxRecDepth 100000 in
set_option maxHeartbeats 4000000 in
theorem retargetlaw40_RelaxReaches.walk (A0 : Option Addr) (c0 : Nat) (l0 : List S48) (A1 : Option Addr) (c1 : Nat) (l1 : List Int) (w : World)
    (hr0' : k48.C w A0 l0.length l0) (hc0' : l0.length ≤ c0) (hr1' : (Kd.int .i64).C w A1 l1.length l1) (hc1' : l1.length ≤ c1) :
    Calls Try.prog 6 #[.agg #[.slice A0 l0.length c0, .slice A1 l1.length c1]] w fun e w' => e = .returned (.bool true) ∧ Below w.heap.size w w' := by
  have hr0 := Aside0.mk hr0'
  have hr1 := Aside0.mk hr1'
  have hc0 := Aside0.mk hc0'
  have hc1 := Aside0.mk hc1'
  clear hr0' hr1' hc0' hc1'
  go_enter Try.func6, Try.ntmps6
  go_wp2_with (first | (fail))
  go_at_call 23
  with_reducible refine (alive_ok _).mono ?_
  rintro e w1 ⟨rfl, hb1⟩
  have HBK := Aside0.mk (blk_below (blk_new w (.cells #[.slice A0 l0.length c0, .slice A1 l1.length c1] 25)) hb1)
  have HB1 := Aside0.mk (((Below.refl w.heap.size w).alloc (Nat.le_refl _) (.cells #[.slice A0 l0.length c0, .slice A1 l1.length c1] 25)).trans (hb1.mono (by simp)))
  clear hb1
  have cp0 : w1.cell? ⟨w.heap.size, 0, none⟩ = some (.slice A0 l0.length c0) := (blk_cell HBK.out 0).trans rfl
  have cp1 : w1.cell? ⟨w.heap.size, 1, none⟩ = some (.slice A1 l1.length c1) := (blk_cell HBK.out 1).trans rfl
  have HG := Aside0.mk (retargetref40_Great.calls A0 c0 l0 A1 c1 l1 _ w1 (Kd.C_below hr0.out HB1.out) hc0.out (Kd.C_below hr1.out HB1.out) hc1.out (great_f l0 l1))
  go_wp2_with (first | (fail))
  go_at_call 12
  with_reducible refine HG.out.mono ?_
  clear HG
  rintro e w2 ⟨rfl, hb2⟩
  have HBK2 := Aside0.mk (blk_below HBK.out hb2)
  have HB2 := Aside0.mk (HB1.out.trans (hb2.mono HB1.out.size))
  clear hb2 cp0 cp1
  have cp0 : w2.cell? ⟨w.heap.size, 0, none⟩ = some (.slice A0 l0.length c0) := (blk_cell HBK2.out 0).trans rfl
  have cp1 : w2.cell? ⟨w.heap.size, 1, none⟩ = some (.slice A1 l1.length c1) := (blk_cell HBK2.out 1).trans rfl
  clear HBK HB1
  by_cases hg : Gr l0 l1
  · rw [decide_eq_true hg]
    go_wp2
    go_ret
    exact ⟨rfl, HB2.out⟩
  rw [decide_eq_false hg]
  obtain ⟨hle0, hle1⟩ := not_gr hg
  have HLE := Aside0.mk (show l0.length ≤ 100000 ∧ l1.length ≤ 100000 from ⟨by omega, by omega⟩)
  clear hg
  have HSO := Aside0.mk (relax_Solve.calls 0 A0 c0 l0 A1 c1 l1 (solveS l0 l1).1 (solveS l0 l1).2 w2 (Kd.C_below hr0.out HB2.out) hc0.out (Kd.C_below hr1.out HB2.out) hc1.out (solve_f HLE.out.1 HLE.out.2 0))
  go_wp2_with (first | (fail))
  go_at_call 21
  have HC := Aside0.mk (solveS_cases l0 l1)
  rcases HC.out with ⟨hv, e, hL⟩ | ⟨hv, e, hL⟩ | ⟨hv, e⟩
  · rw [e] at HSO
    have HV := Aside0.mk hv
    have HL := Aside0.mk hL
    clear hv e hL HC
    with_reducible refine HSO.out.mono ?_
    clear HSO
    rintro e w3 ⟨v, rfl, rv, hb3⟩
    obtain ⟨Al, cl, rfl, hcl⟩ := Kd.Q_slice (Kd.Q_of_R rv)
    obtain ⟨I, hS⟩ := Q.leastOf_spec HV.out
    have hlen := I.len
    obtain ⟨ls, hls⟩ : ∃ l, l = Q.leastOf l0 l1 := ⟨_, rfl⟩
    rw [← hls] at rv hcl hlen I hS ⊢
    have hLL := HL.out
    rw [← hls] at hLL
    have HI := Aside0.mk I
    have HS := Aside0.mk hS
    have HLL := Aside0.mk ((longAll_iff l0 l1 ls l0.length 0).1 hLL)
    have HRV := Aside0.mk rv
    have HCL := Aside0.mk hcl
    have HBK3 := Aside0.mk (blk_below HBK2.out hb3)
    have HB3 := Aside0.mk (HB2.out.trans (hb3.mono HB2.out.size))
    clear cp0 cp1 hb3 I hS hLL rv hcl hls HL
    have cp0 : w3.cell? ⟨w.heap.size, 0, none⟩ = some (.slice A0 l0.length c0) := (blk_cell HBK3.out 0).trans rfl
    have cp1 : w3.cell? ⟨w.heap.size, 1, none⟩ = some (.slice A1 l1.length c1) := (blk_cell HBK3.out 1).trans rfl
    obtain ⟨kp, hkp⟩ := (evn_Places (long := ls) HLE.out.1 HLE.out.2 (by rw [hlen]; exact HLE.out.1)).rounds
    have ep : placesS l0 l1 ls = (placesOf l0 ls, 0) := by unfold placesS; rw [if_pos (choice_of HV.out hlen HI.out.only)]
    rw [ep] at hkp
    have HP := Aside0.mk (relax_Places.calls kp A0 c0 l0 A1 c1 l1 Al cl ls (placesOf l0 ls) 0 w3 (Kd.C_below hr0.out HB3.out) hc0.out (Kd.C_below hr1.out HB3.out) hc1.out (Kd.R_reads' HRV.out).2.2 HCL.out hkp)
    rw [hlen] at HP
    have HLEN := Aside0.mk hlen
    clear hkp ep
    go_wp2_with (first | (fail))
    go_at_call 13
    with_reducible refine HP.out.mono ?_
    clear HP cp0 cp1
    rintro e w4 ⟨va, rfl, ra, hb4⟩
    obtain ⟨Aa, ca, rfl, hca, rca⟩ := Kd.R_reads ra
    obtain ⟨pl, hpl⟩ : ∃ p, p = placesOf l0 ls := ⟨_, rfl⟩
    have hpn : pl.length = l0.length + 1 := by rw [hpl]; simp [placesOf]
    rw [← hpl] at rca hca ⊢
    have HPL := Aside0.mk hpl
    have HRA := Aside0.mk rca
    have HBK4 := Aside0.mk (blk_below HBK3.out hb4)
    have HRV4 := Aside0.mk (Kd.C_below (Kd.R_reads' HRV.out).2.2 hb4)
    have HB4 := Aside0.mk (HB3.out.trans (hb4.mono HB3.out.size))
    clear ra hpl rca hca hb4 HBK3 HB3 HRV HBK2 HB2
    have cp0 : w4.cell? ⟨w.heap.size, 0, none⟩ = some (.slice A0 l0.length c0) := (blk_cell HBK4.out 0).trans rfl
    go_wp2
    go_loopw [8] (fun v wr => ∃ i : Nat, i ≤ l0.length ∧ v = .int .i64 i ∧ Below w4.heap.size w4 wr) (fun v _ => l0.length - (intOf v).toNat)
    case atStart => exact ⟨0, Nat.zero_le _, rfl, Below.refl _ _⟩
    case round =>
      obtain ⟨i, hi, rfl, hbr⟩ := hrel
      have HBR := Aside0.mk hbr
      have HBW := Aside0.mk (HB4.out.trans (hbr.mono HB4.out.size))
      have HBKR := Aside0.mk (blk_below HBK4.out hbr)
      clear cp0 hbr
      have cp0 : wr.cell? ⟨w.heap.size, 0, none⟩ = some (.slice A0 l0.length c0) := (blk_cell HBKR.out 0).trans rfl
      have cp1 : wr.cell? ⟨w.heap.size, 1, none⟩ = some (.slice A1 l1.length c1) := (blk_cell HBKR.out 1).trans rfl
      by_cases hlt : i < l0.length
      · obtain ⟨ad0, e0, hx0, hx1, hx2, hx3, hx4, hx5, hx6⟩ := at_T48 (Kd.C_below hr0.out HBW.out) (i : Int) (by omega) (by omega)
        cases e0
        obtain ⟨it, hit⟩ : ∃ s, s = rd_T48 l0 (i : Int) := ⟨_, rfl⟩
        rw [← hit] at hx0 hx1 hx2 hx3 hx4 hx5 hx6
        have HIT : Aside0 (it = l0.getD i z48) := ⟨hit.trans (by simp [rd_T48])⟩
        clear hit
        simp only [Int.toNat_natCast] at hx0 hx1 hx2 hx3 hx4 hx5 hx6
        have lt0 := cell_lt hx0
        have ltb := blk_lt HBKR.out
        have hli : (i : Int) < (l0.length : Int) := by omega
        by_cases hj : it.f2 < 0
        · go_wp2
          go_roundw
          case rel => exact ⟨i + 1, by omega, by go_num, HBR.out.alloc HBR.out.size _⟩
          case measure => simp [intOf]; omega
        · have hj1 : jumpAt l0 i = true := by unfold jumpAt; rw [← HIT.out]; exact decide_eq_true (by omega)
          obtain ⟨⟨p1, q1⟩, p2, q2⟩ := valid_jump HV.out hlt hj1
          rw [← HIT.out] at p1 q1 p2 q2
          obtain ⟨ad1, e1, hy⟩ := Kd.at_int (Kd.C_below hr1.out HBW.out) it.f2 p1 q1
          obtain ⟨tt, htt⟩ : ∃ s, s = YtclmipjoebbeiaaW.PrintWords.rd l1 it.f2 := ⟨_, rfl⟩
          rw [← htt] at p2 q2 hy
          have q2' : tt < (pl.length : Int) := by omega
          obtain ⟨ad2, e2, hz⟩ := Kd.at_int (Kd.C_below HRA.out HBR.out) tt p2 q2'
          obtain ⟨ad2', e2', hz'⟩ := Kd.at_int (Kd.C_below HRA.out HBR.out) ((i : Int) + 1) (by omega) (by omega)
          cases e1
          cases e2
          cases e2'
          obtain ⟨ad3, e3, hb⟩ := Kd.at_bool (Kd.C_below HRV4.out HBR.out) (i : Int) (by omega) (by rw [HLEN.out]; omega)
          cases e3
          obtain ⟨uu, huu⟩ : ∃ s, s = YtclmipjoebbeiaaW.PrintWords.rd pl tt := ⟨_, rfl⟩
          obtain ⟨vv, hvv⟩ : ∃ s, s = YtclmipjoebbeiaaW.PrintWords.rd pl ((i : Int) + 1) := ⟨_, rfl⟩
          obtain ⟨dd, hdd⟩ : ∃ s, s = wrap64 (uu - vv) := ⟨_, rfl⟩
          obtain ⟨bb, hbb⟩ : ∃ b, b = ls.getD i false := ⟨_, rfl⟩
          rw [← huu] at hz
          rw [← hvv] at hz'
          have hb' : wr.cell? (ad3.add i) = some (.bool bb) := by
            rw [Int.toNat_natCast] at hb
            rw [hbb, hb]; simp [rdOf]
          have ed : distOf l0 l1 (placesOf l0 ls) i = dd := by
            unfold distOf
            rw [← HPL.out, ← HIT.out, ← htt, ← huu, ← hvv, ← hdd]
          have hin : if bb = true then it.f5 ≤ dd ∧ dd ≤ it.f6 else it.f3 ≤ dd ∧ dd ≤ it.f4 := by
            cases hbv : bb with
            | true =>
              rw [if_pos rfl]
              have := HLL.out i (by omega) (by omega) (by rw [← hbb, hbv])
              unfold longOk at this
              rw [ed, ← HIT.out] at this
              exact of_decide_eq_true this
            | false =>
              rw [if_neg (by decide)]
              have := HS.out i hlt
              unfold badJ at this
              rw [hj1, ← hbb, hbv] at this
              have h2 : shortOk l0 l1 (placesOf l0 ls) i = true := by simpa using this
              unfold shortOk at h2
              rw [ed, ← HIT.out] at h2
              exact of_decide_eq_true h2
          obtain ⟨jj, hjj⟩ : ∃ j, j = (i : Int) + 1 := ⟨_, rfl⟩
          rw [← hjj] at hz'
          have hji : IntKind.i64.wrap ((i : Int) + 1) = jj := by rw [i64_w, hjj]; exact w64 (by omega) (by omega)
          have pj : 0 ≤ jj := by omega
          have qj : jj < (l0.length : Int) + 1 := by omega
          have HJJ := Aside0.mk hjj
          have hd1 : IntKind.i64.wrap (uu - vv) = dd := by rw [hdd]; exact i64_w _
          have lt1 := cell_lt hy
          have lt2 := cell_lt hz
          have lt3 := cell_lt hz'
          have lt4 := cell_lt hb'
          clear hb hdd huu hvv htt hbb ed hjj hj1
          cases bb with
          | true =>
            rw [if_pos rfl] at hin
            obtain ⟨g1, g2⟩ := hin
            go_wp2
            go_quiet (first | (fail))
            clear hji
            go_wp2
            go_roundw
            case rel => exact ⟨i + 1, by omega, by go_num, pw_below_drewN (HBR.out.alloc HBR.out.size _) _⟩
            case measure => simp [intOf]; omega
          | false =>
            rw [if_neg (by decide)] at hin
            obtain ⟨g1, g2⟩ := hin
            go_wp2
            go_quiet (first | (fail))
            clear hji
            go_wp2
            go_roundw
            case rel => exact ⟨i + 1, by omega, by go_num, pw_below_drewN (HBR.out.alloc HBR.out.size _) _⟩
            case measure => simp [intOf]; omega
      · obtain rfl : i = l0.length := by omega
        go_wp2
        go_ret
        exact ⟨rfl, HBW.out⟩
  · rw [e] at HSO
    with_reducible refine HSO.out.mono ?_
    rintro e w3 ⟨v, rfl, rv, hb3⟩
    obtain ⟨Al, cl, rfl, hcl⟩ := Kd.Q_slice (Kd.Q_of_R rv)
    go_wp2
    go_ret
    exact ⟨rfl, HB2.out.trans (hb3.mono HB2.out.size)⟩
  · rw [e] at HSO
    with_reducible refine HSO.out.mono ?_
    rintro e w3 ⟨v, rfl, rv, hb3⟩
    obtain ⟨Al, cl, rfl, hcl⟩ := Kd.Q_slice (Kd.Q_of_R rv)
    go_wp2
    go_ret
    exact ⟨rfl, HB2.out.trans (hb3.mono HB2.out.size)⟩
