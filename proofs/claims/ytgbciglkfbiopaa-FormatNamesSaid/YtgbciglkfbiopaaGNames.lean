/- FormatNames: the walk: the chapter's examples, the limits, further cases and errors; a closed computation. -/
import Derived.Test.YtgbciglkfbiopaaQx5
import Derived.Test.YtgbciglkfbiopaaQx11
import Derived.Test.YtgbciglkfbiopaaNum2
namespace Go.Proofs.Ytgbciglkfbiopaa.Q
open Go.RowKit Go.Proofs.YtgbciglkfbiopaaW.PrintWords Go.Proofs.YtgbciglkfbiopaaW.PrintLast Go.Proofs.YtgbciglkfbiopaaW.PrintMore
set_option linter.unusedVariables false
set_option linter.unusedSimpArgs false
attribute [local go_sem] Oper.semAt_some

def enc41 (x : S41) : List Value := [.int .i64 x.f0, .int .i64 x.f1]
theorem C_lit41 {w : World} {b : Nat} {xs : List S41} {cs : Array Value} (h : w.heap[b]? = some (.cells cs 41 (0, 0))) (hc : cs = (xs.flatMap enc41).toArray) (hl : xs.length ≤ 1000) : k41.C w (some ⟨b, 0, none⟩) xs.length xs := by
  refine ⟨rfl, by omega, fun _ => ⟨_, rfl, fun j p hj => ⟨enc41 p, rfl, k41_mk w p, fun i u hu => ?_⟩⟩⟩
  have hi : i < 2 := (List.getElem?_eq_some_iff.1 hu).1
  have e : (Addr.add ⟨b, 0, none⟩ (j * 2 + i)) = ⟨b, j * 2 + i, none⟩ := by unfold Addr.add; split <;> simp_all
  show w.cell? (Addr.add ⟨b, 0, none⟩ (j * 2 + i)) = some u
  rw [e, blk_cell h, hc]
  have : ∀ (xs : List S41) (j : Nat), xs[j]? = some p → (xs.flatMap enc41)[j * 2 + i]? = some u := by
    intro xs
    induction xs with
    | nil => intro j h; cases h
    | cons x xs ih =>
      intro j h
      rw [List.flatMap_cons]
      have h7 : (enc41 x).length = 2 := rfl
      cases j with
      | zero =>
        have hx : x = p := by simpa using h
        rw [List.getElem?_append_left (by rw [h7]; omega), hx]
        simpa using hu
      | succ j =>
        rw [List.getElem?_append_right (by rw [h7]; omega), h7, show (j + 1) * 2 + i - 2 = j * 2 + i by omega]
        exact ih j (by simpa using h)
  simpa using this xs j hj
theorem C_none41 (w : World) : k41.C w none 0 ([] : List S41) := ⟨rfl, by simp, fun h => absurd h (by simp)⟩
theorem mask_lit (w : World) (k : Nat) (a0 : Int) (its : List S41) (r1 r2 : Int) (cs0 : Array Value) (n : Nat) (h0 : cs0 = (its.flatMap enc41).toArray) (hn : its.length = n) (hk : format_Mask.f k a0 its = some (r1, r2)) (s0 : its.length ≤ 1000) :
    Calls Try.prog 20 #[.int .i64 a0, .slice (some ⟨w.heap.size, 0, none⟩) n n] (w.alloc (.cells cs0 41)) fun e w' => e = .returned (.tuple #[.int .u64 r1, .int .i64 r2]) ∧ Below w.heap.size w w' := by
  subst hn
  refine (format_Mask.calls k a0 _ its.length its r1 r2 _ (C_lit41 (blk_new w (.cells cs0 41)) h0 s0) (Nat.le_refl _) hk).mono ?_
  rintro e w' ⟨rfl, hb⟩
  exact ⟨rfl, below_step (below_alloc (Below.refl w.heap.size w) _) hb⟩
theorem put_lit (w : World) (k : Nat) (a0 a1 a3 : Int) (its : List S41) (r1 r2 : Int) (cs0 : Array Value) (n : Nat) (h0 : cs0 = (its.flatMap enc41).toArray) (hn : its.length = n) (hk : format_Put.f k a0 a1 its a3 = some (r1, r2)) (s0 : its.length ≤ 1000) :
    Calls Try.prog 22 #[.int .i64 a0, .int .u64 a1, .slice (some ⟨w.heap.size, 0, none⟩) n n, .int .u64 a3] (w.alloc (.cells cs0 41)) fun e w' => e = .returned (.tuple #[.int .u64 r1, .int .i64 r2]) ∧ Below w.heap.size w w' := by
  subst hn
  refine (format_Put.calls k a0 a1 _ its.length its a3 r1 r2 _ (C_lit41 (blk_new w (.cells cs0 41)) h0 s0) (Nat.le_refl _) hk).mono ?_
  rintro e w' ⟨rfl, hb⟩
  exact ⟨rfl, below_step (below_alloc (Below.refl w.heap.size w) _) hb⟩
theorem chk_lit (w : World) (k : Nat) (a0 : Int) (its : List S41) (r : Int) (cs0 : Array Value) (n : Nat) (h0 : cs0 = (its.flatMap enc41).toArray) (hn : its.length = n) (hk : format_Check.f k a0 its = some r) (s0 : its.length ≤ 1000) :
    Calls Try.prog 23 #[.int .i64 a0, .slice (some ⟨w.heap.size, 0, none⟩) n n] (w.alloc (.cells cs0 41)) fun e w' => e = .returned (.int .i64 r) ∧ Below w.heap.size w w' := by
  subst hn
  refine (format_Check.calls k a0 _ its.length its r _ (C_lit41 (blk_new w (.cells cs0 41)) h0 s0) (Nat.le_refl _) hk).mono ?_
  rintro e w' ⟨rfl, hb⟩
  exact ⟨rfl, below_step (below_alloc (Below.refl w.heap.size w) _) hb⟩
theorem chk_none (w : World) (k : Nat) (a0 : Int) (r : Int) (hk : format_Check.f k a0 [] = some r) : Calls Try.prog 23 #[.int .i64 a0, .slice none 0 0] w fun e w' => e = .returned (.int .i64 r) ∧ Below w.heap.size w w' :=
  format_Check.calls k a0 none 0 [] r w (C_none41 w) (Nat.le_refl _) hk
theorem get_none (w : World) (k : Nat) (a0 a1 r1 r2 : Int) (hk : format_Get.f k a0 a1 [] = some (r1, r2)) : Calls Try.prog 21 #[.int .i64 a0, .int .u64 a1, .slice none 0 0] w fun e w' => e = .returned (.tuple #[.int .u64 r1, .int .i64 r2]) ∧ Below w.heap.size w w' :=
  format_Get.calls k a0 a1 none 0 [] r1 r2 w (C_none41 w) (Nat.le_refl _) hk
theorem put_none (w : World) (k : Nat) (a0 a1 a3 r1 r2 : Int) (hk : format_Put.f k a0 a1 [] a3 = some (r1, r2)) : Calls Try.prog 22 #[.int .i64 a0, .int .u64 a1, .slice none 0 0, .int .u64 a3] w fun e w' => e = .returned (.tuple #[.int .u64 r1, .int .i64 r2]) ∧ Below w.heap.size w w' :=
  format_Put.calls k a0 a1 none 0 [] a3 r1 r2 w (C_none41 w) (Nat.le_refl _) hk
theorem chk_arg (w : World) (k : Nat) (a0 : Int) (A : Option Addr) (c n : Nat) (its : List S41) (r : Int) (hn : its.length = n) (hC : k41.C w A n its) (hc : n ≤ c) (hk : format_Check.f k a0 its = some r) :
    Calls Try.prog 23 #[.int .i64 a0, .slice A n c] w fun e w' => e = .returned (.int .i64 r) ∧ Below w.heap.size w w' := by
  subst hn
  exact format_Check.calls k a0 A c its r w hC hc hk
theorem nR0 : format_Range.f 60 3 32 3 = some (0, 34359738360, 0) := by decide +kernel
theorem nR1 : format_Range.f 60 4 1 0 = some (-1, 0, 0) := by decide +kernel
theorem nR2 : format_Range.f 60 1 1 0 = some (0, 0, 2) := by decide +kernel
theorem nR3 : format_Range.f 60 2 33 0 = some (0, 0, 2) := by decide +kernel
theorem nF0 : format_Field.f 60 3 4 2 61 = some (0, 24) := by decide +kernel
theorem nF1 : format_Field.f 60 3 4 2 60 = some (15, 0) := by decide +kernel
theorem nF2 : format_Field.f 60 3 4 2 64 = some (0, 24) := by decide +kernel
theorem nN0 : format_Number.f 60 2 4 0 16 = some (0, 24) := by decide +kernel
theorem nN1 : format_Number.f 60 2 4 3 8 = some (-64, 0) := by decide +kernel
theorem nT0 : format_Fit.f 60 3 0 (-1) = some (0, 24) := by decide +kernel
theorem nT1 : format_Fit.f 60 3 3 0 = some (1, 0) := by decide +kernel
theorem nT2 : format_Fit.f 60 2 0 (-1) = some (1, 0) := by decide +kernel
theorem nT3 : format_Fit.f 60 2 0 2147483648 = some (0, 24) := by decide +kernel
theorem nM : format_Mask.f 60 64 [⟨0, 64⟩] = some (18446744073709551615, 0) := by decide +kernel
theorem nG : format_Get.f 60 8 255 [] = some (0, 0) := by decide +kernel
theorem nP0 : format_Put.f 60 8 255 [] 1 = some (0, 24) := by decide +kernel
theorem nP1 : format_Put.f 60 8 256 [] 0 = some (0, 24) := by decide +kernel
theorem nP2 : format_Put.f 60 64 18446744073709551615 [⟨63, 1⟩] 0 = some (9223372036854775807, 0) := by decide +kernel
theorem nC0 : format_Check.f 60 0 [] = some 2 := by decide +kernel
theorem nC1 : format_Check.f 60 65 [] = some 2 := by decide +kernel
theorem nC2 : format_Check.f 60 8 (List.replicate 5 z41) = some 4 := by decide +kernel
theorem nC3 : format_Check.f 60 8 [⟨0, 9⟩] = some 8 := by decide +kernel
theorem nC4 : format_Check.f 60 8 [⟨0, 4⟩, ⟨3, 1⟩] = some 8 := by decide +kernel
theorem nC5 : format_Check.f 60 8 [⟨1, 0⟩] = some 8 := by decide +kernel
theorem nC6 : format_Check.f 60 8 [⟨-1, 1⟩] = some 8 := by decide +kernel
set_option maxRecDepth 100000 in
set_option maxHeartbeats 16000000 in
theorem retargetlaw09_FormatNames.walk (w : World) : Calls Try.prog 4 #[] w fun e w' => e = .returned (.bool true) ∧ Below w.heap.size w w' := by
  have HB0 := Aside0.mk (Below.refl w.heap.size w)
  go_enter Try.func4, Try.ntmps4
  go_wp2_with (first | (fail))
  go_at_call 12
  with_reducible refine (format_Range.calls 60 3 32 3 0 34359738360 0 _ nR0).mono ?_
  rintro e w1 ⟨rfl, hb1⟩
  have HB1 := Aside0.mk (below_step HB0.out hb1)
  clear hb1 HB0
  go_wp2_with (first | (fail))
  go_at_call 12
  with_reducible refine (format_Range.calls 60 4 1 0 (-1) 0 0 _ nR1).mono ?_
  rintro e w2 ⟨rfl, hb2⟩
  have HB2 := Aside0.mk (below_step HB1.out hb2)
  clear hb2 HB1
  go_wp2_with (first | (fail))
  go_at_call 12
  with_reducible refine (format_Range.calls 60 1 1 0 0 0 2 _ nR2).mono ?_
  rintro e w3 ⟨rfl, hb3⟩
  have HB3 := Aside0.mk (below_step HB2.out hb3)
  clear hb3 HB2
  go_wp2_with (first | (fail))
  go_at_call 12
  with_reducible refine (format_Range.calls 60 2 33 0 0 0 2 _ nR3).mono ?_
  rintro e w4 ⟨rfl, hb4⟩
  have HB4 := Aside0.mk (below_step HB3.out hb4)
  clear hb4 HB3
  go_wp2_with (first | (fail))
  go_at_call 14
  with_reducible refine (format_Field.calls 60 3 4 2 61 0 24 _ nF0).mono ?_
  rintro e w5 ⟨rfl, hb5⟩
  have HB5 := Aside0.mk (below_step HB4.out hb5)
  clear hb5 HB4
  go_wp2_with (first | (fail))
  go_at_call 14
  with_reducible refine (format_Field.calls 60 3 4 2 60 15 0 _ nF1).mono ?_
  rintro e w6 ⟨rfl, hb6⟩
  have HB6 := Aside0.mk (below_step HB5.out hb6)
  clear hb6 HB5
  go_wp2_with (first | (fail))
  go_at_call 14
  with_reducible refine (format_Field.calls 60 3 4 2 64 0 24 _ nF2).mono ?_
  rintro e w7 ⟨rfl, hb7⟩
  have HB7 := Aside0.mk (below_step HB6.out hb7)
  clear hb7 HB6
  go_wp2_with (first | (fail))
  go_at_call 16
  with_reducible refine (format_Number.calls 60 2 4 0 16 0 24 _ nN0).mono ?_
  rintro e w8 ⟨rfl, hb8⟩
  have HB8 := Aside0.mk (below_step HB7.out hb8)
  clear hb8 HB7
  go_wp2_with (first | (fail))
  go_at_call 16
  with_reducible refine (format_Number.calls 60 2 4 3 8 (-64) 0 _ nN1).mono ?_
  rintro e w9 ⟨rfl, hb9⟩
  have HB9 := Aside0.mk (below_step HB8.out hb9)
  clear hb9 HB8
  go_wp2_with (first | (fail))
  go_at_call 18
  with_reducible refine (format_Fit.calls 60 3 0 (-1) 0 24 _ nT0).mono ?_
  rintro e w10 ⟨rfl, hb10⟩
  have HB10 := Aside0.mk (below_step HB9.out hb10)
  clear hb10 HB9
  go_wp2_with (first | (fail))
  go_at_call 18
  with_reducible refine (format_Fit.calls 60 3 3 0 1 0 _ nT1).mono ?_
  rintro e w11 ⟨rfl, hb11⟩
  have HB11 := Aside0.mk (below_step HB10.out hb11)
  clear hb11 HB10
  go_wp2_with (first | (fail))
  go_at_call 18
  with_reducible refine (format_Fit.calls 60 2 0 (-1) 1 0 _ nT2).mono ?_
  rintro e w12 ⟨rfl, hb12⟩
  have HB12 := Aside0.mk (below_step HB11.out hb12)
  clear hb12 HB11
  go_wp2_with (first | (fail))
  go_at_call 18
  with_reducible refine (format_Fit.calls 60 2 0 2147483648 0 24 _ nT3).mono ?_
  rintro e w13 ⟨rfl, hb13⟩
  have HB13 := Aside0.mk (below_step HB12.out hb13)
  clear hb13 HB12
  go_wp2_with (first | (fail))
  go_at_call 20
  with_reducible refine (mask_lit w13 60 64 [⟨0, 64⟩] 18446744073709551615 0 _ 1 ?h0 rfl nM (by decide)).mono ?_
  case h0 => rfl
  rintro e w14 ⟨rfl, hb14⟩
  have HB14 := Aside0.mk (below_step HB13.out hb14)
  clear hb14 HB13
  go_wp2_with (first | (fail))
  go_at_call 21
  with_reducible refine (get_none w14 60 8 255 0 0 nG).mono ?_
  rintro e w15 ⟨rfl, hb15⟩
  have HB15 := Aside0.mk (below_step HB14.out hb15)
  clear hb15 HB14
  go_wp2_with (first | (fail))
  go_at_call 22
  with_reducible refine (put_none w15 60 8 255 1 0 24 nP0).mono ?_
  rintro e w16 ⟨rfl, hb16⟩
  have HB16 := Aside0.mk (below_step HB15.out hb16)
  clear hb16 HB15
  go_wp2_with (first | (fail))
  go_at_call 22
  with_reducible refine (put_none w16 60 8 256 0 0 24 nP1).mono ?_
  rintro e w17 ⟨rfl, hb17⟩
  have HB17 := Aside0.mk (below_step HB16.out hb17)
  clear hb17 HB16
  go_wp2_with (first | (fail))
  go_at_call 22
  with_reducible refine (put_lit w17 60 64 18446744073709551615 0 [⟨63, 1⟩] 9223372036854775807 0 _ 1 ?h0 rfl nP2 (by decide)).mono ?_
  case h0 => rfl
  rintro e w18 ⟨rfl, hb18⟩
  have HB18 := Aside0.mk (below_step HB17.out hb18)
  clear hb18 HB17
  go_wp2_with (first | (fail))
  go_at_call 23
  with_reducible refine (chk_none w18 60 0 2 nC0).mono ?_
  rintro e w19 ⟨rfl, hb19⟩
  have HB19 := Aside0.mk (below_step HB18.out hb19)
  clear hb19 HB18
  go_wp2_with (first | (fail))
  go_at_call 23
  with_reducible refine (chk_none w19 60 65 2 nC1).mono ?_
  rintro e w20 ⟨rfl, hb20⟩
  have HB20 := Aside0.mk (below_step HB19.out hb20)
  clear hb20 HB19
  go_wp2_with (first | ((with_reducible refine gate_dst (N := 243) rfl ?_); (refine gate_guard (by rfl) ?_; dsimp only); refine Kd.R_make k41 (w0 := w20) w20.heap.size 41 rfl rfl 42 _ _ rfl (5 : Int) rfl rfl Try.underlying42 (.agg #[.int .i64 0, .int .i64 0]) 16 info41 rfl (by decide) (by decide) z41 (ok := fun _ => True) (okp := fun _ => True) (k41_mkM _ _ _ z41) (fun _ _ => trivial) trivial (by decide) (by decide) (Below.refl _ _) (Nat.le_refl _) ?_; intro vb wb rs hbn hgn hown; obtain ⟨Ab, cb, rfl, hcb⟩ := Kd.Q_slice (Kd.Q_of_R rs); clear hgn hown))
  have hCb : k41.C wb Ab 5 (List.replicate 5 z41) := by have h_ := (Kd.R_reads' rs).2.2; rw [List.length_replicate] at h_; exact h_
  have hcb' : 5 ≤ cb := by rw [List.length_replicate] at hcb; exact hcb
  with_reducible refine (chk_arg _ 60 8 _ cb 5 (List.replicate 5 z41) 4 (by rw [List.length_replicate]) hCb hcb' nC2).mono ?_
  rintro e w21 ⟨rfl, hb21⟩
  have HB21 := Aside0.mk (below_step (below_step HB20.out hbn) hb21)
  clear hb21 HB20 hbn rs hcb hcb' hCb
  go_wp2_with (first | (fail))
  go_at_call 23
  with_reducible refine (chk_lit w21 60 8 [⟨0, 9⟩] 8 _ 1 ?h0 rfl nC3 (by decide)).mono ?_
  case h0 => rfl
  rintro e w22 ⟨rfl, hb22⟩
  have HB22 := Aside0.mk (below_step HB21.out hb22)
  clear hb22 HB21
  go_wp2_with (first | (fail))
  go_at_call 23
  with_reducible refine (chk_lit w22 60 8 [⟨0, 4⟩, ⟨3, 1⟩] 8 _ 2 ?h0 rfl nC4 (by decide)).mono ?_
  case h0 => rfl
  rintro e w23 ⟨rfl, hb23⟩
  have HB23 := Aside0.mk (below_step HB22.out hb23)
  clear hb23 HB22
  go_wp2_with (first | (fail))
  go_at_call 23
  with_reducible refine (chk_lit w23 60 8 [⟨1, 0⟩] 8 _ 1 ?h0 rfl nC5 (by decide)).mono ?_
  case h0 => rfl
  rintro e w24 ⟨rfl, hb24⟩
  have HB24 := Aside0.mk (below_step HB23.out hb24)
  clear hb24 HB23
  go_wp2_with (first | (fail))
  go_at_call 23
  with_reducible refine (chk_lit w24 60 8 [⟨-1, 1⟩] 8 _ 1 ?h0 rfl nC6 (by decide)).mono ?_
  case h0 => rfl
  rintro e w25 ⟨rfl, hb25⟩
  have HB25 := Aside0.mk (below_step HB24.out hb25)
  clear hb25 HB24
  go_wp2_with (first | (fail))
  go_at_call 24
  with_reducible refine (retargetlaw09_alive.calls 50 true _ alive_now).mono ?_
  rintro e w26 ⟨rfl, hb26⟩
  have HB26 := Aside0.mk (below_step HB25.out hb26)
  clear hb26 HB25
  go_wp2
  go_ret
  exact ⟨rfl, HB26.out⟩
