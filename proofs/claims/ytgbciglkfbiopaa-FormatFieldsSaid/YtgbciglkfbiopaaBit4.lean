/- Plain law for package format's layouts: Places, Mask, Get and Put answer (program and reference), by the bits at places. -/
import Derived.Test.YtgbciglkfbiopaaBit3
import Derived.Test.YtgbciglkfbiopaaQx13
import Derived.Test.YtgbciglkfbiopaaQx14
namespace Go.Proofs.Ytgbciglkfbiopaa.Q
open Go.RowKit Go.Proofs.YtgbciglkfbiopaaW.PrintWords Go.Proofs.YtgbciglkfbiopaaW.PrintLast Go.Proofs.YtgbciglkfbiopaaW.PrintMore
set_option linter.unusedVariables false
set_option linter.unusedSimpArgs false

/-! ### The reference's loops -/
theorem evn_refCheck (size : Int) (l : List S41) : Ev (fun k => retargetref09_Check.f k size l) (chkS size l) := by
  unfold retargetref09_Check.f chkS
  simp only [in_f, Option.bind_some]
  by_cases h : 1 ≤ size ∧ size ≤ 64
  · simp only [decide_eq_true h, if_true, if_pos h]
    by_cases h4 : (l.length : Int) > 4
    · simp only [if_pos h4]; exact Ev.now _
    · simp only [if_neg h4]
      exact evn_refCheck_l0 h.1 h.2 l (by omega) l.length 0 (by omega) (V_nil size)
  · simp only [decide_eq_false h, if_neg h, Bool.false_eq_true, if_false]
    exact Ev.now _
def toI (l : List Nat) : List Int := l.map Int.ofNat
theorem toI_rd (l : List Nat) (i : Nat) (h : i < l.length) : rd (toI l) (i : Int) = ((l.getD i 0 : Nat) : Int) := by
  unfold rd toI
  rw [Int.toNat_natCast, List.getD_eq_getElem?_getD, List.getElem?_map, List.getD_eq_getElem?_getD, List.getElem?_eq_getElem h]
  rfl
theorem toI_len (l : List Nat) : (toI l).length = l.length := by simp [toI]
theorem w64m {x : Int} (h : -1000000 ≤ x) (h' : x ≤ 1000000) : wrap64 x = x := by unfold wrap64; omega
theorem evn_Places_l1 {size : Int} (hs : size ≤ 64) (l : List S41) (hv : V size l) (hl : l.length ≤ 4) (i : Nat) (hi : i < l.length) (p : S41) (hp : l.getD i z41 = p)
    (h' : Ev (fun k => retargetref09_Places.l0 k l (toI (plN (l.take (i + 1)))) ((i + 1 : Nat) : Int)) (toI (plN l))) : ∀ (d m : Nat), m + d = p.f1.toNat →
    Ev (fun k => retargetref09_Places.l1 k l (toI (plN (l.take i) ++ List.range' p.f0.toNat m)) (i : Int) (m : Int)) (toI (plN l))
  | 0, m, e => by
    have hw := hv.1 p (by rw [← hp, List.getD_eq_getElem?_getD, List.getElem?_eq_getElem hi]; exact List.getElem_mem hi)
    obtain ⟨⟨h1, h2⟩, h3, h4⟩ := hw
    refine Ev.step (f := fun k => retargetref09_Places.l0 k l (toI (plN (l.take (i + 1)))) ((i + 1 : Nat) : Int)) (fun k => ?_) h'
    simp only [retargetref09_Places.l1]
    rw [if_pos (by omega), if_pos (by omega), rd41_at, hp, if_neg (by omega), w64m (by omega) (by omega), take_snoc hi, hp, plN_app, plN_one]
    have em : m = p.f1.toNat := by omega
    subst em
    rfl
  | d + 1, m, e => by
    have ih := evn_Places_l1 hs l hv hl i hi p hp h' d (m + 1) (by omega)
    have hw := hv.1 p (by rw [← hp, List.getD_eq_getElem?_getD, List.getElem?_eq_getElem hi]; exact List.getElem_mem hi)
    obtain ⟨⟨h1, h2⟩, h3, h4⟩ := hw
    refine Ev.step (f := fun k => retargetref09_Places.l1 k l (toI (plN (l.take i) ++ List.range' p.f0.toNat (m + 1))) (i : Int) ((m + 1 : Nat) : Int)) (fun k => ?_) ih
    simp only [retargetref09_Places.l1]
    have hlen : (plN (l.take i)).length ≤ 64 := V_len hs (V_pre (b := l.drop i) (by rw [List.take_append_drop]; exact hv))
    rw [if_pos (by omega), if_pos (by omega), rd41_at, hp, if_pos (by omega), if_pos (by rw [toI_len, List.length_append, List.length_range']; omega), w64m (x := (m : Int) + 1) (by omega) (by omega), w64m (by omega) (by omega)]
    congr 1
    rw [List.range'_1_concat]
    simp only [toI, List.map_append, List.map_cons, List.map_nil, ← List.append_assoc]
    congr 2
    show p.f0 + (m : Int) = ((p.f0.toNat + m : Nat) : Int)
    omega
theorem evn_Places_l0 {size : Int} (hs : size ≤ 64) (l : List S41) (hv : V size l) (hl : l.length ≤ 4) : ∀ (n i : Nat), i + n = l.length →
    Ev (fun k => retargetref09_Places.l0 k l (toI (plN (l.take i))) (i : Int)) (toI (plN l))
  | 0, i, e => by
    refine Ev.step (f := fun k => some (toI (plN l))) (fun k => ?_) (Ev.now _)
    simp only [retargetref09_Places.l0]
    rw [if_neg (by omega), List.take_of_length_le (by omega)]
  | n + 1, i, e => by
    have ih := evn_Places_l0 hs l hv hl n (i + 1) (by omega)
    have := evn_Places_l1 hs l hv hl i (by omega) _ rfl ih (l.getD i z41).f1.toNat 0 (Nat.zero_add _)
    refine Ev.step (f := fun k => retargetref09_Places.l1 k l (toI (plN (l.take i))) (i : Int) 0) (fun k => ?_) ?_
    · simp only [retargetref09_Places.l0]
      rw [if_pos (by omega)]
    · simpa using this
theorem evn_Places {size : Int} (hs : size ≤ 64) {l : List S41} (hv : V size l) (hl : l.length ≤ 4) : Ev (fun k => retargetref09_Places.f k l) (toI (plN l)) := by
  unfold retargetref09_Places.f
  exact evn_Places_l0 hs l hv hl l.length 0 (by omega)
theorem evn_value_l0 (p : Nat) (hp : p < 64) : ∀ (d i : Nat), i + d = p → Ev (fun k => retargetref09_value.l0 k (p : Int) ((2 ^ i : Nat) : Int) (i : Int)) ((2 ^ p : Nat) : Int)
  | 0, i, e => by
    obtain rfl : i = p := by omega
    refine Ev.step (f := fun k => some ((2 ^ i : Nat) : Int)) (fun k => ?_) (Ev.now _)
    simp only [retargetref09_value.l0]
    rw [if_neg (by omega)]
  | d + 1, i, e => by
    refine Ev.step (f := fun k => retargetref09_value.l0 k (p : Int) ((2 ^ (i + 1) : Nat) : Int) ((i + 1 : Nat) : Int)) (fun k => ?_) (evn_value_l0 p hp d (i + 1) (by omega))
    simp only [retargetref09_value.l0]
    have hlt : 2 ^ (i + 1) < 18446744073709551616 := Nat.pow_lt_pow_right (a := 2) (m := i + 1) (n := 64) (by decide) (by omega)
    rw [if_pos (by omega), w64m (by omega) (by omega), show (2 : Int) * ((2 ^ i : Nat) : Int) = ((2 ^ (i + 1) : Nat) : Int) from by rw [Nat.pow_succ, Nat.mul_comm, Int.natCast_mul]; rfl, w_u64 hlt]
    rfl
theorem evn_value {p : Nat} (hp : p < 64) : Ev (fun k => retargetref09_value.f k (p : Int)) ((2 ^ p : Nat) : Int) := by
  unfold retargetref09_value.f
  exact evn_value_l0 p hp p 0 (by omega)
theorem evn_Bit_l0 (p : Nat) (hp : p < 64) (x : Nat) (hx : x < 18446744073709551616) : ∀ (d i : Nat), i + d = p → Ev (fun k => retargetref08_Bit.l0 k ((x / 2 ^ i : Nat) : Int) (p : Int) (i : Int)) ((x / 2 ^ p % 2 : Nat) : Int)
  | 0, i, e => by
    obtain rfl : i = p := by omega
    refine Ev.step (f := fun k => some ((x / 2 ^ i % 2 : Nat) : Int)) (fun k => ?_) (Ev.now _)
    simp only [retargetref08_Bit.l0]
    obtain ⟨y, hy⟩ : ∃ y, y = x / 2 ^ i := ⟨_, rfl⟩
    rw [if_neg (by omega), ← hy, Int.tmod_eq_emod_of_nonneg (by omega), w64m (by omega) (by omega)]
    rfl
  | d + 1, i, e => by
    refine Ev.step (f := fun k => retargetref08_Bit.l0 k ((x / 2 ^ (i + 1) : Nat) : Int) (p : Int) ((i + 1 : Nat) : Int)) (fun k => ?_) (evn_Bit_l0 p hp x hx d (i + 1) (by omega))
    simp only [retargetref08_Bit.l0]
    rw [Nat.pow_succ, ← Nat.div_div_eq_div_mul]
    have hy' : x / 2 ^ i ≤ x := Nat.div_le_self _ _
    obtain ⟨y, hy⟩ : ∃ y, y = x / 2 ^ i := ⟨_, rfl⟩
    rw [← hy] at hy' ⊢
    rw [if_pos (by omega), Int.tdiv_eq_ediv_of_nonneg (by omega), w64m (by omega) (by omega), show (y : Int) / 2 = ((y / 2 : Nat) : Int) from (Int.natCast_ediv _ _).symm, w_u64 (by omega)]
    rfl
theorem evn_Bit {p x : Nat} (hp : p < 64) (hx : x < 18446744073709551616) : Ev (fun k => retargetref08_Bit.f k (x : Int) (p : Int)) ((x / 2 ^ p % 2 : Nat) : Int) := by
  unfold retargetref08_Bit.f
  have := evn_Bit_l0 p hp x hx p 0 (by omega)
  simpa using this
theorem getD_mem {pl : List Nat} {i : Nat} (h : i < pl.length) : pl.getD i 0 ∈ pl := by
  rw [List.getD_eq_getElem?_getD, List.getElem?_eq_getElem h]; exact List.getElem_mem h
theorem nodup_take {pl : List Nat} (hn : pl.Nodup) {i : Nat} (h : i < pl.length) : pl.getD i 0 ∉ pl.take i := by
  have h1 : (pl.take (i + 1)).Nodup := (List.take_sublist _ _).nodup hn
  rw [take_snocN h, List.nodup_append] at h1
  exact fun hm => h1.2.2 _ hm _ (by simp) rfl
theorem mem_take {pl : List Nat} {i j : Nat} (h : j ∈ pl.take i) : j ∈ pl := (List.take_sublist _ _).subset h
theorem orM_snoc {a : List Nat} {p : Nat} (h : p ∉ a) : orM a + 2 ^ p = orM (a ++ [p]) := by
  refine Nat.eq_of_testBit_eq fun j => ?_
  rw [add_bit (by rw [orM_bit]; exact decide_eq_false h), orM_bit, orM_bit]
  simp
theorem evn_refMask_l0 (pl : List Nat) (hn : pl.Nodup) (h64 : ∀ j ∈ pl, j < 64) (hl : pl.length ≤ 64) : ∀ (n i : Nat), i + n = pl.length →
    Ev (fun k => retargetref09_Mask.l0 k (toI pl) (orM (pl.take i) : Int) (i : Int)) ((orM pl : Int), 0)
  | 0, i, e => by
    refine Ev.step (f := fun k => some ((orM pl : Int), 0)) (fun k => ?_) (Ev.now _)
    simp only [retargetref09_Mask.l0]
    rw [if_neg (by rw [toI_len]; omega), List.take_of_length_le (by omega)]
  | n + 1, i, e => by
    have hi : i < pl.length := by omega
    have ih := evn_refMask_l0 pl hn h64 hl n (i + 1) (by omega)
    have hsum := orM_snoc (nodup_take hn hi)
    rw [← take_snocN hi] at hsum
    have hlt : orM (pl.take (i + 1)) < 18446744073709551616 := orM64 fun j hj => h64 j (mem_take hj)
    refine Ev.step (f := fun k => (retargetref09_value.f k ((pl.getD i 0 : Nat) : Int)).bind fun t => retargetref09_Mask.l0 k (toI pl) (IntKind.u64.wrap ((orM (pl.take i) : Int) + t)) ((i + 1 : Nat) : Int)) (fun k => ?_) ?_
    · simp only [retargetref09_Mask.l0]
      rw [if_pos (by rw [toI_len]; omega), if_pos (by omega), toI_rd _ _ hi, w64m (by omega) (by omega)]
      rfl
    · refine Ev.bind (evn_value (h64 _ (getD_mem hi))) ?_
      rw [show ((orM (pl.take i) : Nat) : Int) + ((2 ^ pl.getD i 0 : Nat) : Int) = ((orM (pl.take (i + 1)) : Nat) : Int) from by rw [← hsum]; simp, w_u64 hlt]
      exact ih
def maskR (size : Int) (l : List S41) : Int × Int := if chkS size l = 0 then ((orM (plN l) : Int), 0) else (0, chkS size l)
theorem evn_refMask (size : Int) (l : List S41) : Ev (fun k => retargetref09_Mask.f k size l) (maskR size l) := by
  unfold retargetref09_Mask.f maskR
  refine Ev.bind (evn_refCheck size l) ?_
  by_cases h : chkS size l = 0
  · simp only [if_pos h]
    obtain ⟨hs, hl, hv⟩ := chkS_zero.1 h
    refine Ev.bind (evn_Places hs.2 hv hl) ?_
    exact evn_refMask_l0 _ hv.2 (V_64 hs.2 hv) (V_len hs.2 hv) (plN l).length 0 (Nat.zero_add _)
  · simp only [if_neg h]
    exact Ev.now _
theorem evn_refGet_l0 (x : Nat) (hx : x < 18446744073709551616) (pl : List Nat) (h64 : ∀ j ∈ pl, j < 64) (hl : pl.length ≤ 64) : ∀ (n i : Nat), i + n = pl.length →
    Ev (fun k => retargetref09_Get.l0 k (x : Int) (toI pl) (getS x (pl.take i) : Int) (i : Int)) ((getS x pl : Int), 0)
  | 0, i, e => by
    refine Ev.step (f := fun k => some ((getS x pl : Int), 0)) (fun k => ?_) (Ev.now _)
    simp only [retargetref09_Get.l0]
    rw [if_neg (by rw [toI_len]; omega), List.take_of_length_le (by omega)]
  | n + 1, i, e => by
    have hi : i < pl.length := by omega
    have ih := evn_refGet_l0 x hx pl h64 hl n (i + 1) (by omega)
    have hp := h64 _ (getD_mem hi)
    have hsum : getS x (pl.take (i + 1)) = getS x (pl.take i) + 2 ^ i * (x / 2 ^ pl.getD i 0 % 2) := by
      rw [take_snocN hi, getS_app, List.length_take, Nat.min_eq_left (Nat.le_of_lt hi)]
      simp [getS]
    have hlt : getS x (pl.take (i + 1)) < 18446744073709551616 := Nat.lt_of_lt_of_le (getS_lt _ _) (show _ ≤ 2 ^ 64 from Nat.pow_le_pow_right (by decide) (by rw [List.length_take]; omega))
    obtain ⟨b, hb⟩ : ∃ b, b = x / 2 ^ pl.getD i 0 % 2 := ⟨_, rfl⟩
    have hB := evn_Bit hp hx
    rw [← hb] at hsum hB
    refine Ev.step (f := fun k => (retargetref08_Bit.f k (x : Int) ((pl.getD i 0 : Nat) : Int)).bind fun t => if t = 1 then (retargetref09_value.f k (i : Int)).bind fun t2 => retargetref09_Get.l0 k (x : Int) (toI pl) (IntKind.u64.wrap ((getS x (pl.take i) : Int) + t2)) ((i + 1 : Nat) : Int) else retargetref09_Get.l0 k (x : Int) (toI pl) (getS x (pl.take i) : Int) ((i + 1 : Nat) : Int)) (fun k => ?_) ?_
    · simp only [retargetref09_Get.l0]
      rw [if_pos (by rw [toI_len]; omega), if_pos (by omega), toI_rd _ _ hi, w64m (by omega) (by omega)]
      rfl
    · refine Ev.bind hB ?_
      have hb2 : b < 2 := by rw [hb]; exact Nat.mod_lt _ (by decide)
      have hb01 : b = 0 ∨ b = 1 := by omega
      rcases hb01 with rfl | rfl
      · simp only [show ¬ (((0 : Nat) : Int) = 1) by decide, if_false]
        rw [Nat.mul_zero, Nat.add_zero] at hsum
        rw [hsum] at ih
        exact ih
      · simp only [show ((1 : Nat) : Int) = 1 from rfl, if_true]
        refine Ev.bind (evn_value (p := i) (by omega)) ?_
        rw [Nat.mul_one] at hsum
        rw [show ((getS x (pl.take i) : Nat) : Int) + ((2 ^ i : Nat) : Int) = ((getS x (pl.take (i + 1)) : Nat) : Int) from by rw [hsum]; simp, w_u64 hlt]
        exact ih
def getR (size word : Int) (l : List S41) : Int × Int := if chkS size l = 0 then (if word < pw size then ((getS word.toNat (plN l) : Int), 0) else (0, 24)) else (0, chkS size l)
theorem evn_refGet (size word : Int) (l : List S41) (h0 : 0 ≤ word) (h1 : word ≤ 18446744073709551615) : Ev (fun k => retargetref09_Get.f k size word l) (getR size word l) := by
  unfold retargetref09_Get.f getR
  refine Ev.bind (evn_refCheck size l) ?_
  by_cases h : chkS size l = 0
  · simp only [if_pos h]
    obtain ⟨hs, hl, hv⟩ := chkS_zero.1 h
    refine Ev.bind (evn_below h0 h1 (by omega) hs.2) ?_
    by_cases hw : word < pw size
    · simp only [decide_eq_true hw, Bool.not_true, if_pos hw]
      refine Ev.step (f := fun k => retargetref09_Get.j1 k word l 0) (fun k => by simp only [retargetref09_Get.j0]; rw [if_neg (by decide), h]) ?_
      refine Ev.step (f := fun k => (retargetref09_Places.f k l).bind fun t => retargetref09_Get.l0 k word t 0 0) (fun k => by simp only [retargetref09_Get.j1]; rfl) ?_
      refine Ev.bind (evn_Places hs.2 hv hl) ?_
      have := evn_refGet_l0 word.toNat (by omega) (plN l) (V_64 hs.2 hv) (V_len hs.2 hv) (plN l).length 0 (Nat.zero_add _)
      rw [Int.toNat_of_nonneg h0] at this
      exact this
    · simp only [decide_eq_false hw, Bool.not_false, if_neg hw]
      refine Ev.step (f := fun k => retargetref09_Get.j1 k word l 24) (fun k => by simp only [retargetref09_Get.j0]; rfl) ?_
      exact Ev.step (f := fun k => some (0, 24)) (fun k => by simp only [retargetref09_Get.j1]; rfl) (Ev.now _)
  · simp only [if_neg h]
    refine Ev.step (f := fun k => retargetref09_Get.j1 k word l (chkS size l)) (fun k => by simp only [retargetref09_Get.j0]; rfl) ?_
    exact Ev.step (f := fun k => some (0, chkS size l)) (fun k => by simp only [retargetref09_Get.j1]; rw [if_neg h]) (Ev.now _)
/-! ### Put -/
theorem putN_nil (w x : Nat) (hw : w < 18446744073709551616) : putN w x [] = w := by
  refine Nat.eq_of_testBit_eq fun j => ?_
  rw [putN_bit hw (by simp)]
  simp
/-- One place more: its bit is the field's next. -/
theorem putN_snoc {w x v : Nat} {a : List Nat} {p : Nat} (hw : w < 18446744073709551616) (h64 : ∀ j ∈ a ++ [p], j < 64) (h : p ∉ a)
    (hv : ∀ j, v.testBit j = if j = p then x.testBit a.length else (putN w x a).testBit j) : v = putN w x (a ++ [p]) := by
  refine Nat.eq_of_testBit_eq fun j => ?_
  rw [hv, putN_bit hw h64, putN_bit hw (fun j hj => h64 j (by simp [hj]))]
  by_cases e : j = p
  · subst e
    rw [if_pos rfl, if_pos (by simp), orF_app, Nat.testBit_or, orF_off j a x h, Bool.false_or, orF_head _ _ _ (by simp)]
    rw [Nat.testBit_div_two_pow, Nat.zero_add]
  · rw [if_neg e]
    by_cases ha : j ∈ a
    · rw [if_pos ha, if_pos (by simp [ha]), orF_app, Nat.testBit_or, orF_off j [p] _ (by simp [e]), Bool.or_false]
    · rw [if_neg ha, if_neg (by simp [ha, e])]
theorem evn_refPut_l0 (w x : Nat) (hw : w < 18446744073709551616) (hx : x < 18446744073709551616) (pl : List Nat) (hn : pl.Nodup) (h64 : ∀ j ∈ pl, j < 64) (hl : pl.length ≤ 64) : ∀ (n i : Nat), i + n = pl.length →
    Ev (fun k => retargetref09_Put.l0 k (putN w x (pl.take i) : Int) (x : Int) (toI pl) (i : Int)) ((putN w x pl : Int), 0)
  | 0, i, e => by
    refine Ev.step (f := fun k => some ((putN w x pl : Int), 0)) (fun k => ?_) (Ev.now _)
    simp only [retargetref09_Put.l0]
    rw [if_neg (by rw [toI_len]; omega), List.take_of_length_le (by omega)]
  | n + 1, i, e => by
    have hi : i < pl.length := by omega
    have ih := evn_refPut_l0 w x hw hx pl hn h64 hl n (i + 1) (by omega)
    obtain ⟨p, hpe⟩ : ∃ p, p = pl.getD i 0 := ⟨_, rfl⟩
    have hp : p < 64 := by rw [hpe]; exact h64 _ (getD_mem hi)
    have hno : p ∉ pl.take i := by rw [hpe]; exact nodup_take hn hi
    have h64i : ∀ j ∈ pl.take i ++ [p], j < 64 := by rw [hpe, ← take_snocN hi]; exact fun j hj => h64 j (mem_take hj)
    have ets : pl.take (i + 1) = pl.take i ++ [p] := by rw [hpe]; exact take_snocN hi
    have elen : (pl.take i).length = i := by rw [List.length_take]; omega
    obtain ⟨v, hv⟩ : ∃ v, v = putN w x (pl.take i) := ⟨_, rfl⟩
    have hvlt : v < 18446744073709551616 := by rw [hv]; exact putN_lt (n := 64) (by decide) hw fun j hj => h64 j (mem_take hj)
    have hlast : ∀ u : Nat, (∀ j, u.testBit j = if j = p then x.testBit i else v.testBit j) → u = putN w x (pl.take (i + 1)) := fun u hu => by
      rw [ets]
      exact putN_snoc hw h64i hno (by rw [elen, ← hv]; exact hu)
    -- behind the clearing: u
    have hj3 : ∀ u : Nat, u < 18446744073709551616 → u.testBit p = false → (∀ j, j ≠ p → u.testBit j = v.testBit j) → Ev (fun k => retargetref09_Put.j3 k (u : Int) (x : Int) (toI pl) (i : Int)) ((putN w x pl : Int), 0) := by
      intro u hu hup huj
      have hB := evn_Bit (p := i) (x := x) (by omega) hx
      have hbt := bit_div x i
      obtain ⟨b, hb⟩ : ∃ b, b = x / 2 ^ i % 2 := ⟨_, rfl⟩
      rw [← hb] at hB hbt
      refine Ev.step (f := fun k => (retargetref08_Bit.f k (x : Int) (i : Int)).bind fun t => if t = 1 then (retargetref09_value.f k (p : Int)).bind fun t2 => retargetref09_Put.l0 k (IntKind.u64.wrap ((u : Int) + t2)) (x : Int) (toI pl) ((i + 1 : Nat) : Int) else retargetref09_Put.l0 k (u : Int) (x : Int) (toI pl) ((i + 1 : Nat) : Int)) (fun k => ?_) ?_
      · simp only [retargetref09_Put.j3]
        rw [if_pos (by omega), if_pos (by rw [toI_len]; omega), toI_rd _ _ hi, ← hpe, w64m (by omega) (by omega)]
        rfl
      · refine Ev.bind hB ?_
        cases hxb : x.testBit i with
        | false =>
          rw [hxb] at hbt
          have e0 : b = 0 := hbt
          subst e0
          simp only [show ¬ (((0 : Nat) : Int) = 1) by decide, if_false]
          have := hlast u (fun j => by
            by_cases e : j = p
            · rw [if_pos e, e, hup, hxb]
            · rw [if_neg e, huj j e])
          rw [this]
          exact ih
        | true =>
          rw [hxb] at hbt
          have e1 : b = 1 := hbt
          subst e1
          simp only [show ((1 : Nat) : Int) = 1 from rfl, if_true]
          refine Ev.bind (evn_value hp) ?_
          have := hlast (u + 2 ^ p) (fun j => by
            rw [add_bit hup]
            by_cases e : j = p
            · rw [if_pos e, hxb]; simp [e]
            · rw [if_neg e, huj j e]; simp [e])
          have hlt : u + 2 ^ p < 18446744073709551616 := by
            rw [this]
            exact putN_lt (n := 64) (by decide) hw fun j hj => h64 j (mem_take hj)
          rw [show ((u : Nat) : Int) + ((2 ^ p : Nat) : Int) = ((u + 2 ^ p : Nat) : Int) from by simp, w_u64 hlt, this]
          exact ih
    rw [← hv]
    have hB := evn_Bit (p := p) (x := v) hp hvlt
    have hbt := bit_div v p
    obtain ⟨b, hb⟩ : ∃ b, b = v / 2 ^ p % 2 := ⟨_, rfl⟩
    rw [← hb] at hB hbt
    refine Ev.step (f := fun k => (retargetref08_Bit.f k (v : Int) (p : Int)).bind fun t => if t = 1 then (retargetref09_value.f k (p : Int)).bind fun t2 => retargetref09_Put.j3 k (IntKind.u64.wrap ((v : Int) - t2)) (x : Int) (toI pl) (i : Int) else retargetref09_Put.j3 k (v : Int) (x : Int) (toI pl) (i : Int)) (fun k => ?_) ?_
    · simp only [retargetref09_Put.l0]
      rw [if_pos (by rw [toI_len]; omega), if_pos (by omega), toI_rd _ _ hi, ← hpe]
    · refine Ev.bind hB ?_
      cases hvb : v.testBit p with
      | false =>
        rw [hvb] at hbt
        have e0 : b = 0 := hbt
        subst e0
        simp only [show ¬ (((0 : Nat) : Int) = 1) by decide, if_false]
        exact hj3 v hvlt hvb (fun _ _ => rfl)
      | true =>
        rw [hvb] at hbt
        have e1 : b = 1 := hbt
        subst e1
        simp only [show ((1 : Nat) : Int) = 1 from rfl, if_true]
        refine Ev.bind (evn_value hp) ?_
        obtain ⟨hle, hs⟩ := sub_bit hvb
        rw [show ((v : Nat) : Int) - ((2 ^ p : Nat) : Int) = ((v - 2 ^ p : Nat) : Int) from (Int.ofNat_sub hle).symm, w_u64 (Nat.lt_of_le_of_lt (Nat.sub_le _ _) hvlt)]
        exact hj3 (v - 2 ^ p) (Nat.lt_of_le_of_lt (Nat.sub_le _ _) hvlt) (by rw [hs]; simp) (fun j e => by rw [hs]; simp [e])
def putR (size word : Int) (l : List S41) (field : Int) : Int × Int := if chkS size l = 0 then (if word < pw size ∧ field < pw ((plN l).length : Int) then ((putN word.toNat field.toNat (plN l) : Int), 0) else (0, 24)) else (0, chkS size l)
theorem evn_refPut (size word : Int) (l : List S41) (field : Int) (h0 : 0 ≤ word) (h1 : word ≤ 18446744073709551615) (k0 : 0 ≤ field) (k1 : field ≤ 18446744073709551615) : Ev (fun k => retargetref09_Put.f k size word l field) (putR size word l field) := by
  unfold retargetref09_Put.f putR
  refine Ev.bind (evn_refCheck size l) ?_
  by_cases h : chkS size l = 0
  · simp only [if_pos h]
    obtain ⟨hs, hl, hv⟩ := chkS_zero.1 h
    have off : Ev (fun k => retargetref09_Put.j0 k word l field (chkS size l) true) (0, 24) := by
      refine Ev.step (f := fun k => retargetref09_Put.j1 k word l field 24) (fun k => by simp only [retargetref09_Put.j0]; rfl) ?_
      exact Ev.step (f := fun k => some (0, 24)) (fun k => by simp only [retargetref09_Put.j1]; rfl) (Ev.now _)
    refine Ev.bind (evn_below h0 h1 (by omega) hs.2) ?_
    by_cases hw : word < pw size
    · simp only [decide_eq_true hw, if_true]
      refine Ev.bind (evn_Places hs.2 hv hl) ?_
      refine Ev.bind (evn_below k0 k1 (by omega) (by rw [toI_len]; have := V_len hs.2 hv; omega)) ?_
      rw [toI_len]
      by_cases hf : field < pw ((plN l).length : Int)
      · rw [decide_eq_true hf, if_pos ⟨hw, hf⟩, Bool.not_true]
        refine Ev.step (f := fun k => retargetref09_Put.j1 k word l field 0) (fun k => by simp only [retargetref09_Put.j0]; rw [if_neg (by decide), h]) ?_
        refine Ev.step (f := fun k => (retargetref09_Places.f k l).bind fun t => retargetref09_Put.l0 k word field t 0) (fun k => by simp only [retargetref09_Put.j1]; rfl) ?_
        refine Ev.bind (evn_Places hs.2 hv hl) ?_
        have := evn_refPut_l0 word.toNat field.toNat (by omega) (by omega) (plN l) hv.2 (V_64 hs.2 hv) (V_len hs.2 hv) (plN l).length 0 (Nat.zero_add _)
        rw [List.take_zero, putN_nil _ _ (by omega), Int.toNat_of_nonneg h0, Int.toNat_of_nonneg k0] at this
        exact this
      · rw [decide_eq_false hf, if_neg (fun c => hf c.2), Bool.not_false]
        exact off
    · simp only [decide_eq_false hw, Bool.false_eq_true, if_false]
      rw [if_neg (fun c => hw c.1)]
      exact off
  · simp only [if_neg h]
    refine Ev.step (f := fun k => retargetref09_Put.j1 k word l field (chkS size l)) (fun k => by simp only [retargetref09_Put.j0]; rfl) ?_
    exact Ev.step (f := fun k => some (0, chkS size l)) (fun k => by simp only [retargetref09_Put.j1]; rw [if_neg h]) (Ev.now _)
end Go.Proofs.Ytgbciglkfbiopaa.Q
