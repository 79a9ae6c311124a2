/- Plain law of bits: the bits at a list of places: got, put, their mask and their number; in natural numbers. -/
import Derived.Test.YtgbciglkfbiopaaIter
import Derived.Lib.BitFns
namespace Go.Proofs.Ytgbciglkfbiopaa.Q
open Go.RowKit
set_option linter.unusedVariables false
set_option linter.unusedSimpArgs false

/-! ### Bits at places -/
def getS (w : Nat) : List Nat → Nat
  | [] => 0
  | p :: pl => w / 2 ^ p % 2 + 2 * getS w pl
def orM : List Nat → Nat
  | [] => 0
  | p :: pl => 2 ^ p ||| orM pl
def orF (x : Nat) : List Nat → Nat
  | [] => 0
  | p :: pl => (x % 2) * 2 ^ p ||| orF (x / 2) pl
/-- A word's bits at the places taken out, a field's put in. -/
def putN (w x : Nat) (pl : List Nat) : Nat := (w &&& (18446744073709551615 - orM pl)) ||| orF x pl

theorem bit_div (w p : Nat) : w / 2 ^ p % 2 = (w.testBit p).toNat := by
  rw [Nat.testBit_eq_decide_div_mod_eq]
  have := Nat.mod_two_eq_zero_or_one (w / 2 ^ p)
  rcases this with h | h <;> rw [h] <;> rfl
theorem getS_lt (w : Nat) : ∀ pl : List Nat, getS w pl < 2 ^ pl.length
  | [] => by simp [getS]
  | p :: pl => by
    have := getS_lt w pl
    have h2 : w / 2 ^ p % 2 < 2 := Nat.mod_lt _ (by decide)
    simp only [getS, List.length_cons, Nat.pow_succ]
    omega
theorem getS_app (w : Nat) : ∀ a b : List Nat, getS w (a ++ b) = getS w a + 2 ^ a.length * getS w b
  | [], b => by simp [getS]
  | p :: a, b => by
    simp only [List.cons_append, getS, getS_app w a b, List.length_cons, Nat.pow_succ]
    rw [Nat.mul_add, ← Nat.add_assoc, Nat.mul_comm (2 ^ a.length) 2, Nat.mul_assoc]
theorem getS_range (w : Nat) : ∀ n p : Nat, getS w (List.range' p n) = w / 2 ^ p % 2 ^ n
  | 0, p => by simp [getS, Nat.mod_one]
  | n + 1, p => by
    simp only [List.range'_succ, getS, getS_range w n (p + 1)]
    rw [show 2 ^ (n + 1) = 2 * 2 ^ n by rw [Nat.pow_succ, Nat.mul_comm], Nat.mod_mul, Nat.div_div_eq_div_mul, ← Nat.pow_succ]
theorem getS_congr {w w' : Nat} : ∀ {pl : List Nat}, (∀ p ∈ pl, w.testBit p = w'.testBit p) → getS w pl = getS w' pl
  | [], _ => rfl
  | p :: pl, h => by
    have ih := getS_congr (pl := pl) (fun q hq => h q (List.mem_cons_of_mem _ hq))
    simp only [getS, bit_div, h p (by simp), ih]
theorem orM_bit (j : Nat) : ∀ pl : List Nat, (orM pl).testBit j = decide (j ∈ pl)
  | [] => by simp [orM]
  | p :: pl => by
    simp only [orM, Nat.testBit_or, Nat.testBit_two_pow, orM_bit j pl, List.mem_cons]
    by_cases h : p = j
    · simp [h]
    · simp [h, Ne.symm h]
theorem orM_app (a b : List Nat) : orM (a ++ b) = orM a ||| orM b := by
  refine Nat.eq_of_testBit_eq fun j => ?_
  simp [orM_bit, Nat.testBit_or]
theorem orM_lt {pl : List Nat} {n : Nat} (h : ∀ p ∈ pl, p < n) : orM pl < 2 ^ n := by
  refine Nat.lt_pow_two_of_testBit _ fun j hj => ?_
  rw [orM_bit]
  refine decide_eq_false fun hm => ?_
  have := h j hm
  omega
theorem orM_range (p n : Nat) : orM (List.range' p n) = (2 ^ n - 1) * 2 ^ p := by
  refine Nat.eq_of_testBit_eq fun j => ?_
  rw [orM_bit, Nat.mul_comm, Nat.testBit_two_pow_mul, Nat.testBit_two_pow_sub_one]
  simp only [List.mem_range'_1]
  by_cases h : p ≤ j
  · simp [h]; omega
  · simp [h]
theorem orF_off (j : Nat) : ∀ (pl : List Nat) (x : Nat), j ∉ pl → (orF x pl).testBit j = false
  | [], x, _ => by simp [orF]
  | p :: pl, x, h => by
    simp only [List.mem_cons, not_or] at h
    simp only [orF, Nat.testBit_or, orF_off j pl _ h.2, Bool.or_false, Nat.mul_comm _ (2 ^ p), Nat.testBit_two_pow_mul]
    rcases Nat.mod_two_eq_zero_or_one x with e | e
    · simp [e]
    · rw [e]
      by_cases hj : p ≤ j
      · have : j - p ≠ 0 := by omega
        obtain ⟨m, hm⟩ : ∃ m, j - p = m + 1 := ⟨j - p - 1, by omega⟩
        rw [hm, Nat.testBit_add_one]
        simp
      · simp [hj]
theorem orF_head (p x : Nat) (pl : List Nat) (h : p ∉ pl) : (orF x (p :: pl)).testBit p = x.testBit 0 := by
  simp only [orF, Nat.testBit_or, orF_off p pl _ h, Bool.or_false, Nat.mul_comm _ (2 ^ p), Nat.testBit_two_pow_mul]
  rcases Nat.mod_two_eq_zero_or_one x with e | e <;> simp [e]
theorem orF_tail {j p x : Nat} {pl : List Nat} (h : j ≠ p) : (orF x (p :: pl)).testBit j = (orF (x / 2) pl).testBit j := by
  have h1 : (orF x [p]).testBit j = false := orF_off j [p] x (by simp [h])
  simp only [orF, Nat.testBit_or, Nat.zero_testBit, Bool.or_false] at h1 ⊢
  rw [h1, Bool.false_or]
theorem orF_app (x : Nat) : ∀ a b : List Nat, orF x (a ++ b) = orF x a ||| orF (x / 2 ^ a.length) b
  | [], b => by simp [orF]
  | p :: a, b => by
    simp only [List.cons_append, orF, orF_app (x / 2) a b, List.length_cons, Nat.or_assoc, Nat.div_div_eq_div_mul]
    rw [Nat.pow_succ, Nat.mul_comm 2]
theorem orF_range : ∀ n p x : Nat, orF x (List.range' p n) = x % 2 ^ n * 2 ^ p
  | 0, p, x => by simp [orF, Nat.mod_one]
  | n + 1, p, x => by
    simp only [List.range'_succ, orF, orF_range n (p + 1)]
    have h2 : x % 2 < 2 := Nat.mod_lt _ (by decide)
    have hlt : x % 2 * 2 ^ p < 2 ^ (p + 1) := by
      rw [Nat.pow_succ, Nat.mul_comm (2 ^ p)]
      exact Nat.mul_lt_mul_of_pos_right h2 (Nat.two_pow_pos p)
    rw [Nat.mul_comm (x / 2 % 2 ^ n), Nat.or_comm, ← Nat.two_pow_add_eq_or_of_lt hlt, Nat.pow_succ 2 n, Nat.mul_comm (2 ^ n) 2, Nat.mod_mul, Nat.add_mul, Nat.pow_succ, Nat.add_comm]
    congr 1
    rw [Nat.mul_comm (2 ^ p) 2, Nat.mul_assoc, Nat.mul_assoc, Nat.mul_comm (2 ^ p)]
theorem putN_bit {w x j : Nat} {pl : List Nat} (hw : w < 2 ^ 64) (hp : ∀ p ∈ pl, p < 64) : (putN w x pl).testBit j = if j ∈ pl then (orF x pl).testBit j else w.testBit j := by
  have hm := orM_lt hp
  unfold putN
  rw [Nat.testBit_or, Nat.testBit_and]
  have e : (18446744073709551615 - orM pl).testBit j = (decide (j < 64) && !(orM pl).testBit j) := by
    have := Nat.testBit_two_pow_sub_succ (x := orM pl) (n := 64) hm j
    rw [← this]
    congr 1
    omega
  rw [e, orM_bit]
  by_cases h : j ∈ pl
  · simp [h]
  · rw [if_neg h, orF_off j pl x h]
    by_cases h64 : j < 64
    · simp [h, h64]
    · simp [h64, Nat.testBit_lt_two_pow (Nat.lt_of_lt_of_le hw (Nat.pow_le_pow_right (by decide) (show 64 ≤ j by omega)))]
theorem putN_lt {w x n : Nat} {pl : List Nat} (hn : n ≤ 64) (hw : w < 2 ^ n) (hp : ∀ p ∈ pl, p < n) : putN w x pl < 2 ^ n := by
  refine Nat.lt_pow_two_of_testBit _ fun j hj => ?_
  rw [putN_bit (Nat.lt_of_lt_of_le hw (Nat.pow_le_pow_right (by decide) hn)) (fun p h => by have := hp p h; omega)]
  by_cases h : j ∈ pl
  · have := hp j h; omega
  · rw [if_neg h]
    exact Nat.testBit_lt_two_pow (Nat.lt_of_lt_of_le hw (Nat.pow_le_pow_right (by decide) hj))
theorem getS_orF : ∀ {pl : List Nat} {x : Nat}, pl.Nodup → getS (orF x pl) pl = x % 2 ^ pl.length
  | [], x, _ => by simp [getS, Nat.mod_one]
  | p :: pl, x, h => by
    rw [List.nodup_cons] at h
    have ih := getS_orF (pl := pl) (x := x / 2) h.2
    have ec : getS (orF x (p :: pl)) pl = getS (orF (x / 2) pl) pl := getS_congr fun q hq => orF_tail (fun e => h.1 (by rw [← e]; exact hq))
    simp only [getS, bit_div, orF_head p x pl h.1, ec, ih, List.length_cons]
    rw [Nat.pow_succ, Nat.mul_comm (2 ^ pl.length) 2, Nat.mod_mul]
    congr 1
    have := bit_div x 0
    simpa using this.symm
theorem get_put {w x : Nat} {pl : List Nat} (hw : w < 2 ^ 64) (hp : ∀ p ∈ pl, p < 64) (hn : pl.Nodup) (hx : x < 2 ^ pl.length) : getS (putN w x pl) pl = x := by
  rw [getS_congr (w' := orF x pl) (fun p h => by rw [putN_bit hw hp, if_pos h]), getS_orF hn, Nat.mod_eq_of_lt hx]
theorem orF_getS {w j : Nat} : ∀ {pl : List Nat}, pl.Nodup → j ∈ pl → (orF (getS w pl) pl).testBit j = w.testBit j
  | p :: pl, hn, h => by
    rw [List.nodup_cons] at hn
    have e0 : getS w (p :: pl) / 2 = getS w pl := by
      have h2 : w / 2 ^ p % 2 < 2 := Nat.mod_lt _ (by decide)
      simp only [getS]; omega
    by_cases e : j = p
    · subst e
      rw [orF_head _ _ _ hn.1]
      have h2 : w / 2 ^ j % 2 < 2 := Nat.mod_lt _ (by decide)
      have h3 := bit_div w j
      have h4 := bit_div (getS w (j :: pl)) 0
      simp only [getS, Nat.pow_zero, Nat.div_one] at h4
      rw [show (w / 2 ^ j % 2 + 2 * getS w pl) % 2 = w / 2 ^ j % 2 by omega, h3] at h4
      simp only [getS]
      revert h4
      rw [h3]
      cases w.testBit j <;> cases (Nat.testBit _ 0) <;> simp
    · rw [orF_tail e, e0]
      refine orF_getS hn.2 ?_
      rcases List.mem_cons.1 h with h | h
      · exact (e h).elim
      · exact h
theorem put_get {w : Nat} {pl : List Nat} (hw : w < 2 ^ 64) (hp : ∀ p ∈ pl, p < 64) (hn : pl.Nodup) : putN w (getS w pl) pl = w := by
  refine Nat.eq_of_testBit_eq fun j => ?_
  rw [putN_bit hw hp]
  by_cases h : j ∈ pl
  · rw [if_pos h, orF_getS hn h]
  · rw [if_neg h]
theorem put_keeps {w x : Nat} {pl : List Nat} (hw : w < 2 ^ 64) (hp : ∀ p ∈ pl, p < 64) : putN w x pl &&& (18446744073709551615 - orM pl) = w &&& (18446744073709551615 - orM pl) := by
  have hm := orM_lt hp
  refine Nat.eq_of_testBit_eq fun j => ?_
  have e : (18446744073709551615 - orM pl).testBit j = (decide (j < 64) && !(orM pl).testBit j) := by
    have := Nat.testBit_two_pow_sub_succ (x := orM pl) (n := 64) hm j
    rw [← this]
    congr 1
    omega
  rw [Nat.testBit_and, Nat.testBit_and, e, orM_bit, putN_bit hw hp]
  by_cases h : j ∈ pl
  · simp [h]
  · simp [h]
theorem orM_and {a b : List Nat} : orM a &&& orM b = 0 ↔ ∀ j ∈ a, j ∉ b := by
  refine ⟨fun h j ha hb => ?_, fun h => Nat.eq_of_testBit_eq fun j => ?_⟩
  · have := congrArg (fun n => Nat.testBit n j) h
    simp [orM_bit, ha, hb] at this
  · simp only [Nat.testBit_and, orM_bit, Nat.zero_testBit]
    by_cases ha : j ∈ a
    · simp [h j ha]
    · simp [ha]
theorem put_two {w x y : Nat} {a b : List Nat} (hw : w < 2 ^ 64) (ha : ∀ p ∈ a, p < 64) (hb : ∀ p ∈ b, p < 64) (hd : ∀ j ∈ a, j ∉ b) : putN (putN w x a) y b = putN (putN w y b) x a := by
  refine Nat.eq_of_testBit_eq fun j => ?_
  rw [putN_bit (putN_lt (by decide) hw ha) hb, putN_bit (putN_lt (by decide) hw hb) ha, putN_bit hw ha, putN_bit hw hb]
  by_cases h : j ∈ a
  · simp [h, hd j h]
  · simp [h]
theorem get_other {w y : Nat} {a b : List Nat} (hw : w < 2 ^ 64) (hb : ∀ p ∈ b, p < 64) (hd : ∀ j ∈ a, j ∉ b) : getS (putN w y b) a = getS w a :=
  getS_congr fun p h => by rw [putN_bit hw hb, if_neg (hd p h)]

/-! ### One bit set or cleared by adding or subtracting -/
theorem add_bit {x p : Nat} (h : x.testBit p = false) (j : Nat) : (x + 2 ^ p).testBit j = (x.testBit j || decide (j = p)) := by
  have hd := Nat.div_add_mod x (2 ^ (p + 1))
  have hr : x % 2 ^ (p + 1) < 2 ^ p := by
    refine Nat.lt_pow_two_of_testBit _ fun i hi => ?_
    rw [Nat.testBit_mod_two_pow]
    by_cases e : i = p
    · subst e; simp [h]
    · simp; omega
  obtain ⟨q, hq⟩ : ∃ q, q = x / 2 ^ (p + 1) := ⟨_, rfl⟩
  obtain ⟨r, hrr⟩ : ∃ r, r = x % 2 ^ (p + 1) := ⟨_, rfl⟩
  rw [← hq, ← hrr] at hd
  rw [← hrr] at hr
  have hp2 : 2 ^ (p + 1) = 2 * 2 ^ p := by rw [Nat.pow_succ, Nat.mul_comm]
  have e1 : x = 2 ^ (p + 1) * q + r := hd.symm
  have e2 : x + 2 ^ p = 2 ^ (p + 1) * q + (2 ^ p * 1 + r) := by omega
  rw [e2, Nat.testBit_two_pow_mul_add _ (show 2 ^ p * 1 + r < 2 ^ (p + 1) by omega), Nat.testBit_two_pow_mul_add _ hr, e1, Nat.testBit_two_pow_mul_add _ (show r < 2 ^ (p + 1) by omega)]
  by_cases h1 : j < p + 1
  · rw [if_pos h1, if_pos h1]
    by_cases h2 : j < p
    · rw [if_pos h2]; simp [show j ≠ p by omega]
    · rw [if_neg h2]; simp [show j = p by omega]
  · rw [if_neg h1, if_neg h1]; simp [show j ≠ p by omega]
theorem sub_bit {x p : Nat} (h : x.testBit p = true) : 2 ^ p ≤ x ∧ ∀ j, (x - 2 ^ p).testBit j = (x.testBit j && decide (j ≠ p)) := by
  have hle : 2 ^ p ≤ x := Nat.ge_two_pow_of_testBit h
  have hb : (x - 2 ^ p).testBit p = false := by
    have := Nat.testBit_two_pow_add_eq (x - 2 ^ p) p
    rw [show 2 ^ p + (x - 2 ^ p) = x by omega, h] at this
    cases hh : (x - 2 ^ p).testBit p
    · rfl
    · rw [hh] at this; cases this
  refine ⟨hle, fun j => ?_⟩
  have := add_bit hb j
  rw [show x - 2 ^ p + 2 ^ p = x by omega] at this
  by_cases e : j = p
  · subst e; simp [hb]
  · rw [this]; simp [e]

/-! ### The number of bits -/
theorem pop_put (n p : Nat) (hp : p < n) : ∀ x : Nat, x.testBit p = false → Lib.popAux n (2 ^ p ||| x) = 1 + Lib.popAux n x := by
  induction p generalizing n with
  | zero =>
    intro x h
    obtain ⟨m, rfl⟩ : ∃ m, n = m + 1 := ⟨n - 1, by omega⟩
    rw [Nat.testBit_zero] at h
    have h0 : x % 2 = 0 := by have := of_decide_eq_false h; omega
    have e : 2 ^ 0 ||| x = x + 1 := by
      have := Nat.two_pow_add_eq_or_of_lt (i := 1) (b := 1) (by decide) (x / 2)
      rw [Nat.or_comm, show x = 2 ^ 1 * (x / 2) by omega]
      exact this.symm
    rw [e]
    simp only [Lib.popAux]
    rw [show (x + 1) % 2 = 1 by omega, show (x + 1) / 2 = x / 2 by omega, h0]
    omega
  | succ p ih =>
    intro x h
    obtain ⟨m, rfl⟩ : ∃ m, n = m + 1 := ⟨n - 1, by omega⟩
    rw [Nat.testBit_add_one] at h
    have h1 : (2 ^ (p + 1) ||| x) / 2 = 2 ^ p ||| x / 2 := by
      refine Nat.eq_of_testBit_eq fun j => ?_
      rw [← Nat.testBit_add_one, Nat.testBit_or, Nat.testBit_or, Nat.testBit_add_one, Nat.testBit_add_one, Nat.pow_succ, Nat.mul_div_cancel _ (by decide)]
    have h2 : (2 ^ (p + 1) ||| x) % 2 = x % 2 := by
      have a := bit_div (2 ^ (p + 1) ||| x) 0
      have b := bit_div x 0
      rw [Nat.pow_zero, Nat.div_one] at a b
      rw [a, b, Nat.testBit_or]
      simp
    simp only [Lib.popAux, h1, h2, ih m (by omega) _ h]
    omega
theorem pop_zero : ∀ n, Lib.popAux n 0 = 0
  | 0 => rfl
  | n + 1 => by simp [Lib.popAux, pop_zero n]
theorem pop_orM (n : Nat) : ∀ pl : List Nat, pl.Nodup → (∀ p ∈ pl, p < n) → Lib.popAux n (orM pl) = pl.length
  | [], _, _ => pop_zero n
  | p :: pl, hn, hp => by
    rw [List.nodup_cons] at hn
    have ih := pop_orM n pl hn.2 (fun q hq => hp q (by simp [hq]))
    simp only [orM, List.length_cons]
    rw [pop_put n p (hp p (by simp)) _ (by rw [orM_bit]; exact decide_eq_false hn.1), ih]
    omega
theorem nodup_le : ∀ (n : Nat) (pl : List Nat), pl.Nodup → (∀ p ∈ pl, p < n) → pl.length ≤ n
  | 0, [], _, _ => Nat.le_refl _
  | 0, p :: pl, _, h => by have := h p (by simp); omega
  | n + 1, pl, hn, h => by
    by_cases hm : n ∈ pl
    · have h1 := nodup_le n (pl.erase n) (hn.erase n) (fun p hp => by
        have := h p (List.mem_of_mem_erase hp)
        have hne : p ≠ n := fun e => by subst e; exact (List.Nodup.not_mem_erase hn) hp
        omega)
      rw [List.length_erase_of_mem hm] at h1
      omega
    · have := nodup_le n pl hn (fun p hp => by have := h p hp; have hne : p ≠ n := fun e => hm (by rw [← e]; exact hp); omega)
      omega
end Go.Proofs.Ytgbciglkfbiopaa.Q
