/- Plain law: bits.OnesCount64's sum by parts is the number of bits. -/
import Derived.Test.YtgbciglkfbiopaaBit
import Derived.Test.YtgbciglkfbiopaaQx9
import Derived.Laws.BitsAllLaws
namespace Go.Proofs.Ytgbciglkfbiopaa.Q
open Go.RowKit Go.Proofs.YtgbciglkfbiopaaW.PrintWords Go.Proofs.YtgbciglkfbiopaaW.PrintLast Go.Proofs.YtgbciglkfbiopaaW.PrintMore
set_option linter.unusedVariables false
set_option linter.unusedSimpArgs false

def val : List Nat → Nat
  | [] => 0
  | d :: ds => d + 256 * val ds
def digs : Nat → Nat → List Nat
  | 0, _ => []
  | n + 1, x => x % 256 :: digs n (x / 256)
theorem val_digs : ∀ n x : Nat, x < 256 ^ n → val (digs n x) = x
  | 0, x, h => by have : x = 0 := by simpa using h
                  simp [digs, val, this]
  | n + 1, x, h => by
    have := val_digs n (x / 256) (by rw [Nat.pow_succ, Nat.mul_comm] at h; exact Nat.div_lt_of_lt_mul h)
    simp only [digs, val, this]
    omega
theorem digs_len : ∀ n x : Nat, (digs n x).length = n
  | 0, x => rfl
  | n + 1, x => by simp [digs, digs_len n]
theorem digs_lt : ∀ n x : Nat, ∀ d ∈ digs n x, d < 256
  | 0, x, d, h => by simp [digs] at h
  | n + 1, x, d, h => by
    simp only [digs, List.mem_cons] at h
    rcases h with rfl | h
    · exact Nat.mod_lt _ (by decide)
    · exact digs_lt n _ d h
theorem and_val {a c y z : Nat} (ha : a < 256) (hc : c < 256) : (a + 256 * y) &&& (c + 256 * z) = (a &&& c) + 256 * (y &&& z) := by
  have hac : a &&& c < 2 ^ 8 := Nat.and_lt_two_pow _ hc
  refine Nat.eq_of_testBit_eq fun j => ?_
  rw [Nat.testBit_and, Nat.add_comm a, Nat.add_comm c, Nat.add_comm (a &&& c), show 256 = 2 ^ 8 from rfl, Nat.testBit_two_pow_mul_add _ ha, Nat.testBit_two_pow_mul_add _ hc, Nat.testBit_two_pow_mul_add _ hac]
  split <;> simp [Nat.testBit_and]
def mkM (c : Nat) : Nat → Nat
  | 0 => 0
  | n + 1 => c + 256 * mkM c n
theorem d1 : ∀ b : Fin 256, ∀ c : Fin 2, (b.val / 2 + 128 * c.val) &&& 85 = b.val / 2 &&& 85 := by decide +kernel
theorem d2 : ∀ b : Fin 256, ∀ c : Fin 4, (b.val / 4 + 64 * c.val) &&& 51 = b.val / 4 &&& 51 := by decide +kernel
def g1 (b : Nat) : Nat := (b / 2 &&& 85) + (b &&& 85)
def g2 (b : Nat) : Nat := (b / 4 &&& 51) + (b &&& 51)
def g3 (b : Nat) : Nat := b / 16 + b % 16
theorem gg : ∀ b : Fin 256, g1 b.val < 256 ∧ g2 (g1 b.val) < 256 ∧ g2 (g1 b.val) % 16 ≤ 4 ∧ g2 (g1 b.val) / 16 ≤ 4 ∧ g3 (g2 (g1 b.val)) = Lib.popAux 8 b.val ∧ Lib.popAux 8 b.val ≤ 8 := by decide +kernel
theorem d3 : ∀ s : Fin 9, ∀ c : Fin 9, (s.val + 16 * c.val) &&& 15 = s.val := by decide +kernel
theorem st1 : ∀ bs : List Nat, (∀ b ∈ bs, b < 256) → (val bs / 2 &&& mkM 85 bs.length) + (val bs &&& mkM 85 bs.length) = val (bs.map g1)
  | [], _ => by simp [val, mkM]
  | b :: bs, h => by
    have hb : b < 256 := h b (by simp)
    have ih := st1 bs (fun x hx => h x (by simp [hx]))
    have hc : val bs % 2 < 2 := Nat.mod_lt _ (by decide)
    simp only [val, mkM, List.length_cons, List.map_cons]
    have e : (b + 256 * val bs) / 2 = (b / 2 + 128 * (val bs % 2)) + 256 * (val bs / 2) := by omega
    have e1 := d1 ⟨b, hb⟩ ⟨_, hc⟩
    simp only at e1
    rw [e, and_val (by omega) (by decide), and_val hb (by decide), e1, ← ih]
    unfold g1
    omega
theorem st2 : ∀ bs : List Nat, (∀ b ∈ bs, b < 256) → (val bs / 4 &&& mkM 51 bs.length) + (val bs &&& mkM 51 bs.length) = val (bs.map g2)
  | [], _ => by simp [val, mkM]
  | b :: bs, h => by
    have hb : b < 256 := h b (by simp)
    have ih := st2 bs (fun x hx => h x (by simp [hx]))
    have hc : val bs % 4 < 4 := Nat.mod_lt _ (by decide)
    simp only [val, mkM, List.length_cons, List.map_cons]
    have e : (b + 256 * val bs) / 4 = (b / 4 + 64 * (val bs % 4)) + 256 * (val bs / 4) := by omega
    have e1 := d2 ⟨b, hb⟩ ⟨_, hc⟩
    simp only at e1
    rw [e, and_val (by omega) (by decide), and_val hb (by decide), e1, ← ih]
    unfold g2
    omega
theorem st3 : ∀ bs : List Nat, (∀ b ∈ bs, b % 16 ≤ 4 ∧ b / 16 ≤ 4) → (val bs / 16 + val bs) &&& mkM 15 bs.length = val (bs.map g3) ∧ val bs % 16 ≤ 4
  | [], _ => by simp [val, mkM]
  | b :: bs, h => by
    have hb := h b (by simp)
    obtain ⟨ih, hc⟩ := st3 bs (fun x hx => h x (by simp [hx]))
    simp only [val, mkM, List.length_cons, List.map_cons]
    refine ⟨?_, by omega⟩
    have e : (b + 256 * val bs) / 16 + (b + 256 * val bs) = ((b / 16 + b % 16) + 16 * (val bs % 16 + b / 16)) + 256 * (val bs / 16 + val bs) := by omega
    have e3 := d3 ⟨b / 16 + b % 16, by omega⟩ ⟨val bs % 16 + b / 16, by omega⟩
    simp only at e3
    rw [e, and_val (by omega) (by decide), e3, ih]
    rfl
theorem pop_val (a : Nat) : ∀ (m : Nat) (b y : Nat), b < 2 ^ m → Lib.popAux (m + a) (b + 2 ^ m * y) = Lib.popAux m b + Lib.popAux a y
  | 0, b, y, h => by
    have : b = 0 := by simpa using h
    subst this
    simp [Lib.popAux]
  | m + 1, b, y, h => by
    rw [show m + 1 + a = (m + a) + 1 by omega]
    have hp : 2 ^ (m + 1) = 2 * 2 ^ m := by rw [Nat.pow_succ, Nat.mul_comm]
    have e1 : 2 ^ (m + 1) * y = 2 * (2 ^ m * y) := by rw [hp, Nat.mul_assoc]
    simp only [Lib.popAux]
    rw [e1, show (b + 2 * (2 ^ m * y)) % 2 = b % 2 by omega, show (b + 2 * (2 ^ m * y)) / 2 = b / 2 + 2 ^ m * y by omega, pop_val a m (b / 2) y (by omega)]
    omega
def sumL : List Nat → Nat
  | [] => 0
  | d :: ds => d + sumL ds
theorem pop_digs : ∀ bs : List Nat, (∀ b ∈ bs, b < 256) → Lib.popAux (8 * bs.length) (val bs) = sumL (bs.map (Lib.popAux 8))
  | [], _ => rfl
  | b :: bs, h => by
    have ih := pop_digs bs (fun x hx => h x (by simp [hx]))
    simp only [val, List.length_cons, List.map_cons, sumL, ← ih]
    rw [show 8 * (bs.length + 1) = 8 + 8 * bs.length by omega]
    exact pop_val _ 8 b _ (h b (by simp))
theorem key_ (r k n : Nat) (hr : r < n) : (r + n * k) / n = k := by rw [Nat.add_mul_div_left _ _ (by omega), Nat.div_eq_of_lt hr, Nat.zero_add]
theorem lin1 (a b c d e f g h : Nat) : (a + 256 * (b + 256 * (c + 256 * (d + 256 * (e + 256 * (f + 256 * (g + 256 * h))))))) + (b + 256 * (c + 256 * (d + 256 * (e + 256 * (f + 256 * (g + 256 * h)))))) = ((a + b) + 256 * (b + c)) + 65536 * ((c + d) + 256 * ((d + e) + 256 * ((e + f) + 256 * ((f + g) + 256 * ((g + h) + 256 * h))))) := by omega
theorem lin2 (a b c d e f g h : Nat) : (((a + b) + 256 * (b + c)) + 65536 * ((c + d) + 256 * ((d + e) + 256 * ((e + f) + 256 * ((f + g) + 256 * ((g + h) + 256 * h)))))) + ((c + d) + 256 * ((d + e) + 256 * ((e + f) + 256 * ((f + g) + 256 * ((g + h) + 256 * h))))) = ((a + b + c + d) + 256 * ((b + c + d + e) + 256 * ((c + d + e + f) + 256 * (d + e + f + g)))) + 4294967296 * ((e + f + g + h) + 256 * ((f + g + h) + 256 * ((g + h) + 256 * h))) := by omega
theorem lin3 (a b c d e f g h : Nat) : (((a + b + c + d) + 256 * ((b + c + d + e) + 256 * ((c + d + e + f) + 256 * (d + e + f + g)))) + 4294967296 * ((e + f + g + h) + 256 * ((f + g + h) + 256 * ((g + h) + 256 * h)))) + ((e + f + g + h) + 256 * ((f + g + h) + 256 * ((g + h) + 256 * h))) = (a + b + c + d + e + f + g + h) + 128 * (2 * ((b + c + d + e + f + g + h) + 256 * ((c + d + e + f + g + h) + 256 * ((d + e + f + g + h) + 256 * ((e + f + g + h) + 256 * ((f + g + h) + 256 * ((g + h) + 256 * h))))))) := by omega
theorem bnd1 {a b c d e f g h : Nat} (ha : a ≤ 8) (hb : b ≤ 8) (hc : c ≤ 8) (hd : d ≤ 8) (he : e ≤ 8) (hf : f ≤ 8) (hg : g ≤ 8) (hh : h ≤ 8) : (a + 256 * (b + 256 * (c + 256 * (d + 256 * (e + 256 * (f + 256 * (g + 256 * h))))))) < 18446744073709551616 / 16 := by omega
theorem bnd0 {x y n : Nat} (h : x < n / 16) (hn : 0 < n) (hy : y ≤ x) : x + y < n / 8 := by omega
/-- The halves summed: eight digits, each at most 8. -/
theorem fold8 {a b c d e f g h : Nat} (ha : a ≤ 8) (hb : b ≤ 8) (hc : c ≤ 8) (hd : d ≤ 8) (he : e ≤ 8) (hf : f ≤ 8) (hg : g ≤ 8) (hh : h ≤ 8) (x y z u : Nat) (hx : x = val [a, b, c, d, e, f, g, h])
    (hy : y = x + x / 256) (hz : z = y + y / 65536) (hu : u = z + z / 4294967296) : u % 128 = a + b + c + d + e + f + g + h ∧ x < 18446744073709551616 / 4 ∧ y < 18446744073709551616 / 4 ∧ z < 18446744073709551616 / 4 ∧ u < 18446744073709551616 / 4 := by
  simp only [val, Nat.mul_zero, Nat.add_zero] at hx
  have bx := bnd1 ha hb hc hd he hf hg hh
  rw [← hx] at bx
  have by_ : y ≤ x + x / 256 := Nat.le_of_eq hy
  have bz_ : z ≤ y + y / 65536 := Nat.le_of_eq hz
  have bu_ : u ≤ z + z / 4294967296 := Nat.le_of_eq hu
  have hs : a + b < 256 ∧ b + c < 256 ∧ a + b + c + d < 256 ∧ b + c + d + e < 256 ∧ c + d + e + f < 256 ∧ d + e + f + g < 256 ∧ a + b + c + d + e + f + g + h < 128 := by clear hx hy hz hu bx by_ bz_ bu_; omega
  obtain ⟨s1, s2, s3, s4, s5, s6, s7⟩ := hs
  have e1 : x / 256 = b + 256 * (c + 256 * (d + 256 * (e + 256 * (f + 256 * (g + 256 * h))))) := by rw [hx]; exact key_ _ _ _ (Nat.lt_of_le_of_lt ha (by decide))
  rw [e1, hx, lin1] at hy
  have e2 : y / 65536 = (c + d) + 256 * ((d + e) + 256 * ((e + f) + 256 * ((f + g) + 256 * ((g + h) + 256 * h)))) := by rw [hy]; exact key_ _ _ _ (by clear hx hy hz hu bx by_ bz_ bu_ e1; omega)
  rw [e2, hy, lin2] at hz
  have e3 : z / 4294967296 = (e + f + g + h) + 256 * ((f + g + h) + 256 * ((g + h) + 256 * h)) := by rw [hz]; exact key_ _ _ _ (by clear hx hy hz hu bx by_ bz_ bu_ e1 e2; omega)
  rw [e3, hz, lin3] at hu
  refine ⟨by rw [hu, Nat.add_mul_mod_self_left, Nat.mod_eq_of_lt s7], ?_⟩
  clear hx hy hz hu e1 e2 e3 s1 s2 s3 s4 s5 s6 s7 ha hb hc hd he hf hg hh
  have c1 : y < 18446744073709551616 / 16 + 18446744073709551616 / 4096 := by omega
  have c2 : z < 18446744073709551616 / 8 := by omega
  refine ⟨by omega, by omega, by omega, by omega⟩
def o1 (a : Int) : Int := IntKind.u64.wrap (Go.bits .and .u64 (a / 2) 6148914691236517205 + Go.bits .and .u64 a 6148914691236517205)
def o2 (a : Int) : Int := IntKind.u64.wrap (Go.bits .and .u64 (a / 4) 3689348814741910323 + Go.bits .and .u64 a 3689348814741910323)
def o3 (a : Int) : Int := Go.bits .and .u64 (IntKind.u64.wrap (a / 16 + a)) 1085102592571150095
def o4 (a : Int) : Int := IntKind.u64.wrap (a + a / 256)
def o5 (a : Int) : Int := IntKind.u64.wrap (a + a / 65536)
def o6 (a : Int) : Int := IntKind.u64.wrap (a + a / 4294967296)
theorem ones_eq (a : Int) : bits_OnesCount64.f a = some (Go.bits .and .i64 (wrap64 (o6 (o5 (o4 (o3 (o2 (o1 a))))))) 127) := rfl
theorem w_u64 {x : Nat} (h : x < 18446744073709551616) : IntKind.u64.wrap (x : Int) = (x : Int) := by rw [IntKind.wrap_u64]; omega
theorem and127 : ∀ x : Nat, x < 18446744073709551616 / 4 → Go.bits .and .i64 (x : Int) 127 = ((x % 128 : Nat) : Int) := by
  intro x h
  show IntKind.i64.wrap ((BitVec.ofInt 64 (x : Int) &&& BitVec.ofInt 64 127).toNat : Int) = _
  have e : BitVec.ofInt 64 (x : Int) = BitVec.ofNat 64 x := by apply BitVec.eq_of_toNat_eq; simp
  rw [e, BitVec.toNat_and, BitVec.toNat_ofNat, show (BitVec.ofInt 64 127).toNat = 2 ^ 7 - 1 from by decide, Nat.and_two_pow_sub_one_eq_mod, IntKind.wrap_i64, Nat.mod_eq_of_lt (show x < 2 ^ 64 by omega)]
  have : x % 2 ^ 7 < 128 := Nat.mod_lt _ (by decide)
  omega
theorem sum_lt {a b : Nat} (h : a < 2 ^ 63) (h' : b < 2 ^ 63) : a + b < 18446744073709551616 := by omega
theorem div_lt_ {x n m : Nat} (h : x < n) : x / m < n := Nat.lt_of_le_of_lt (Nat.div_le_self _ _) h
theorem o1_f {x v : Nat} (hx : x < 18446744073709551616) (k : (x / 2 &&& 6148914691236517205) + (x &&& 6148914691236517205) = v) : o1 (x : Int) = (v : Int) ∧ v < 18446744073709551616 := by
  have h1 : x &&& 6148914691236517205 < 2 ^ 63 := Nat.and_lt_two_pow _ (by decide)
  have h2 : x / 2 &&& 6148914691236517205 < 2 ^ 63 := Nat.and_lt_two_pow _ (by decide)
  have hv := sum_lt h2 h1
  rw [k] at hv
  refine ⟨?_, hv⟩
  unfold o1
  have a := u64_and_nat (x / 2) 6148914691236517205 (div_lt_ hx) (by decide)
  have b := u64_and_nat x 6148914691236517205 hx (by decide)
  rw [show ((x / 2 : Nat) : Int) = (x : Int) / 2 from Int.natCast_ediv _ _] at a
  rw [show (6148914691236517205 : Int) = ((6148914691236517205 : Nat) : Int) from rfl, a, b, ← Int.natCast_add, k, w_u64 hv]
theorem o2_f {x v : Nat} (hx : x < 18446744073709551616) (k : (x / 4 &&& 3689348814741910323) + (x &&& 3689348814741910323) = v) : o2 (x : Int) = (v : Int) ∧ v < 2 ^ 63 := by
  have h1 : x &&& 3689348814741910323 < 2 ^ 62 := Nat.and_lt_two_pow _ (by decide)
  have h2 : x / 4 &&& 3689348814741910323 < 2 ^ 62 := Nat.and_lt_two_pow _ (by decide)
  have hv : v < 2 ^ 63 := by rw [← k]; clear k; omega
  refine ⟨?_, hv⟩
  unfold o2
  have a := u64_and_nat (x / 4) 3689348814741910323 (div_lt_ hx) (by decide)
  have b := u64_and_nat x 3689348814741910323 hx (by decide)
  rw [show ((x / 4 : Nat) : Int) = (x : Int) / 4 from Int.natCast_ediv _ _] at a
  rw [show (3689348814741910323 : Int) = ((3689348814741910323 : Nat) : Int) from rfl, a, b, ← Int.natCast_add, k, w_u64 (Nat.lt_trans hv (by decide))]
theorem o3_f {x v : Nat} (hx : x < 2 ^ 63) (k : (x / 16 + x) &&& 1085102592571150095 = v) : o3 (x : Int) = (v : Int) := by
  have hs : x / 16 + x < 18446744073709551616 := sum_lt (div_lt_ hx) hx
  unfold o3
  have a := u64_and_nat (x / 16 + x) 1085102592571150095 hs (by decide)
  rw [show (x : Int) / 16 + (x : Int) = ((x / 16 + x : Nat) : Int) from by rw [Int.natCast_add, Int.natCast_ediv]; rfl, w_u64 hs, show (1085102592571150095 : Int) = ((1085102592571150095 : Nat) : Int) from rfl, a, k]
theorem q4 {n : Nat} (h : n < 18446744073709551616 / 4) : n < 18446744073709551616 := Nat.lt_trans h (by decide)
theorem o4_f {x v : Nat} (h : v = x + x / 256) (hv : v < 18446744073709551616 / 4) : o4 (x : Int) = (v : Int) := by
  unfold o4
  rw [show (x : Int) + (x : Int) / 256 = ((x + x / 256 : Nat) : Int) from by rw [Int.natCast_add, Int.natCast_ediv]; rfl, ← h, w_u64 (q4 hv)]
theorem o5_f {x v : Nat} (h : v = x + x / 65536) (hv : v < 18446744073709551616 / 4) : o5 (x : Int) = (v : Int) := by
  unfold o5
  rw [show (x : Int) + (x : Int) / 65536 = ((x + x / 65536 : Nat) : Int) from by rw [Int.natCast_add, Int.natCast_ediv]; rfl, ← h, w_u64 (q4 hv)]
theorem o6_f {x v : Nat} (h : v = x + x / 4294967296) (hv : v < 18446744073709551616 / 4) : o6 (x : Int) = (v : Int) := by
  unfold o6
  rw [show (x : Int) + (x : Int) / 4294967296 = ((x + x / 4294967296 : Nat) : Int) from by rw [Int.natCast_add, Int.natCast_ediv]; rfl, ← h, w_u64 (q4 hv)]
theorem wrap_q4 {n : Nat} (h : n < 18446744073709551616 / 4) : wrap64 (n : Int) = (n : Int) := by unfold wrap64; omega
theorem ones_f {x : Nat} (hx : x < 2 ^ 64) : bits_OnesCount64.f (x : Int) = some (Lib.popAux 64 x : Int) := by
  rw [ones_eq]
  obtain ⟨bs, hbs⟩ : ∃ bs, bs = digs 8 x := ⟨_, rfl⟩
  have hv : val bs = x := by rw [hbs]; exact val_digs 8 x (by rw [show 256 ^ 8 = 2 ^ 64 from by decide]; exact hx)
  have hl : bs.length = 8 := by rw [hbs]; exact digs_len 8 x
  have hlt : ∀ b ∈ bs, b < 256 := by rw [hbs]; exact digs_lt 8 x
  have k1 := st1 bs hlt
  have l1 : ∀ b ∈ bs.map g1, b < 256 := fun b hb => by obtain ⟨c, hc, rfl⟩ := List.mem_map.1 hb; exact (gg ⟨c, hlt c hc⟩).1
  have k2 := st2 (bs.map g1) l1
  have k3 := (st3 ((bs.map g1).map g2) (fun b hb => by
    obtain ⟨c, hc, rfl⟩ := List.mem_map.1 hb
    obtain ⟨d, hd, rfl⟩ := List.mem_map.1 hc
    exact ⟨(gg ⟨d, hlt d hd⟩).2.2.1, (gg ⟨d, hlt d hd⟩).2.2.2.1⟩)).1
  have k4 : ((bs.map g1).map g2).map g3 = bs.map (Lib.popAux 8) := by
    rw [List.map_map, List.map_map]
    exact List.map_congr_left fun b hb => (gg ⟨b, hlt b hb⟩).2.2.2.2.1
  have kp := pop_digs bs hlt
  have kb : ∀ b ∈ bs, Lib.popAux 8 b ≤ 8 := fun b hb => (gg ⟨b, hlt b hb⟩).2.2.2.2.2
  rw [hl] at k1 kp
  rw [List.length_map, hl] at k2
  rw [List.length_map, List.length_map, hl] at k3
  rw [show mkM 85 8 = 6148914691236517205 by decide] at k1
  rw [show mkM 51 8 = 3689348814741910323 by decide] at k2
  rw [show mkM 15 8 = 1085102592571150095 by decide, k4] at k3
  rw [hv] at k1 kp
  obtain ⟨E1, b1⟩ := o1_f hx k1
  obtain ⟨E2, b2⟩ := o2_f b1 k2
  have E3 := o3_f b2 k3
  rw [E1, E2, E3]
  clear E1 E2 E3 k1 k2 k3 b1 b2 l1 k4 hv hbs
  obtain ⟨a, b, c, d, e, f, g, h, rfl⟩ : ∃ a b c d e f g h, bs = [a, b, c, d, e, f, g, h] := by
    match bs, hl with
    | [a, b, c, d, e, f, g, h], _ => exact ⟨a, b, c, d, e, f, g, h, rfl⟩
  obtain ⟨f1, f2, f3, f4, f5⟩ := fold8 (kb a (by simp)) (kb b (by simp)) (kb c (by simp)) (kb d (by simp)) (kb e (by simp)) (kb f (by simp)) (kb g (by simp)) (kb h (by simp)) _ _ _ _ rfl rfl rfl rfl
  have E4 := o4_f rfl f3
  have E5 := o5_f rfl f4
  have E6 := o6_f rfl f5
  simp only [List.map_cons, List.map_nil, sumL] at kp ⊢
  rw [E4, E5, E6, wrap_q4 f5, and127 _ f5, f1, show (64 : Nat) = 8 * 8 from rfl, kp]
  simp only [Nat.add_zero, Nat.add_assoc]
end Go.Proofs.Ytgbciglkfbiopaa.Q
