/- Plain law for package format's numbers: what Range, Field, Number and Fit answer, in integers; and the reference's. -/
import Derived.Test.YtgbciglkfbiopaaQx5
import Derived.Laws.BitsAllLaws
import Derived.Lib.ItoaNum
namespace Go.Proofs.Ytgbciglkfbiopaa.Q
open Go.RowKit Go.Proofs.YtgbciglkfbiopaaW.PrintWords Go.Proofs.YtgbciglkfbiopaaW.PrintLast Go.Proofs.YtgbciglkfbiopaaW.PrintMore
set_option linter.unusedVariables false

theorem evn_within1 (a b x : Int) : Ev (fun k => format_within.f k a b [x]) (decide (a ≤ x ∧ x ≤ b)) := by
  refine ⟨2, fun k hk => ?_⟩
  obtain ⟨m, rfl⟩ : ∃ m, k = m + 1 + 1 := ⟨k - 2, by omega⟩
  have e0 : rd [x] 0 = x := rfl
  have e1 : wrap64 (0 + 1) = 1 := by unfold wrap64; rfl
  simp only [format_within.f, format_within.l0, List.length_singleton, e0, e1]
  by_cases h1 : x < a
  · rw [if_pos (by decide), if_pos (by decide), if_pos (by decide), if_pos h1]
    congr 1
    symm
    exact decide_eq_false (by omega)
  · rw [if_pos (by decide), if_pos (by decide), if_pos (by decide), if_neg h1]
    by_cases h2 : x > b
    · rw [if_pos h2]
      congr 1
      symm
      exact decide_eq_false (by omega)
    · rw [if_neg h2, if_neg (by decide)]
      congr 1
      symm
      exact decide_eq_true (by omega)

/-- 2 to the power of n. -/
def pw (n : Int) : Int := 2 ^ n.toNat
theorem pw_pos (n : Int) : 1 ≤ pw n := by
  have : 0 < (2 : Int) ^ n.toNat := Int.pow_pos (by decide)
  unfold pw; omega
theorem pw_succ {n : Int} (h : 0 ≤ n) : pw (n + 1) = 2 * pw n := by
  unfold pw
  have e : (n + 1).toNat = n.toNat + 1 := by omega
  rw [e, Int.pow_succ]; omega
theorem pw_le {n m : Int} (h : n ≤ m) : pw n ≤ pw m := by
  unfold pw
  have h1 : n.toNat ≤ m.toNat := by omega
  have := Nat.pow_le_pow_right (n := 2) (by decide) h1
  have e1 : ((2 ^ n.toNat : Nat) : Int) = (2 : Int) ^ n.toNat := by simp
  have e2 : ((2 ^ m.toNat : Nat) : Int) = (2 : Int) ^ m.toNat := by simp
  omega
theorem pw_add {n m : Int} (h : 0 ≤ n) (h' : 0 ≤ m) : pw (n + m) = pw n * pw m := by
  unfold pw
  rw [show (n + m).toNat = n.toNat + m.toNat by omega, Int.pow_add]
theorem pw32 {n : Int} (h : n ≤ 32) : pw n ≤ 4294967296 := pw_le h
theorem pw_eq (n : Nat) : pw (n : Int) = ((2 ^ n : Nat) : Int) := by simp [pw]

theorem evn_Power_l0 (n : Int) (hn : n ≤ 40) : ∀ (d : Nat) (i : Int), 0 ≤ i → i ≤ n → n - i = d → Ev (fun k => retargetref08_Power.l0 k n (pw i) i) (pw n)
  | 0, i, h0, h1, h2 => by
    obtain rfl : i = n := by omega
    refine Ev.step (f := fun k => some (pw i)) (fun k => ?_) (Ev.now _)
    simp only [retargetref08_Power.l0]
    rw [if_neg (by omega)]
  | d + 1, i, h0, h1, h2 => by
    have hp : pw i ≤ 1099511627776 := pw_le (m := 40) (by omega)
    have hp1 := pw_pos i
    refine Ev.step (f := fun k => retargetref08_Power.l0 k n (pw (i + 1)) (i + 1)) (fun k => ?_) (evn_Power_l0 n hn d (i + 1) (by omega) (by omega) (by omega))
    simp only [retargetref08_Power.l0]
    rw [if_pos (by omega), pw_succ h0]
    congr 1
    · unfold wrap64; omega
    · unfold wrap64; omega
theorem evn_Power {n : Int} (h0 : 0 ≤ n) (hn : n ≤ 40) : Ev (fun k => retargetref08_Power.f k n) (pw n) := by
  have := evn_Power_l0 n hn n.toNat 0 (by omega) h0 (by omega)
  simpa [retargetref08_Power.f, pw] using this

theorem in_f (a b c : Int) : retargetref08_In.f a b c = some (decide (b ≤ a ∧ a ≤ c)) := by
  unfold retargetref08_In.f
  by_cases h : b ≤ a
  · rw [if_pos h]; congr 1; simp [h]
  · rw [if_neg h]; congr 1; simp [h]

def okArgs (kind width scale : Int) : Prop := (2 ≤ kind ∧ kind ≤ 4) ∧ (1 ≤ width ∧ width ≤ 32) ∧ (0 ≤ scale ∧ scale ≤ 3)
instance (k w s : Int) : Decidable (okArgs k w s) := by unfold okArgs; exact inferInstance

theorem number_f (kind width scale : Int) : retargetref09_number.f kind width scale = some (decide (okArgs kind width scale)) := by
  unfold retargetref09_number.f okArgs
  simp only [in_f, Option.bind_some]
  by_cases h1 : kind = 2 ∨ kind = 3 ∨ kind = 4
  · have hk : 2 ≤ kind ∧ kind ≤ 4 := by omega
    by_cases h2 : 1 ≤ width ∧ width ≤ 32
    · rcases h1 with rfl | rfl | rfl <;> simp [h2]
    · rcases h1 with rfl | rfl | rfl <;> simp [h2]
  · rw [if_neg (by omega), if_neg (by omega), if_neg (by omega)]
    congr 1
    symm
    exact decide_eq_false (by omega)

/-- The least and the greatest integer of a field. -/
def loI (kind width : Int) : Int := if kind = 3 then 0 else - pw (width - 1)
def hiI (kind width : Int) : Int := if kind = 3 then pw width - 1 else pw (width - 1) - 1
theorem evn_ends {kind width : Int} (h1 : 1 ≤ width) (h2 : width ≤ 32) : Ev (fun k => retargetref09_ends.f k kind width) (loI kind width, hiI kind width) := by
  unfold retargetref09_ends.f loI hiI
  have e1 : wrap64 (width - 1) = width - 1 := by unfold wrap64; omega
  have p1 := pw32 h2
  have p2 := pw32 (n := width - 1) (by omega)
  have p3 := pw_pos width
  have p4 := pw_pos (width - 1)
  by_cases h : kind = 3
  · simp only [if_pos h]
    refine Ev.bind (evn_Power (by omega) (by omega)) ?_
    have : wrap64 (pw width - 1) = pw width - 1 := by unfold wrap64; omega
    rw [this]
    exact Ev.now _
  · simp only [if_neg h, e1]
    refine Ev.bind (evn_Power (by omega) (by omega)) ?_
    have e2 : wrap64 (-(pw (width - 1))) = -(pw (width - 1)) := by unfold wrap64; omega
    have e3 : wrap64 (pw (width - 1) - 1) = pw (width - 1) - 1 := by unfold wrap64; omega
    rw [e2, e3]
    exact Ev.now _
theorem ends_bound {kind width : Int} (h1 : 1 ≤ width) (h2 : width ≤ 32) : -2147483648 ≤ loI kind width ∧ loI kind width ≤ 0 ∧ 0 ≤ hiI kind width ∧ hiI kind width ≤ 4294967295 := by
  unfold loI hiI
  have p1 := pw32 h2
  have p2 : pw (width - 1) ≤ 2147483648 := pw_le (m := 31) (by omega)
  have p3 := pw_pos width
  have p4 := pw_pos (width - 1)
  split <;> omega
theorem pw_half {width : Int} (h : 1 ≤ width) : pw width = 2 * pw (width - 1) := by
  have := pw_succ (n := width - 1) (by omega)
  rwa [Int.sub_add_cancel] at this
theorem pw_scale {s : Int} (h : 0 ≤ s) (h' : s ≤ 3) : pw s = 1 ∨ pw s = 2 ∨ pw s = 4 ∨ pw s = 8 := by
  have : s = 0 ∨ s = 1 ∨ s = 2 ∨ s = 3 := by omega
  rcases this with rfl | rfl | rfl | rfl <;> simp [pw]

/-- Range's answer. -/
def rangeS (kind width scale : Int) : Int × Int × Int := if okArgs kind width scale then (pw scale * loI kind width, pw scale * hiI kind width, 0) else (0, 0, 2)
theorem evn_refRange (kind width scale : Int) : Ev (fun k => retargetref09_Range.f k kind width scale) (rangeS kind width scale) := by
  unfold retargetref09_Range.f rangeS
  simp only [number_f, Option.bind_some]
  by_cases h : okArgs kind width scale
  · simp only [decide_eq_true h, if_true, if_pos h]
    obtain ⟨_, hw, hs⟩ := h
    refine Ev.bind (evn_ends hw.1 hw.2) (Ev.bind (evn_Power hs.1 (by omega)) ?_)
    have hb := ends_bound (kind := kind) hw.1 hw.2
    have e1 : wrap64 (pw scale * loI kind width) = pw scale * loI kind width := by
      rcases pw_scale hs.1 hs.2 with e | e | e | e <;> rw [e] <;> unfold wrap64 <;> omega
    have e2 : wrap64 (pw scale * hiI kind width) = pw scale * hiI kind width := by
      rcases pw_scale hs.1 hs.2 with e | e | e | e <;> rw [e] <;> unfold wrap64 <;> omega
    simp only [e1, e2]
    exact Ev.now _
  · simp only [decide_eq_false h, Bool.false_eq_true, if_false, if_neg h]
    exact Ev.now _

theorem shl64 {x y : Int} (h : 0 ≤ y) (h' : y ≤ 40) (hb : -9223372036854775808 ≤ x * pw y) (hb' : x * pw y ≤ 9223372036854775807) : shl .i64 x y = x * pw y := by
  unfold shl
  rw [show min y.toNat IntKind.i64.bits = y.toNat from Nat.min_eq_left (by show y.toNat ≤ 64; omega), i64_w]
  show wrap64 (x * pw y) = _
  unfold wrap64
  omega
theorem shr64 {x y : Int} (h : 0 ≤ y) (h' : y ≤ 40) : shr .i64 x y = x / pw y := by
  unfold shr
  rw [show min y.toNat IntKind.i64.bits = y.toNat from Nat.min_eq_left (by show y.toNat ≤ 64; omega)]
  rfl
theorem evn_Range (kind width scale : Int) (hk : 0 ≤ kind) (hk' : kind ≤ 255) : Ev (fun k => format_Range.f k kind width scale) (rangeS kind width scale) := by
  unfold format_Range.f rangeS
  have ek : wrap64 kind = kind := by unfold wrap64; omega
  have jt : Ev (fun k => format_Range.j0 k kind width scale 0 true) (0, 0, 2) := by
    refine Ev.step (f := fun k => some (0, 0, 2)) (fun k => ?_) (Ev.now _)
    simp only [format_Range.j0, if_true]
  rw [ek]
  refine Ev.bind (evn_within1 _ _ _) ?_
  by_cases h1 : 2 ≤ kind ∧ kind ≤ 4
  · simp only [decide_eq_true h1, if_true]
    refine Ev.bind (evn_within1 _ _ _) ?_
    by_cases h2 : 1 ≤ width ∧ width ≤ 32
    · simp only [decide_eq_true h2, if_true]
      refine Ev.bind (evn_within1 _ _ _) ?_
      by_cases h3 : 0 ≤ scale ∧ scale ≤ 3
      · have hok : okArgs kind width scale := ⟨h1, h2, h3⟩
        simp only [decide_eq_true h3, Bool.not_true, if_pos hok]
        have p1 := pw32 h2.2
        have p2 := pw_half h2.1
        have p4 := pw_pos (width - 1)
        have e1 : shl .i64 1 width = pw width := by rw [shl64 (by omega) (by omega) (by omega) (by omega)]; omega
        have e2 : wrap64 (pw width - 1) = pw width - 1 := by unfold wrap64; omega
        have e4 : (pw width - 1) / 2 = pw (width - 1) - 1 := by omega
        have e3 : wrap64 (wrap64 (-(pw (width - 1) - 1)) - 1) = - pw (width - 1) := by unfold wrap64; omega
        have e5 : shl .i64 0 scale = 0 := by
          rw [shl64 h3.1 (by omega) (by omega) (by omega)]; omega
        refine Ev.step (f := fun k => some (pw scale * loI kind width, pw scale * hiI kind width, 0)) (fun k => ?_) (Ev.now _)
        simp only [format_Range.j0, Bool.false_eq_true, if_false]
        rw [if_pos (by omega)]
        have hsc := pw_scale h3.1 h3.2
        by_cases h4 : kind = 3
        · rw [if_pos h4, if_pos h3.1, e1, e2, e5, shl64 h3.1 (by omega) (by rcases hsc with e | e | e | e <;> rw [e] <;> omega) (by rcases hsc with e | e | e | e <;> rw [e] <;> omega)]
          unfold loI hiI
          rw [if_pos h4, if_pos h4, Int.mul_comm]
          simp
        · rw [if_neg h4, if_pos h3.1, e1, e2, e4, e3, shl64 h3.1 (by omega) (by rcases hsc with e | e | e | e <;> rw [e] <;> omega) (by rcases hsc with e | e | e | e <;> rw [e] <;> omega), shl64 h3.1 (by omega) (by rcases hsc with e | e | e | e <;> rw [e] <;> omega) (by rcases hsc with e | e | e | e <;> rw [e] <;> omega)]
          unfold loI hiI
          rw [if_neg h4, if_neg h4, Int.mul_comm (pw scale) (-pw (width - 1)), Int.mul_comm (pw scale) (pw (width - 1) - 1)]
      · simp only [decide_eq_false h3, Bool.not_false, if_neg (fun h : okArgs kind width scale => h3 h.2.2)]
        exact jt
    · simp only [decide_eq_false h2, Bool.false_eq_true, if_false, if_neg (fun h : okArgs kind width scale => h2 h.2.1)]
      exact jt
  · simp only [decide_eq_false h1, Bool.false_eq_true, if_false, if_neg (fun h : okArgs kind width scale => h1 h.1)]
    exact jt

theorem mask_nat : ∀ m : Fin 65, (18446744073709551615 : Int) / 2 ^ (64 - m.val) = 2 ^ m.val - 1 := by decide +kernel
theorem mask_pw {len : Int} (h : 1 ≤ len) (h' : len ≤ 64) : bits_Mask.f len = some (pw len - 1) := by
  unfold bits_Mask.f bits_wide.f
  rw [if_pos (by omega)]
  simp only [Option.bind_some]
  have e : wrap64 (64 - len) = 64 - len := by unfold wrap64; omega
  rw [if_pos (by simpa using h'), e, if_pos (by omega)]
  congr 1
  unfold shr pw
  rw [show min (64 - len).toNat IntKind.u64.bits = 64 - len.toNat from by show min (64 - len).toNat 64 = _; omega]
  exact mask_nat ⟨len.toNat, by omega⟩
theorem pw_dvd {a b : Int} (h : a ≤ b) : pw a ∣ pw b := by
  unfold pw
  have h1 : a.toNat ≤ b.toNat := by omega
  exact ⟨2 ^ (b.toNat - a.toNat), by rw [← Int.pow_add, show a.toNat + (b.toNat - a.toNat) = b.toNat by omega]⟩
theorem and_mask {x width : Int} (h1 : 1 ≤ width) (h2 : width ≤ 32) : Go.bits .and .u64 (IntKind.u64.wrap x) (pw width - 1) = x % pw width := by
  have hp := pw_pos width
  have hp2 := pw32 h2
  rw [IntKind.wrap_u64]
  have hx0 : 0 ≤ x % 18446744073709551616 := Int.emod_nonneg _ (by decide)
  have hx1 : x % 18446744073709551616 < 18446744073709551616 := Int.emod_lt_of_pos _ (by decide)
  rw [u64_and _ _ hx0 hx1 (by omega) (by omega)]
  have e : (pw width - 1).toNat = 2 ^ width.toNat - 1 := by
    have : pw width = ((2 ^ width.toNat : Nat) : Int) := by simp [pw]
    omega
  rw [e, Nat.and_two_pow_sub_one_eq_mod]
  have e2 : ((x % 18446744073709551616).toNat : Int) = x % 18446744073709551616 := Int.toNat_of_nonneg hx0
  rw [Int.natCast_emod, e2]
  have e3 : ((2 ^ width.toNat : Nat) : Int) = pw width := by simp [pw]
  rw [e3]
  exact Int.emod_emod_of_dvd _ (pw_dvd (a := width) (b := 64) (by omega))
theorem neg_mod {k P : Int} (h0 : k < 0) (h1 : -P ≤ k) : k % P = k + P := by
  have : (k + P) % P = k % P := Int.add_emod_right _ _
  rw [← this]
  exact Int.emod_eq_of_lt (by omega) (by omega)

/-- A number is in a field. -/
def inS (kind width scale n : Int) : Prop := n % pw scale = 0 ∧ loI kind width ≤ n / pw scale ∧ n / pw scale ≤ hiI kind width
instance (k w s n : Int) : Decidable (inS k w s n) := by unfold inS; exact inferInstance
/-- Field's answer. -/
def codeI (width k : Int) : Int := if k < 0 then k + pw width else k
def fieldS (kind width scale n : Int) : Int × Int := if okArgs kind width scale then (if inS kind width scale n then (codeI width (n / pw scale), 0) else (0, 24)) else (0, 2)
theorem ends_half {kind width : Int} (h1 : 1 ≤ width) : - pw width ≤ loI kind width ∧ hiI kind width ≤ pw width - 1 := by
  unfold loI hiI
  have p2 := pw_half h1
  have p4 := pw_pos (width - 1)
  split <;> omega
theorem code_mod {kind width k : Int} (h1 : 1 ≤ width) (ha : loI kind width ≤ k) (hb : k ≤ hiI kind width) : k % pw width = codeI width k := by
  have := ends_half (kind := kind) h1
  unfold codeI
  by_cases h : k < 0
  · rw [if_pos h, neg_mod h (by omega)]
  · rw [if_neg h]
    exact Int.emod_eq_of_lt (by omega) (by omega)
theorem code_bound {kind width k : Int} (h1 : 1 ≤ width) (ha : loI kind width ≤ k) (hb : k ≤ hiI kind width) : 0 ≤ codeI width k ∧ codeI width k < pw width := by
  rw [← code_mod h1 ha hb]
  have := pw_pos width
  exact ⟨Int.emod_nonneg _ (by omega), Int.emod_lt_of_pos _ (by omega)⟩

theorem evn_Field (kind width scale n : Int) (hk : 0 ≤ kind) (hk' : kind ≤ 255) : Ev (fun k => format_Field.f k kind width scale n) (fieldS kind width scale n) := by
  unfold format_Field.f fieldS
  refine Ev.bind (evn_Range _ _ _ hk hk') ?_
  unfold rangeS
  by_cases h : okArgs kind width scale
  · simp only [if_pos h, if_true]
    obtain ⟨_, hw, hs⟩ := h
    have hb := ends_bound (kind := kind) hw.1 hw.2
    have hsc := pw_scale hs.1 hs.2
    have key : inS kind width scale n ↔ (pw scale * loI kind width ≤ n ∧ n ≤ pw scale * hiI kind width) ∧ n / pw scale * pw scale = n := by
      unfold inS
      rcases hsc with e | e | e | e <;> rw [e] <;> omega
    by_cases c1 : n < pw scale * loI kind width
    · simp only [if_pos c1, if_neg (fun h => by rw [key] at h; omega : ¬ inS kind width scale n)]
      exact Ev.now _
    · by_cases c2 : n > pw scale * hiI kind width
      · simp only [if_neg c1, if_pos c2, if_neg (fun h => by rw [key] at h; omega : ¬ inS kind width scale n)]
        exact Ev.now _
      · simp only [if_neg c1, if_neg c2]
        have e1 : shl .i64 (shr .i64 n scale) scale = n / pw scale * pw scale := by
          rw [shr64 hs.1 (by omega), shl64 hs.1 (by omega) (by rcases hsc with e | e | e | e <;> rw [e] at c1 c2 ⊢ <;> omega) (by rcases hsc with e | e | e | e <;> rw [e] at c1 c2 ⊢ <;> omega)]
        rw [e1]
        simp only [if_pos hs.1]
        by_cases c3 : n / pw scale * pw scale = n
        · have hin : inS kind width scale n := key.2 ⟨⟨by omega, by omega⟩, c3⟩
          simp only [if_pos c3, if_pos hin, mask_pw hw.1 (show width ≤ 64 by omega), Option.bind_some]
          rw [shr64 hs.1 (by omega), and_mask hw.1 hw.2, code_mod hw.1 hin.2.1 hin.2.2]
          exact Ev.now _
        · simp only [if_neg c3, if_neg (fun h => c3 (key.1 h).2 : ¬ inS kind width scale n)]
          exact Ev.now _
  · simp only [if_neg h]
    rw [if_neg (by decide)]
    exact Ev.now _

theorem tmod_zero (n S : Int) : Int.tmod n S = 0 ↔ n % S = 0 := by
  rw [← Int.dvd_iff_emod_eq_zero]
  exact ⟨Int.dvd_of_tmod_eq_zero, Int.tmod_eq_zero_of_dvd⟩
theorem tdiv_of {n S : Int} (h : n % S = 0) : Int.tdiv n S = n / S := Int.tdiv_eq_ediv_of_dvd (Int.dvd_of_emod_eq_zero h)
theorem evn_in {kind width scale n : Int} (hw : 1 ≤ width ∧ width ≤ 32) (hs : 0 ≤ scale ∧ scale ≤ 3) (hn : -9223372036854775808 ≤ n ∧ n ≤ 9223372036854775807) : Ev (fun k => retargetref09_in.f k kind width scale n) (decide (inS kind width scale n)) := by
  unfold retargetref09_in.f
  refine Ev.bind (evn_ends hw.1 hw.2) (Ev.bind (evn_Power hs.1 (by omega)) ?_)
  have hsc := pw_scale hs.1 hs.2
  have hne : ¬ pw scale = 0 := by omega
  simp only [if_neg hne, tmod_zero, in_f, Option.bind_some]
  by_cases h : n % pw scale = 0
  · simp only [if_pos h]
    have e : wrap64 (Int.tdiv n (pw scale)) = n / pw scale := by
      rw [tdiv_of h]
      rcases hsc with e | e | e | e <;> rw [e] <;> unfold wrap64 <;> omega
    rw [e]
    have : decide (inS kind width scale n) = decide (loI kind width ≤ n / pw scale ∧ n / pw scale ≤ hiI kind width) := by
      unfold inS
      simp [h]
    rw [this]
    exact Ev.now _
  · simp only [if_neg h]
    have : decide (inS kind width scale n) = false := decide_eq_false (fun hh => h hh.1)
    rw [this]
    exact Ev.now _
theorem evn_refField (kind width scale n : Int) (hn : -9223372036854775808 ≤ n ∧ n ≤ 9223372036854775807) : Ev (fun k => retargetref09_Field.f k kind width scale n) (fieldS kind width scale n) := by
  unfold retargetref09_Field.f fieldS
  simp only [number_f, Option.bind_some]
  by_cases h : okArgs kind width scale
  · simp only [decide_eq_true h, if_true, if_pos h]
    obtain ⟨_, hw, hs⟩ := h
    refine Ev.bind (evn_in hw hs hn) ?_
    by_cases c : inS kind width scale n
    · simp only [decide_eq_true c, if_true, if_pos c]
      refine Ev.bind (evn_Power hs.1 (by omega)) ?_
      have hsc := pw_scale hs.1 hs.2
      have hne : ¬ pw scale = 0 := by omega
      have hb := ends_bound (kind := kind) hw.1 hw.2
      have e : wrap64 (Int.tdiv n (pw scale)) = n / pw scale := by
        rw [tdiv_of c.1]
        rcases hsc with e | e | e | e <;> rw [e] <;> unfold wrap64 <;> omega
      have hcb := code_bound hw.1 c.2.1 c.2.2
      have p1 := pw32 hw.2
      simp only [if_neg hne, e]
      unfold codeI at hcb ⊢
      by_cases c2 : n / pw scale < 0
      · simp only [if_pos c2] at hcb ⊢
        refine Ev.bind (evn_Power (by omega) (by omega)) ?_
        have e2 : IntKind.u64.wrap (wrap64 (n / pw scale + pw width)) = n / pw scale + pw width := by
          rw [IntKind.wrap_u64]; unfold wrap64; omega
        rw [e2]
        exact Ev.now _
      · simp only [if_neg c2] at hcb ⊢
        have e2 : IntKind.u64.wrap (n / pw scale) = n / pw scale := by rw [IntKind.wrap_u64]; omega
        rw [e2]
        exact Ev.now _
    · simp only [decide_eq_false c, Bool.false_eq_true, if_false, if_neg c]
      exact Ev.now _
  · simp only [decide_eq_false h, Bool.false_eq_true, if_false, if_neg h]
    exact Ev.now _

theorem bitLen_iff (x w : Nat) (hx : x < 2 ^ 64) : Lib.bitLen x ≤ w ↔ x < 2 ^ w := by
  unfold Lib.bitLen
  by_cases h0 : x = 0
  · subst h0
    rw [Lib.bitLenAux_zero]
    have : 0 < 2 ^ w := Nat.pow_pos (by decide)
    omega
  · obtain ⟨h1, h2, h3⟩ := Lib.bitLenAux_bounds 64 x hx h0
    constructor
    · intro h
      exact Nat.lt_of_lt_of_le h3 (Nat.pow_le_pow_right (by decide) h)
    · intro h
      have h4 : 2 ^ (Lib.bitLenAux 64 x - 1) < 2 ^ w := Nat.lt_of_le_of_lt h2 h
      have := (Nat.pow_lt_pow_iff_right (a := 2) (by decide)).1 h4
      omega
theorem fits_f {x w : Int} (h0 : 0 ≤ x) (h1 : x ≤ 18446744073709551615) (hw : 0 ≤ w) : format_fits.f x w = some (decide (x < pw w)) := by
  unfold format_fits.f bits_Len64.f
  rw [if_pos ⟨h0, h1⟩]
  simp only [Option.bind_some]
  congr 1
  have := bitLen_iff x.toNat w.toNat (by omega)
  have e : pw w = ((2 ^ w.toNat : Nat) : Int) := by simp [pw]
  rw [e]
  by_cases h : x.toNat < 2 ^ w.toNat
  · rw [decide_eq_true (by have := this.2 h; omega), decide_eq_true (by omega)]
  · rw [decide_eq_false (by intro h2; exact h (this.1 (by omega))), decide_eq_false (by omega)]
theorem evn_Below_l0 (width : Int) (hw : width ≤ 64) : ∀ (d : Nat) (x i : Int), 0 ≤ x → x ≤ 18446744073709551615 → 0 ≤ i → i ≤ width → width - i = d → Ev (fun k => retargetref08_Below.l0 k x width i) (decide (x < pw (width - i)))
  | 0, x, i, hx, hx', h0, h1, h2 => by
    obtain rfl : i = width := by omega
    have e : pw (i - i) = 1 := by rw [show i - i = 0 by omega]; rfl
    refine Ev.step (f := fun k => some (x == 0)) (fun k => ?_) ?_
    · simp only [retargetref08_Below.l0]
      rw [if_neg (by omega)]
    · have : (x == 0) = decide (x < pw (i - i)) := by
        rw [e]
        by_cases h : x = 0
        · subst h; rfl
        · rw [decide_eq_false (by omega)]; simpa using h
      rw [this]
      exact Ev.now _
  | d + 1, x, i, hx, hx', h0, h1, h2 => by
    have e1 : IntKind.u64.wrap (Int.tdiv x 2) = x / 2 := by
      rw [Int.tdiv_eq_ediv_of_nonneg hx, IntKind.wrap_u64]; omega
    have e2 : wrap64 (i + 1) = i + 1 := by unfold wrap64; omega
    have e3 : decide (x < pw (width - i)) = decide (x / 2 < pw (width - (i + 1))) := by
      have := pw_succ (n := width - (i + 1)) (by omega)
      rw [show width - (i + 1) + 1 = width - i by omega] at this
      rw [this]
      by_cases h : x / 2 < pw (width - (i + 1))
      · rw [decide_eq_true h, decide_eq_true (by omega)]
      · rw [decide_eq_false h, decide_eq_false (by omega)]
    rw [e3]
    refine Ev.step (f := fun k => retargetref08_Below.l0 k (x / 2) width (i + 1)) (fun k => ?_) (evn_Below_l0 width hw d (x / 2) (i + 1) (by omega) (by omega) (by omega) (by omega) (by omega))
    simp only [retargetref08_Below.l0]
    rw [if_pos (by omega), e1, e2]
theorem evn_below {x width : Int} (hx : 0 ≤ x) (hx' : x ≤ 18446744073709551615) (h0 : 0 ≤ width) (hw : width ≤ 64) : Ev (fun k => retargetref09_below.f k x width) (decide (x < pw width)) := by
  unfold retargetref09_below.f retargetref08_Below.f
  have := evn_Below_l0 width hw width.toNat x 0 hx hx' (by omega) h0 (by omega)
  rw [show width - 0 = width by omega] at this
  exact Ev.bind this (Ev.now _)

/-- Number's answer. -/
def backI (kind width f : Int) : Int := if f > hiI kind width then f - pw width else f
def numberS (kind width scale f : Int) : Int × Int := if okArgs kind width scale then (if f < pw width then (backI kind width f * pw scale, 0) else (0, 24)) else (0, 2)
theorem back_bound {kind width f : Int} (h1 : 1 ≤ width) (h0 : 0 ≤ f) (hf : f < pw width) : loI kind width ≤ backI kind width f ∧ backI kind width f ≤ hiI kind width := by
  have p2 := pw_half h1
  unfold backI
  unfold loI hiI at *
  split <;> split <;> (try split at *) <;> omega
theorem evn_Number (kind width scale f : Int) (hk : 0 ≤ kind) (hk' : kind ≤ 255) (h0 : 0 ≤ f) (h1 : f ≤ 18446744073709551615) : Ev (fun k => format_Number.f k kind width scale f) (numberS kind width scale f) := by
  unfold format_Number.f numberS
  refine Ev.bind (evn_Range _ _ _ hk hk') ?_
  unfold rangeS
  by_cases h : okArgs kind width scale
  · simp only [if_pos h, if_true]
    obtain ⟨_, hw, hs⟩ := h
    have hb := ends_bound (kind := kind) hw.1 hw.2
    have hsc := pw_scale hs.1 hs.2
    simp only [fits_f h0 h1 (show 0 ≤ width by omega), Option.bind_some]
    by_cases c : f < pw width
    · have p1 := pw32 hw.2
      have hbb := back_bound (kind := kind) hw.1 h0 c
      simp only [decide_eq_true c, if_true, if_pos c, if_pos hs.1]
      have e0 : wrap64 f = f := by unfold wrap64; omega
      have e1 : shl .i64 f scale = f * pw scale := by
        rw [shl64 hs.1 (by omega) (by rcases hsc with e | e | e | e <;> rw [e] <;> omega) (by rcases hsc with e | e | e | e <;> rw [e] <;> omega)]
      have e2 : wrap64 (width + scale) = width + scale := by unfold wrap64; omega
      have e3 : pw (width + scale) = pw width * pw scale := pw_add (by omega) hs.1
      have hws : 0 ≤ width + scale := by omega
      have e4 : shl .i64 1 (width + scale) = pw width * pw scale := by
        rw [shl64 (by omega) (by omega) (by rw [e3]; rcases hsc with e | e | e | e <;> rw [e] <;> omega) (by rw [e3]; rcases hsc with e | e | e | e <;> rw [e] <;> omega), e3]
        omega
      simp only [e0, e1, e2, e4, if_pos hws]
      unfold backI at hbb ⊢
      by_cases c2 : f > hiI kind width
      · have : f * pw scale > pw scale * hiI kind width := by rcases hsc with e | e | e | e <;> rw [e] <;> omega
        simp only [if_pos this, if_pos c2] at hbb ⊢
        have e5 : wrap64 (f * pw scale - pw width * pw scale) = (f - pw width) * pw scale := by
          rcases hsc with e | e | e | e <;> rw [e] <;> unfold wrap64 <;> omega
        rw [e5]
        exact Ev.now _
      · have : ¬ f * pw scale > pw scale * hiI kind width := by rcases hsc with e | e | e | e <;> rw [e] <;> omega
        simp only [if_neg this, if_neg c2]
        exact Ev.now _
    · simp only [decide_eq_false c, Bool.false_eq_true, if_false, if_neg c]
      exact Ev.now _
  · simp only [if_neg h]
    rw [if_neg (by decide)]
    exact Ev.now _
theorem evn_refNumber (kind width scale f : Int) (h0 : 0 ≤ f) (h1 : f ≤ 18446744073709551615) : Ev (fun k => retargetref09_Number.f k kind width scale f) (numberS kind width scale f) := by
  unfold retargetref09_Number.f numberS
  simp only [number_f, Option.bind_some]
  by_cases h : okArgs kind width scale
  · simp only [decide_eq_true h, if_true, if_pos h]
    obtain ⟨_, hw, hs⟩ := h
    have hb := ends_bound (kind := kind) hw.1 hw.2
    have hsc := pw_scale hs.1 hs.2
    refine Ev.bind (evn_below h0 h1 (by omega) (by omega)) ?_
    by_cases c : f < pw width
    · simp only [decide_eq_true c, if_true, if_pos c]
      refine Ev.bind (evn_ends hw.1 hw.2) ?_
      have p1 := pw32 hw.2
      have hbb := back_bound (kind := kind) hw.1 h0 c
      have e0 : wrap64 f = f := by unfold wrap64; omega
      simp only [e0]
      unfold backI at hbb ⊢
      by_cases c2 : f > hiI kind width
      · simp only [if_pos c2] at hbb ⊢
        refine Ev.bind (evn_Power (by omega) (by omega)) (Ev.bind (evn_Power hs.1 (by omega)) ?_)
        have e5 : wrap64 (wrap64 (f - pw width) * pw scale) = (f - pw width) * pw scale := by
          rcases hsc with e | e | e | e <;> rw [e] <;> unfold wrap64 <;> omega
        rw [e5]
        exact Ev.now _
      · simp only [if_neg c2] at hbb ⊢
        refine Ev.bind (evn_Power hs.1 (by omega)) ?_
        have e5 : wrap64 (f * pw scale) = f * pw scale := by
          rcases hsc with e | e | e | e <;> rw [e] <;> unfold wrap64 <;> omega
        rw [e5]
        exact Ev.now _
    · simp only [decide_eq_false c, Bool.false_eq_true, if_false, if_neg c]
      exact Ev.now _
  · simp only [decide_eq_false h, Bool.false_eq_true, if_false, if_neg h]
    exact Ev.now _

theorem xor_neg1 {x : Int} (h : -9223372036854775808 ≤ x ∧ x ≤ 9223372036854775807) : Go.bits .xor .i64 (-1) x = -x - 1 := by
  show IntKind.i64.wrap ((BitVec.ofInt 64 (-1) ^^^ BitVec.ofInt 64 x).toNat : Int) = _
  rw [show BitVec.ofInt 64 (-1) = BitVec.allOnes 64 from by decide, BitVec.allOnes_xor, BitVec.toNat_not, BitVec.toNat_ofInt, IntKind.wrap_i64]
  omega

/-- The least width for an integer. -/
def fitW (kind k : Int) : Int := if kind = 3 then (if (Lib.bitLen k.toNat : Int) < 1 then 1 else Lib.bitLen k.toNat) else (if k < 0 then Lib.bitLen (-k - 1).toNat else Lib.bitLen k.toNat) + 1
def fitS (kind scale n : Int) : Int × Int := if okArgs kind 1 scale then (if inS kind 32 scale n then (fitW kind (n / pw scale), 0) else (0, 24)) else (0, 2)
theorem pw_nat (w : Int) : pw w = ((2 ^ w.toNat : Nat) : Int) := by simp [pw]
theorem bitLen_int {x w : Int} (h0 : 0 ≤ x) (h1 : x ≤ 18446744073709551615) (hw : 0 ≤ w) : (Lib.bitLen x.toNat : Int) ≤ w ↔ x < pw w := by
  have := bitLen_iff x.toNat w.toNat (by omega)
  rw [pw_nat]
  omega
theorem in_fit {kind scale n w : Int} (hk : 2 ≤ kind ∧ kind ≤ 4) (hs : 0 ≤ scale ∧ scale ≤ 3) (hn : -9223372036854775808 ≤ n ∧ n ≤ 9223372036854775807) (hw : 1 ≤ w ∧ w ≤ 32) :
    inS kind w scale n ↔ (n % pw scale = 0 ∧ (kind = 3 → 0 ≤ n / pw scale)) ∧ fitW kind (n / pw scale) ≤ w := by
  have hsc := pw_scale hs.1 hs.2
  have hb : -9223372036854775808 ≤ n / pw scale ∧ n / pw scale ≤ 9223372036854775807 := by
    rcases hsc with e | e | e | e <;> rw [e] <;> omega
  unfold inS
  generalize n / pw scale = q at hb ⊢
  unfold fitW loI hiI
  by_cases c : kind = 3
  · simp only [if_pos c]
    by_cases c0 : 0 ≤ q
    · have := bitLen_int (x := q) (w := w) c0 (by omega) (by omega)
      split <;> omega
    · omega
  · simp only [if_neg c]
    by_cases c0 : q < 0
    · have := bitLen_int (x := -q - 1) (w := w - 1) (by omega) (by omega) (by omega)
      rw [if_pos c0]
      omega
    · have := bitLen_int (x := q) (w := w - 1) (by omega) (by omega) (by omega)
      rw [if_neg c0]
      omega
theorem fitW_one (kind k : Int) : 1 ≤ fitW kind k := by
  unfold fitW
  split <;> split <;> omega
theorem ok_width {kind w w' scale : Int} (hw : 1 ≤ w ∧ w ≤ 32) (hw' : 1 ≤ w' ∧ w' ≤ 32) : okArgs kind w scale ↔ okArgs kind w' scale := by
  unfold okArgs; omega
theorem evn_Fit (kind scale n : Int) (hk : 0 ≤ kind) (hk' : kind ≤ 255) (hn : -9223372036854775808 ≤ n ∧ n ≤ 9223372036854775807) : Ev (fun k => format_Fit.f k kind scale n) (fitS kind scale n) := by
  unfold format_Fit.f fitS
  refine Ev.bind (evn_Field _ _ _ _ hk hk') ?_
  unfold fieldS
  by_cases h : okArgs kind 32 scale
  · have h1 : okArgs kind 1 scale := (ok_width (by omega) (by omega)).1 h
    simp only [if_pos h, if_pos h1]
    obtain ⟨hkk, _, hs⟩ := h
    by_cases c : inS kind 32 scale n
    · have hsc := pw_scale hs.1 hs.2
      have hb : -9223372036854775808 ≤ n / pw scale ∧ n / pw scale ≤ 9223372036854775807 := by
        rcases hsc with e | e | e | e <;> rw [e] <;> omega
      have hf := (in_fit hkk hs hn (w := 32) (by omega)).1 c
      simp only [if_pos c, if_true, if_pos hs.1, shr64 hs.1 (show scale ≤ 40 by omega)]
      revert hb hf
      generalize n / pw scale = q
      intro hb hf
      unfold fitW at *
      by_cases c3 : kind = 3
      · have h0 := hf.1.2 c3
        have e : IntKind.u64.wrap q = q := by rw [IntKind.wrap_u64]; omega
        simp only [if_pos c3, e, bits_Len64.f]
        rw [if_pos ⟨h0, by omega⟩]
        simp only [Option.bind_some, mx]
        have e2 : (if (1 : Int) < (Lib.bitLen q.toNat : Int) then (Lib.bitLen q.toNat : Int) else 1) = if (Lib.bitLen q.toNat : Int) < 1 then 1 else (Lib.bitLen q.toNat : Int) := by
          split <;> split <;> omega
        rw [e2]
        exact Ev.now _
      · simp only [if_neg c3] at hf ⊢
        by_cases c4 : q < 0
        · have e : IntKind.u64.wrap (-q - 1) = -q - 1 := by rw [IntKind.wrap_u64]; omega
          simp only [if_pos c4] at hf
          simp only [if_pos c4, xor_neg1 hb, e, bits_Len64.f]
          rw [if_pos ⟨by omega, by omega⟩]
          simp only [Option.bind_some]
          have e2 : wrap64 ((Lib.bitLen (-q - 1).toNat : Int) + 1) = (Lib.bitLen (-q - 1).toNat : Int) + 1 := by unfold wrap64; omega
          rw [e2]
          exact Ev.now _
        · have e : IntKind.u64.wrap q = q := by rw [IntKind.wrap_u64]; omega
          simp only [if_neg c4] at hf
          simp only [if_neg c4, e, bits_Len64.f]
          rw [if_pos ⟨by omega, by omega⟩]
          simp only [Option.bind_some]
          have e2 : wrap64 ((Lib.bitLen q.toNat : Int) + 1) = (Lib.bitLen q.toNat : Int) + 1 := by unfold wrap64; omega
          rw [e2]
          exact Ev.now _
    · simp only [if_neg c]
      rw [if_neg (by decide)]
      exact Ev.now _
  · have h1 : ¬ okArgs kind 1 scale := fun hh => h ((ok_width (by omega) (by omega)).1 hh)
    simp only [if_neg h, if_neg h1]
    rw [if_neg (by decide)]
    exact Ev.now _
theorem evn_refFit_l0 {kind scale n : Int} (hkk : 2 ≤ kind ∧ kind ≤ 4) (hs : 0 ≤ scale ∧ scale ≤ 3) (hn : -9223372036854775808 ≤ n ∧ n ≤ 9223372036854775807) :
    ∀ (d : Nat) (w : Int), 1 ≤ w → w ≤ 33 → 33 - w = d → ((n % pw scale = 0 ∧ (kind = 3 → 0 ≤ n / pw scale)) → w ≤ fitW kind (n / pw scale)) →
      Ev (fun k => retargetref09_Fit.l0 k kind scale n w) (if inS kind 32 scale n then (fitW kind (n / pw scale), 0) else (0, 24))
  | 0, w, h1, h2, h3, h4 => by
    have : ¬ inS kind 32 scale n := by
      rw [in_fit hkk hs hn (by omega)]
      intro h
      have := h4 h.1
      omega
    rw [if_neg this]
    refine Ev.step (f := fun k => some (0, 24)) (fun k => ?_) (Ev.now _)
    simp only [retargetref09_Fit.l0]
    rw [if_neg (by omega)]
  | d + 1, w, h1, h2, h3, h4 => by
    have e : wrap64 (w + 1) = w + 1 := by unfold wrap64; omega
    refine Ev.step (f := fun k => (retargetref09_in.f k kind w scale n).bind fun t => if t = true then some (w, 0) else retargetref09_Fit.l0 k kind scale n (w + 1)) (fun k => ?_) ?_
    · simp only [retargetref09_Fit.l0]
      rw [if_pos (by omega), e]
    · refine Ev.bind (evn_in (by omega) hs hn) ?_
      by_cases c : inS kind w scale n
      · have c1 := (in_fit hkk hs hn (w := w) (by omega)).1 c
        have c2 : inS kind 32 scale n := (in_fit hkk hs hn (w := 32) (by omega)).2 ⟨c1.1, by omega⟩
        have := h4 c1.1
        have e2 : fitW kind (n / pw scale) = w := by omega
        simp only [decide_eq_true c, if_true, if_pos c2, e2]
        exact Ev.now _
      · simp only [decide_eq_false c, Bool.false_eq_true, if_false]
        refine evn_refFit_l0 hkk hs hn d (w + 1) (by omega) (by omega) (by omega) (fun h => ?_)
        have := h4 h
        have c1 := mt (in_fit hkk hs hn (w := w) (by omega)).2 c
        have : ¬ fitW kind (n / pw scale) ≤ w := fun hh => c1 ⟨h, hh⟩
        omega
theorem evn_refFit (kind scale n : Int) (hn : -9223372036854775808 ≤ n ∧ n ≤ 9223372036854775807) : Ev (fun k => retargetref09_Fit.f k kind scale n) (fitS kind scale n) := by
  unfold retargetref09_Fit.f fitS
  simp only [number_f, Option.bind_some]
  by_cases h : okArgs kind 1 scale
  · simp only [decide_eq_true h, if_true, if_pos h]
    obtain ⟨hkk, _, hs⟩ := h
    exact evn_refFit_l0 hkk hs hn 32 1 (by omega) (by omega) (by omega) (fun _ => fitW_one _ _)
  · simp only [decide_eq_false h, Bool.false_eq_true, if_false, if_neg h]
    exact Ev.now _
end Go.Proofs.Ytgbciglkfbiopaa.Q
