/- Plain law for package format's layouts: what the program's Mask, Get and Put answer, by the bits at places. -/
import Derived.Test.YtgbciglkfbiopaaBit7
namespace Go.Proofs.Ytgbciglkfbiopaa.Q
open Go.RowKit Go.Proofs.YtgbciglkfbiopaaW.PrintWords Go.Proofs.YtgbciglkfbiopaaW.PrintLast Go.Proofs.YtgbciglkfbiopaaW.PrintMore
set_option linter.unusedVariables false
set_option linter.unusedSimpArgs false

def maskR (size : Int) (l : List S41) : Int × Int := if chkS size l = 0 then ((orM (plN l) : Int), 0) else (0, chkS size l)
def getR (size word : Int) (l : List S41) : Int × Int := if chkS size l = 0 then (if word < pw size then ((getS word.toNat (plN l) : Int), 0) else (0, 24)) else (0, chkS size l)
def putR (size word : Int) (l : List S41) (field : Int) : Int × Int := if chkS size l = 0 then (if word < pw size ∧ field < pw ((plN l).length : Int) then ((putN word.toNat field.toNat (plN l) : Int), 0) else (0, 24)) else (0, chkS size l)
theorem w64m {x : Int} (h : -1000000 ≤ x) (h' : x ≤ 1000000) : wrap64 x = x := by unfold wrap64; omega
def pairsF : Int → List S41 → List (S41 × Int)
  | _, [] => []
  | a, p :: l => (p, a) :: pairsF (a + p.f1) l
theorem atN_cons (p : S41) (l : List S41) (j : Nat) : atN (p :: l) (j + 1) = p.f1 + atN l j := by simp [atN]
theorem pairs_cons (p : S41) (l : List S41) : pairs (p :: l) = (p, 0) :: (pairs l).map (fun x => (x.1, p.f1 + x.2)) := by
  unfold pairs
  rw [List.length_cons, List.range_succ_eq_map, List.map_cons, List.map_map, List.map_map]
  congr 1
theorem pairsF_eq : ∀ (l : List S41) (a : Int), pairsF a l = (pairs l).map (fun x => (x.1, a + x.2))
  | [], a => by simp [pairsF, pairs]
  | p :: l, a => by
    rw [pairs_cons, pairsF, pairsF_eq l, List.map_cons, List.map_map]
    simp only [Int.add_zero]
    congr 1
    refine List.map_congr_left fun x _ => ?_
    simp [Int.add_assoc]
theorem pairs_eq (l : List S41) : pairs l = pairsF 0 l := by rw [pairsF_eq]; simp
theorem mask_fold {size : Int} (hs : size ≤ 64) : ∀ (l : List S41) (a : Int) (pl : List Nat), (∀ p ∈ l, inWord size p) → (∀ j ∈ pl, j < 64) → (pairsF a l).foldl maskStep (orM pl : Int) = ((orM (pl ++ plN l) : Nat) : Int)
  | [], a, pl, _, _ => by simp [pairsF, plN]
  | p :: l, a, pl, h, h64 => by
    have hw := h p (by simp)
    have hr : ∀ j ∈ rngP p, j < 64 := fun j hj => by have := rng_lt hw j hj; omega
    have e := pm_nat hs hw
    unfold pm at e
    simp only [pairsF, List.foldl_cons, maskStep, e]
    rw [u64_or_nat _ _ (orM64 h64) (orM64 hr), ← orM_app, mask_fold hs l _ (pl ++ rngP p) (fun q hq => h q (by simp [hq])) (fun j hj => by rcases List.mem_append.1 hj with hj | hj; exact h64 j hj; exact hr j hj), plN_cons, List.append_assoc]
theorem maskOf_nat {size : Int} (hs : size ≤ 64) {l : List S41} (hv : V size l) : maskOf l = ((orM (plN l) : Nat) : Int) := by
  unfold maskOf
  rw [pairs_eq]
  have := mask_fold hs l 0 [] hv.1 (by simp)
  simpa [orM] using this
theorem rngP_len {size : Int} {p : S41} (h : inWord size p) : (rngP p).length = p.f1.toNat := by simp [rngP]
theorem get_fold {size : Int} (hs : size ≤ 64) (w : Nat) (hw64 : w < 18446744073709551616) : ∀ (l : List S41) (pl : List Nat), (∀ p ∈ l, inWord size p) → pl.length + (plN l).length ≤ 64 → (pairsF (pl.length : Int) l).foldl (getStep (w : Int)) (getS w pl : Int) = ((getS w (pl ++ plN l) : Nat) : Int)
  | [], pl, _, _ => by simp [pairsF, plN]
  | p :: l, pl, h, hlen => by
    have hw := h p (by simp)
    obtain ⟨⟨h1, h2⟩, h3, h4⟩ := hw
    rw [plN_cons, List.length_append, rngP_len (h p (by simp))] at hlen
    have hm : (2 ^ p.f1.toNat - 1) < 18446744073709551616 := by
      have := Nat.pow_le_pow_right (n := 2) (by decide) (show p.f1.toNat ≤ 64 by omega)
      have := Nat.two_pow_pos p.f1.toNat
      omega
    have hg : getS w (rngP p) = w / 2 ^ p.f0.toNat % 2 ^ p.f1.toNat := getS_range w _ _
    have hgl := getS_lt w (rngP p)
    rw [rngP_len (h p (by simp))] at hgl
    have hvl : getS w (rngP p) * 2 ^ pl.length < 18446744073709551616 := by
      have a1 : getS w (rngP p) * 2 ^ pl.length < 2 ^ p.f1.toNat * 2 ^ pl.length := Nat.mul_lt_mul_of_pos_right hgl (Nat.two_pow_pos _)
      rw [← Nat.pow_add] at a1
      exact Nat.lt_of_lt_of_le a1 (show _ ≤ 2 ^ 64 from Nat.pow_le_pow_right (by decide) (by omega))
    have hpl := getS_lt w pl
    have hpl64 : getS w pl < 18446744073709551616 := Nat.lt_of_lt_of_le hpl (show _ ≤ 2 ^ 64 from Nat.pow_le_pow_right (by decide) (by omega))
    have e : getStep (w : Int) (getS w pl : Int) (p, (pl.length : Int)) = ((getS w (pl ++ rngP p) : Nat) : Int) := by
      unfold getStep
      simp only
      rw [mk_nat h1 (by omega), shr_nat (p := p.f0.toNat) (by omega) (by omega), u64_and_nat _ _ (Nat.lt_of_le_of_lt (Nat.div_le_self _ _) hw64) hm, Nat.and_two_pow_sub_one_eq_mod, ← hg, shl_nat rfl (by omega) hvl, u64_or_nat _ _ hpl64 hvl, Nat.or_comm, Nat.mul_comm, ← Nat.two_pow_add_eq_or_of_lt hpl, getS_app, Nat.add_comm]
    simp only [pairsF, List.foldl_cons, e]
    have ih := get_fold hs w hw64 l (pl ++ rngP p) (fun q hq => h q (by simp [hq])) (by rw [List.length_append, rngP_len (h p (by simp))]; omega)
    rw [show (pl.length : Int) + p.f1 = ((pl ++ rngP p).length : Int) from by rw [List.length_append, rngP_len (h p (by simp))]; omega, ih, plN_cons, List.append_assoc]
theorem getOf_nat {size : Int} (hs : size ≤ 64) {l : List S41} (hv : V size l) {w : Nat} (hw : w < 18446744073709551616) : getOf (w : Int) l = ((getS w (plN l) : Nat) : Int) := by
  unfold getOf
  rw [pairs_eq]
  have := get_fold hs w hw l [] hv.1 (by simpa using V_len hs hv)
  simpa [getS] using this
theorem put_fold {size : Int} (hs : size ≤ 64) (x : Nat) (hx : x < 18446744073709551616) : ∀ (l : List S41) (b n : Nat), b < 18446744073709551616 → (∀ p ∈ l, inWord size p) → n + (plN l).length ≤ 64 → (pairsF (n : Int) l).foldl (putStep (x : Int)) (b : Int) = ((b ||| orF (x / 2 ^ n) (plN l) : Nat) : Int)
  | [], b, n, _, _, _ => by simp [pairsF, plN, orF]
  | p :: l, b, n, hb, h, hlen => by
    have hw := h p (by simp)
    obtain ⟨⟨h1, h2⟩, h3, h4⟩ := hw
    rw [plN_cons, List.length_append, rngP_len (h p (by simp))] at hlen
    have hm : (2 ^ p.f1.toNat - 1) < 18446744073709551616 := by
      have := Nat.pow_le_pow_right (n := 2) (by decide) (show p.f1.toNat ≤ 64 by omega)
      have := Nat.two_pow_pos p.f1.toNat
      omega
    have hg : orF (x / 2 ^ n) (rngP p) = x / 2 ^ n % 2 ^ p.f1.toNat * 2 ^ p.f0.toNat := orF_range _ _ _
    have hvl : x / 2 ^ n % 2 ^ p.f1.toNat * 2 ^ p.f0.toNat < 18446744073709551616 := by
      have a1 : x / 2 ^ n % 2 ^ p.f1.toNat * 2 ^ p.f0.toNat < 2 ^ p.f1.toNat * 2 ^ p.f0.toNat := Nat.mul_lt_mul_of_pos_right (Nat.mod_lt _ (Nat.two_pow_pos _)) (Nat.two_pow_pos _)
      rw [← Nat.pow_add] at a1
      exact Nat.lt_of_lt_of_le a1 (show _ ≤ 2 ^ 64 from Nat.pow_le_pow_right (by decide) (by omega))
    have e : putStep (x : Int) (b : Int) (p, (n : Int)) = ((b ||| orF (x / 2 ^ n) (rngP p) : Nat) : Int) := by
      unfold putStep
      simp only
      rw [mk_nat h1 (by omega), shr_nat (p := n) rfl (by omega), u64_and_nat _ _ (Nat.lt_of_le_of_lt (Nat.div_le_self _ _) hx) hm, Nat.and_two_pow_sub_one_eq_mod, shl_nat (p := p.f0.toNat) (by omega) (by omega) hvl, u64_or_nat _ _ hb hvl, hg]
    simp only [pairsF, List.foldl_cons, e]
    have hb2 : b ||| orF (x / 2 ^ n) (rngP p) < 18446744073709551616 := by rw [hg]; exact Nat.or_lt_two_pow (n := 64) hb hvl
    have ih := put_fold hs x hx l (b ||| orF (x / 2 ^ n) (rngP p)) (n + p.f1.toNat) hb2 (fun q hq => h q (by simp [hq])) (by omega)
    rw [show (n : Int) + p.f1 = ((n + p.f1.toNat : Nat) : Int) from by omega, ih, plN_cons, orF_app, rngP_len (h p (by simp)), Nat.div_div_eq_div_mul, ← Nat.pow_add, Nat.or_assoc]
theorem putOf_nat {size : Int} (hs : size ≤ 64) {l : List S41} (hv : V size l) {w x : Nat} (hw : w < 18446744073709551616) (hx : x < 18446744073709551616) : putOf (w : Int) (orM (plN l) : Int) (x : Int) l = ((putN w x (plN l) : Nat) : Int) := by
  unfold putOf putN
  have hm := orM64 (V_64 hs hv)
  rw [pairs_eq, u64_andNot_nat _ _ hw hm]
  have := put_fold hs x hx l (w &&& (18446744073709551615 - orM (plN l))) 0 (Nat.and_lt_two_pow (n := 64) _ (by omega)) hv.1 (by have := V_len hs hv; omega)
  simpa using this
theorem evn_Mask (size : Int) (l : List S41) : Ev (fun k => format_Mask.f k size l) (maskR size l) := by
  unfold format_Mask.f maskR
  refine Ev.bind (evn_Check size l) ?_
  by_cases h : chkS size l = 0
  · simp only [if_pos h]
    obtain ⟨hs, hl, hv⟩ := chkS_zero.1 h
    rw [maskOf_nat hs.2 hv]
    exact Ev.now _
  · simp only [if_neg h]; exact Ev.now _
theorem evn_Get (size word : Int) (l : List S41) (h0 : 0 ≤ word) (h1 : word ≤ 18446744073709551615) : Ev (fun k => format_Get.f k size word l) (getR size word l) := by
  unfold format_Get.f getR
  refine Ev.bind (evn_Check size l) ?_
  by_cases h : chkS size l = 0
  · simp only [if_pos h]
    obtain ⟨hs, hl, hv⟩ := chkS_zero.1 h
    rw [fits_f h0 h1 (by omega)]
    have e := getOf_nat hs.2 hv (w := word.toNat) (by omega)
    rw [Int.toNat_of_nonneg h0] at e
    simp only [Option.bind_some, decide_eq_true_eq, e]
    by_cases hw : word < pw size
    · simp only [if_pos hw]; exact Ev.now _
    · simp only [if_neg hw]; exact Ev.now _
  · simp only [if_neg h]; exact Ev.now _
theorem evn_Put (size word : Int) (l : List S41) (field : Int) (h0 : 0 ≤ word) (h1 : word ≤ 18446744073709551615) (k0 : 0 ≤ field) (k1 : field ≤ 18446744073709551615) : Ev (fun k => format_Put.f k size word l field) (putR size word l field) := by
  unfold format_Put.f putR
  refine Ev.bind (evn_Mask size l) ?_
  unfold maskR
  by_cases h : chkS size l = 0
  · simp only [if_pos h]
    obtain ⟨hs, hl, hv⟩ := chkS_zero.1 h
    have hpop := ones_f (x := orM (plN l)) (orM64 (V_64 hs.2 hv))
    rw [pop_orM 64 _ hv.2 (V_64 hs.2 hv)] at hpop
    rw [fits_f h0 h1 (by omega), hpop]
    simp only [Option.bind_some, decide_eq_true_eq, if_true]
    rw [fits_f k0 k1 (by omega)]
    have e := putOf_nat hs.2 hv (w := word.toNat) (x := field.toNat) (by omega) (by omega)
    rw [Int.toNat_of_nonneg h0, Int.toNat_of_nonneg k0] at e
    simp only [Option.bind_some, decide_eq_true_eq, e]
    by_cases hw : word < pw size
    · simp only [if_pos hw]
      by_cases hf : field < pw ((plN l).length : Int)
      · simp only [if_pos hf, if_pos (And.intro hw hf)]; exact Ev.now _
      · simp only [if_neg hf, if_neg (fun c : word < pw size ∧ _ => hf c.2)]; exact Ev.now _
    · simp only [if_neg hw, if_neg (fun c : word < pw size ∧ _ => hw c.1)]; exact Ev.now _
  · simp only [if_neg h]; exact Ev.now _
end Go.Proofs.Ytgbciglkfbiopaa.Q
