/- Plain law for package format's layouts: what the program's Check answers, by the bits at places. -/
import Derived.Test.YtgbciglkfbiopaaBit2
import Derived.Test.YtgbciglkfbiopaaNum
import Derived.Test.YtgbciglkfbiopaaQx7
import Derived.Test.YtgbciglkfbiopaaQx8
import Derived.Test.YtgbciglkfbiopaaQx10
namespace Go.Proofs.Ytgbciglkfbiopaa.Q
open Go.RowKit Go.Proofs.YtgbciglkfbiopaaW.PrintWords Go.Proofs.YtgbciglkfbiopaaW.PrintLast Go.Proofs.YtgbciglkfbiopaaW.PrintMore
set_option linter.unusedVariables false
set_option linter.unusedSimpArgs false

def rngP (p : S41) : List Nat := List.range' p.f0.toNat p.f1.toNat
def plN (l : List S41) : List Nat := l.flatMap rngP
theorem plN_app (a b : List S41) : plN (a ++ b) = plN a ++ plN b := by simp [plN]
theorem plN_one (p : S41) : plN [p] = rngP p := by simp [plN]
theorem plN_cons (p : S41) (l : List S41) : plN (p :: l) = rngP p ++ plN l := by simp [plN]
/-- A valid layout. -/
def V (size : Int) (l : List S41) : Prop := (∀ p ∈ l, inWord size p) ∧ (plN l).Nodup
instance (size : Int) (l : List S41) : Decidable (V size l) := by unfold V; exact inferInstance
theorem V_nil (size : Int) : V size [] := ⟨fun p h => (nomatch h), List.nodup_nil⟩
theorem V_pre {size : Int} {a b : List S41} (h : V size (a ++ b)) : V size a := ⟨fun p hp => h.1 p (by simp [hp]), by have := h.2; rw [plN_app] at this; exact (List.nodup_append.1 this).1⟩
theorem V_snoc {size : Int} {a : List S41} {p : S41} (h : V size a) : V size (a ++ [p]) ↔ inWord size p ∧ ∀ j ∈ plN a, j ∉ rngP p := by
  unfold V
  rw [plN_app, plN_one, List.nodup_append]
  refine ⟨fun ⟨h1, _, _, h4⟩ => ⟨h1 p (by simp), fun j ha hb => h4 j ha j hb rfl⟩, fun ⟨h1, h2⟩ => ⟨fun q hq => ?_, h.2, List.nodup_range', fun a ha b hb e => h2 a ha (by rw [e]; exact hb)⟩⟩
  rcases List.mem_append.1 hq with hq | hq
  · exact h.1 q hq
  · rw [List.mem_singleton] at hq; rw [hq]; exact h1
theorem rng_lt {size : Int} {p : S41} (h : inWord size p) : ∀ j ∈ rngP p, j < size.toNat := by
  intro j hj
  unfold rngP at hj
  rw [List.mem_range'_1] at hj
  obtain ⟨⟨h1, h2⟩, h3, h4⟩ := h
  omega
theorem V_lt {size : Int} {l : List S41} (h : V size l) : ∀ j ∈ plN l, j < size.toNat := by
  intro j hj
  unfold plN at hj
  obtain ⟨p, hp, hj⟩ := List.mem_flatMap.1 hj
  exact rng_lt (h.1 p hp) j hj
theorem V_64 {size : Int} {l : List S41} (hs : size ≤ 64) (h : V size l) : ∀ j ∈ plN l, j < 64 := fun j hj => by have := V_lt h j hj; omega
theorem V_len {size : Int} {l : List S41} (hs : size ≤ 64) (h : V size l) : (plN l).length ≤ 64 := nodup_le 64 _ h.2 (V_64 hs h)

theorem mk_nat {n : Int} (h : 1 ≤ n) (h' : n ≤ 64) : mk_ n = ((2 ^ n.toNat - 1 : Nat) : Int) := by
  have h1 := mask_some h h'
  rw [mask_pw h h'] at h1
  have h2 := (Option.some.inj h1).symm
  rw [h2, pw_nat]
  have := Nat.two_pow_pos n.toNat
  omega
theorem piece_lt {n p : Nat} (h : n + p ≤ 64) : (2 ^ n - 1) * 2 ^ p < 18446744073709551616 := by
  have h1 : (2 ^ n - 1) * 2 ^ p < 2 ^ n * 2 ^ p := Nat.mul_lt_mul_of_pos_right (by have := Nat.two_pow_pos n; omega) (Nat.two_pow_pos p)
  rw [← Nat.pow_add] at h1
  exact Nat.lt_of_lt_of_le h1 (Nat.pow_le_pow_right (n := 2) (by decide) h)
/-- A value shifted to the left within the word. -/
theorem shl_nat {v p : Nat} {a : Int} (ha : a = (p : Int)) (hp : p ≤ 64) (h : v * 2 ^ p < 18446744073709551616) : shl .u64 (v : Int) a = ((v * 2 ^ p : Nat) : Int) := by
  unfold shl
  rw [ha, Int.toNat_natCast, show min p IntKind.u64.bits = p from Nat.min_eq_left hp, show (v : Int) * 2 ^ p = ((v * 2 ^ p : Nat) : Int) from by simp, w_u64 h]
theorem shr_nat {v p : Nat} {a : Int} (ha : a = (p : Int)) (hp : p ≤ 64) : shr .u64 (v : Int) a = ((v / 2 ^ p : Nat) : Int) := by
  unfold shr
  rw [ha, Int.toNat_natCast, show min p IntKind.u64.bits = p from Nat.min_eq_left hp]
  simp
theorem pm_nat {size : Int} {p : S41} (hs : size ≤ 64) (h : inWord size p) : pm p = ((orM (rngP p) : Nat) : Int) := by
  obtain ⟨⟨h1, h2⟩, h3, h4⟩ := h
  unfold pm rngP
  rw [mk_nat h1 (by omega), orM_range]
  exact shl_nat (by omega) (by omega) (piece_lt (by omega))
theorem orM64 {pl : List Nat} (h : ∀ j ∈ pl, j < 64) : orM pl < 18446744073709551616 := orM_lt h
theorem take_snoc {l : List S41} {i : Nat} (h : i < l.length) : l.take (i + 1) = l.take i ++ [l.getD i z41] := by
  rw [List.take_succ_eq_append_getElem h, List.getD_eq_getElem?_getD, List.getElem?_eq_getElem h]; rfl
theorem take_snocN {l : List Nat} {i : Nat} (h : i < l.length) : l.take (i + 1) = l.take i ++ [l.getD i 0] := by
  rw [List.take_succ_eq_append_getElem h, List.getD_eq_getElem?_getD, List.getElem?_eq_getElem h]; rfl
def chkV (size : Int) (l : List S41) : Int := if V size l then 0 else 8
theorem chk_eq {size : Int} (hs : size ≤ 64) : ∀ (l pre : List S41), V size pre → chk size (orM (plN pre) : Int) l = chkV size (pre ++ l)
  | [], pre, h => by unfold chkV chk; rw [List.append_nil, if_pos h]
  | p :: ps, pre, h => by
    have e : pre ++ p :: ps = (pre ++ [p]) ++ ps := by simp
    unfold chk
    by_cases hi : inWord size p
    · rw [if_pos hi, pm_nat hs hi, u64_and_nat _ _ (orM64 (V_64 hs h)) (orM64 (fun j hj => by have := rng_lt hi j hj; omega)), u64_or_nat _ _ (orM64 (V_64 hs h)) (orM64 (fun j hj => by have := rng_lt hi j hj; omega))]
      by_cases hd : ∀ j ∈ plN pre, j ∉ rngP p
      · rw [if_pos (by rw [orM_and.2 hd]; rfl), ← orM_app, ← plN_one, ← plN_app, chk_eq hs ps (pre ++ [p]) ((V_snoc h).2 ⟨hi, hd⟩), e]
      · rw [if_neg (fun h0 => hd (orM_and.1 (by exact_mod_cast h0)))]
        unfold chkV
        rw [if_neg (fun hv => hd ((V_snoc h).1 (V_pre (by rw [e] at hv; exact hv))).2)]
    · rw [if_neg hi]
      unfold chkV
      rw [if_neg (fun hv => hi (hv.1 p (by simp)))]
/-- What Check answers. -/
def chkS (size : Int) (l : List S41) : Int := if 1 ≤ size ∧ size ≤ 64 then (if (l.length : Int) > 4 then 4 else chkV size l) else 2
theorem chkS_eq (size : Int) (l : List S41) : chkSpec size l = chkS size l := by
  unfold chkSpec chkS
  by_cases h : 1 ≤ size ∧ size ≤ 64
  · rw [if_pos h, if_pos h]
    have := chk_eq h.2 l [] (V_nil size)
    simp only [plN, List.flatMap_nil, orM, List.nil_append] at this
    rw [show ((0 : Nat) : Int) = 0 from rfl] at this
    rw [this]
  · rw [if_neg h, if_neg h]
theorem chkS_zero {size : Int} {l : List S41} : chkS size l = 0 ↔ (1 ≤ size ∧ size ≤ 64) ∧ l.length ≤ 4 ∧ V size l := by
  unfold chkS chkV
  by_cases h : 1 ≤ size ∧ size ≤ 64
  · rw [if_pos h]
    by_cases h4 : (l.length : Int) > 4
    · rw [if_pos h4]; exact ⟨fun e => by simp at e, fun ⟨_, e, _⟩ => by omega⟩
    · rw [if_neg h4]
      by_cases hv : V size l
      · rw [if_pos hv]; exact ⟨fun _ => ⟨h, by omega, hv⟩, fun _ => rfl⟩
      · rw [if_neg hv]; exact ⟨fun e => by simp at e, fun ⟨_, _, e⟩ => (hv e).elim⟩
  · rw [if_neg h]; exact ⟨fun e => by simp at e, fun ⟨e, _⟩ => (h e).elim⟩
theorem evn_Check (size : Int) (l : List S41) : Ev (fun k => format_Check.f k size l) (chkS size l) := by rw [← chkS_eq]; exact ev_Check size l

end Go.Proofs.Ytgbciglkfbiopaa.Q
