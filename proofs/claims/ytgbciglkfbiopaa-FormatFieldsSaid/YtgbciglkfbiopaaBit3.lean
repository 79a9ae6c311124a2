/- Plain law for package format's layouts: what Check, Mask, Get and Put answer (program and reference), by the bits at places. -/
import Derived.Test.YtgbciglkfbiopaaBit2
import Derived.Test.YtgbciglkfbiopaaNum
import Derived.Test.YtgbciglkfbiopaaQx7
import Derived.Test.YtgbciglkfbiopaaQx8
import Derived.Test.YtgbciglkfbiopaaQx10
import Derived.Test.YtgbciglkfbiopaaQx12
namespace Go.Proofs.Ytgbciglkfbiopaa.Q
open Go.RowKit Go.Proofs.YtgbciglkfbiopaaW.PrintWords Go.Proofs.YtgbciglkfbiopaaW.PrintLast Go.Proofs.YtgbciglkfbiopaaW.PrintMore
set_option linter.unusedVariables false
set_option linter.unusedSimpArgs false

def rngP (p : S41) : List Nat := List.range' p.f0.toNat p.f1.toNat
def plN (l : List S41) : List Nat := l.flatMap rngP
theorem plN_app (a b : List S41) : plN (a ++ b) = plN a ++ plN b := by simp [plN]
theorem plN_one (p : S41) : plN [p] = rngP p := by simp [plN]
theorem plN_cons (p : S41) (l : List S41) : plN (p :: l) = rngP p ++ plN l := by simp [plN]
/-- A valid layout. -/
def V (size : Int) (l : List S41) : Prop := (∀ p ∈ l, inWord size p) ∧ (plN l).Nodup
instance (size : Int) (l : List S41) : Decidable (V size l) := by unfold V; exact inferInstance
theorem V_nil (size : Int) : V size [] := ⟨fun p h => (nomatch h), List.nodup_nil⟩
theorem V_pre {size : Int} {a b : List S41} (h : V size (a ++ b)) : V size a := ⟨fun p hp => h.1 p (by simp [hp]), by have := h.2; rw [plN_app] at this; exact (List.nodup_append.1 this).1⟩
theorem V_snoc {size : Int} {a : List S41} {p : S41} (h : V size a) : V size (a ++ [p]) ↔ inWord size p ∧ ∀ j ∈ plN a, j ∉ rngP p := by
  unfold V
  rw [plN_app, plN_one, List.nodup_append]
  refine ⟨fun ⟨h1, _, _, h4⟩ => ⟨h1 p (by simp), fun j ha hb => h4 j ha j hb rfl⟩, fun ⟨h1, h2⟩ => ⟨fun q hq => ?_, h.2, List.nodup_range', fun a ha b hb e => h2 a ha (by rw [e]; exact hb)⟩⟩
  rcases List.mem_append.1 hq with hq | hq
  · exact h.1 q hq
  · rw [List.mem_singleton] at hq; rw [hq]; exact h1
theorem rng_lt {size : Int} {p : S41} (h : inWord size p) : ∀ j ∈ rngP p, j < size.toNat := by
  intro j hj
  unfold rngP at hj
  rw [List.mem_range'_1] at hj
  obtain ⟨⟨h1, h2⟩, h3, h4⟩ := h
  omega
theorem V_lt {size : Int} {l : List S41} (h : V size l) : ∀ j ∈ plN l, j < size.toNat := by
  intro j hj
  unfold plN at hj
  obtain ⟨p, hp, hj⟩ := List.mem_flatMap.1 hj
  exact rng_lt (h.1 p hp) j hj
theorem V_64 {size : Int} {l : List S41} (hs : size ≤ 64) (h : V size l) : ∀ j ∈ plN l, j < 64 := fun j hj => by have := V_lt h j hj; omega
theorem V_len {size : Int} {l : List S41} (hs : size ≤ 64) (h : V size l) : (plN l).length ≤ 64 := nodup_le 64 _ h.2 (V_64 hs h)

theorem mk_nat {n : Int} (h : 1 ≤ n) (h' : n ≤ 64) : mk_ n = ((2 ^ n.toNat - 1 : Nat) : Int) := by
  have h1 := mask_some h h'
  rw [mask_pw h h'] at h1
  have h2 := (Option.some.inj h1).symm
  rw [h2, pw_nat]
  have := Nat.two_pow_pos n.toNat
  omega
theorem piece_lt {n p : Nat} (h : n + p ≤ 64) : (2 ^ n - 1) * 2 ^ p < 18446744073709551616 := by
  have h1 : (2 ^ n - 1) * 2 ^ p < 2 ^ n * 2 ^ p := Nat.mul_lt_mul_of_pos_right (by have := Nat.two_pow_pos n; omega) (Nat.two_pow_pos p)
  rw [← Nat.pow_add] at h1
  exact Nat.lt_of_lt_of_le h1 (Nat.pow_le_pow_right (n := 2) (by decide) h)
/-- A value shifted to the left within the word. -/
theorem shl_nat {v p : Nat} {a : Int} (ha : a = (p : Int)) (hp : p ≤ 64) (h : v * 2 ^ p < 18446744073709551616) : shl .u64 (v : Int) a = ((v * 2 ^ p : Nat) : Int) := by
  unfold shl
  rw [ha, Int.toNat_natCast, show min p IntKind.u64.bits = p from Nat.min_eq_left hp, show (v : Int) * 2 ^ p = ((v * 2 ^ p : Nat) : Int) from by simp, w_u64 h]
theorem shr_nat {v p : Nat} {a : Int} (ha : a = (p : Int)) (hp : p ≤ 64) : shr .u64 (v : Int) a = ((v / 2 ^ p : Nat) : Int) := by
  unfold shr
  rw [ha, Int.toNat_natCast, show min p IntKind.u64.bits = p from Nat.min_eq_left hp]
  simp
theorem pm_nat {size : Int} {p : S41} (hs : size ≤ 64) (h : inWord size p) : pm p = ((orM (rngP p) : Nat) : Int) := by
  obtain ⟨⟨h1, h2⟩, h3, h4⟩ := h
  unfold pm rngP
  rw [mk_nat h1 (by omega), orM_range]
  exact shl_nat (by omega) (by omega) (piece_lt (by omega))
theorem orM64 {pl : List Nat} (h : ∀ j ∈ pl, j < 64) : orM pl < 18446744073709551616 := orM_lt h
theorem take_snoc {l : List S41} {i : Nat} (h : i < l.length) : l.take (i + 1) = l.take i ++ [l.getD i z41] := by
  rw [List.take_succ_eq_append_getElem h, List.getD_eq_getElem?_getD, List.getElem?_eq_getElem h]; rfl
theorem take_snocN {l : List Nat} {i : Nat} (h : i < l.length) : l.take (i + 1) = l.take i ++ [l.getD i 0] := by
  rw [List.take_succ_eq_append_getElem h, List.getD_eq_getElem?_getD, List.getElem?_eq_getElem h]; rfl
def chkV (size : Int) (l : List S41) : Int := if V size l then 0 else 8
theorem chk_eq {size : Int} (hs : size ≤ 64) : ∀ (l pre : List S41), V size pre → chk size (orM (plN pre) : Int) l = chkV size (pre ++ l)
  | [], pre, h => by unfold chkV chk; rw [List.append_nil, if_pos h]
  | p :: ps, pre, h => by
    have e : pre ++ p :: ps = (pre ++ [p]) ++ ps := by simp
    unfold chk
    by_cases hi : inWord size p
    · rw [if_pos hi, pm_nat hs hi, u64_and_nat _ _ (orM64 (V_64 hs h)) (orM64 (fun j hj => by have := rng_lt hi j hj; omega)), u64_or_nat _ _ (orM64 (V_64 hs h)) (orM64 (fun j hj => by have := rng_lt hi j hj; omega))]
      by_cases hd : ∀ j ∈ plN pre, j ∉ rngP p
      · rw [if_pos (by rw [orM_and.2 hd]; rfl), ← orM_app, ← plN_one, ← plN_app, chk_eq hs ps (pre ++ [p]) ((V_snoc h).2 ⟨hi, hd⟩), e]
      · rw [if_neg (fun h0 => hd (orM_and.1 (by exact_mod_cast h0)))]
        unfold chkV
        rw [if_neg (fun hv => hd ((V_snoc h).1 (V_pre (by rw [e] at hv; exact hv))).2)]
    · rw [if_neg hi]
      unfold chkV
      rw [if_neg (fun hv => hi (hv.1 p (by simp)))]
/-- What Check answers. -/
def chkS (size : Int) (l : List S41) : Int := if 1 ≤ size ∧ size ≤ 64 then (if (l.length : Int) > 4 then 4 else chkV size l) else 2
theorem chkS_eq (size : Int) (l : List S41) : chkSpec size l = chkS size l := by
  unfold chkSpec chkS
  by_cases h : 1 ≤ size ∧ size ≤ 64
  · rw [if_pos h, if_pos h]
    have := chk_eq h.2 l [] (V_nil size)
    simp only [plN, List.flatMap_nil, orM, List.nil_append] at this
    rw [show ((0 : Nat) : Int) = 0 from rfl] at this
    rw [this]
  · rw [if_neg h, if_neg h]
theorem chkS_zero {size : Int} {l : List S41} : chkS size l = 0 ↔ (1 ≤ size ∧ size ≤ 64) ∧ l.length ≤ 4 ∧ V size l := by
  unfold chkS chkV
  by_cases h : 1 ≤ size ∧ size ≤ 64
  · rw [if_pos h]
    by_cases h4 : (l.length : Int) > 4
    · rw [if_pos h4]; exact ⟨fun e => by simp at e, fun ⟨_, e, _⟩ => by omega⟩
    · rw [if_neg h4]
      by_cases hv : V size l
      · rw [if_pos hv]; exact ⟨fun _ => ⟨h, by omega, hv⟩, fun _ => rfl⟩
      · rw [if_neg hv]; exact ⟨fun e => by simp at e, fun ⟨_, _, e⟩ => (hv e).elim⟩
  · rw [if_neg h]; exact ⟨fun e => by simp at e, fun ⟨e, _⟩ => (h e).elim⟩
theorem evn_Check (size : Int) (l : List S41) : Ev (fun k => format_Check.f k size l) (chkS size l) := by rw [← chkS_eq]; exact ev_Check size l

/-! ### The reference's Check -/
def ovl (p q : S41) : Bool := decide (q.f0 < p.f0 + p.f1) && decide (p.f0 < q.f0 + q.f1)
theorem ovl_iff {size : Int} {p q : S41} (hp : inWord size p) (hq : inWord size q) : ovl p q = true ↔ ∃ j, j ∈ rngP q ∧ j ∈ rngP p := by
  obtain ⟨⟨h1, h2⟩, h3, h4⟩ := hp
  obtain ⟨⟨k1, k2⟩, k3, k4⟩ := hq
  unfold ovl rngP
  simp only [Bool.and_eq_true, decide_eq_true_eq, List.mem_range'_1]
  constructor
  · rintro ⟨a, b⟩
    by_cases h : p.f0 ≤ q.f0
    · exact ⟨q.f0.toNat, by omega, by omega⟩
    · exact ⟨p.f0.toNat, by omega, by omega⟩
  · rintro ⟨j, a, b⟩
    omega
theorem any_ovl {size : Int} {a : List S41} {p : S41} (h : V size a) (hp : inWord size p) : a.any (ovl p) = true ↔ ¬ ∀ j ∈ plN a, j ∉ rngP p := by
  rw [List.any_eq_true]
  constructor
  · rintro ⟨q, hq, ho⟩ hd
    obtain ⟨j, h1, h2⟩ := (ovl_iff hp (h.1 q hq)).1 ho
    exact hd j (by unfold plN; exact List.mem_flatMap.2 ⟨q, hq, h1⟩) h2
  · intro hn
    refine Classical.byContradiction fun hc => hn fun j hj hr => hc ?_
    unfold plN at hj
    obtain ⟨q, hq, hj⟩ := List.mem_flatMap.1 hj
    exact ⟨q, hq, (ovl_iff hp (h.1 q hq)).2 ⟨j, hj, hr⟩⟩
theorem rd41_at (l : List S41) (i : Nat) : rd_T41 l (i : Int) = l.getD i z41 := by simp [rd_T41]
theorem w64s {x : Int} (h : -1000 ≤ x) (h' : x ≤ 1000) : wrap64 x = x := by unfold wrap64; omega
theorem evn_refCheck_l1 {size : Int} (hs1 : 1 ≤ size) (hs : size ≤ 64) (l : List S41) (hl : l.length ≤ 4) (i : Nat) (hi : i < l.length) (hw : ∀ q ∈ l.take i, inWord size q) (p : S41) (hpe : l.getD i z41 = p) (hp : inWord size p) (r' : Int)
    (h' : (l.take i).any (ovl p) = false → Ev (fun k => retargetref09_Check.l0 k size l ((i + 1 : Nat) : Int)) r') : ∀ (d m : Nat), m + d = i → ((l.take i).take m).any (ovl p) = false →
    Ev (fun k => retargetref09_Check.l1 k size l (i : Int) (m : Int)) (if (l.take i).any (ovl p) = true then 8 else r')
  | 0, m, e, hc => by
    rw [List.take_of_length_le (by rw [List.length_take]; omega)] at hc
    refine Ev.step (f := fun k => retargetref09_Check.l0 k size l ((i + 1 : Nat) : Int)) (fun k => ?_) ?_
    · simp only [retargetref09_Check.l1]
      rw [if_neg (by omega), w64s (by omega) (by omega)]
      rfl
    · rw [hc, if_neg (by decide)]
      exact h' hc
  | d + 1, m, e, hc => by
    have ih := evn_refCheck_l1 hs1 hs l hl i hi hw p hpe hp r' h' d (m + 1) (by omega)
    have hm : m < (l.take i).length := by rw [List.length_take]; omega
    obtain ⟨q, hqe⟩ : ∃ q, l.getD m z41 = q := ⟨_, rfl⟩
    have eg : (l.take i)[m] = q := by
      rw [← hqe, List.getElem_take, List.getD_eq_getElem?_getD, List.getElem?_eq_getElem (by omega)]; rfl
    have hqm : q ∈ l.take i := by rw [← eg]; exact List.getElem_mem hm
    have hq := hw _ hqm
    obtain ⟨⟨h1, h2⟩, h3, h4⟩ := hp
    obtain ⟨⟨k1, k2⟩, k3, k4⟩ := hq
    refine Ev.step (f := fun k => if ovl p q = true then some 8 else retargetref09_Check.l1 k size l (i : Int) ((m + 1 : Nat) : Int)) (fun k => ?_) ?_
    · simp only [retargetref09_Check.l1]
      rw [if_pos (by omega), if_pos (by omega), if_pos (by omega), if_pos (by omega), if_pos (by omega), rd41_at, rd41_at, hpe, hqe, w64s (x := (m : Int) + 1) (by omega) (by omega), w64s (by omega) (by omega), w64s (by omega) (by omega)]
      unfold ovl
      by_cases c1 : q.f0 < p.f0 + p.f1
      · rw [if_pos c1, decide_eq_true c1]
        by_cases c2 : p.f0 < q.f0 + q.f1
        · rw [if_pos c2, decide_eq_true c2]; rfl
        · rw [if_neg c2, decide_eq_false c2]; rfl
      · rw [if_neg c1, decide_eq_false c1]; rfl
    · cases ho : ovl p q with
      | true =>
        rw [if_pos (List.any_eq_true.2 ⟨q, hqm, ho⟩)]
        simp only [if_true]
        exact Ev.now _
      | false =>
        simp only [Bool.false_eq_true, if_false]
        refine ih ?_
        rw [List.take_succ_eq_append_getElem hm, eg, List.any_append, hc]
        simp [ho]
theorem evn_refCheck_l0 {size : Int} (hs1 : 1 ≤ size) (hs : size ≤ 64) (l : List S41) (hl : l.length ≤ 4) : ∀ (n i : Nat), i + n = l.length → V size (l.take i) →
    Ev (fun k => retargetref09_Check.l0 k size l (i : Int)) (chkV size l)
  | 0, i, e, hv => by
    refine Ev.step (f := fun k => some 0) (fun k => ?_) ?_
    · simp only [retargetref09_Check.l0]
      rw [if_neg (by omega)]
    · rw [List.take_of_length_le (by omega)] at hv
      unfold chkV
      rw [if_pos hv]
      exact Ev.now _
  | n + 1, i, e, hv => by
    have hi : i < l.length := by omega
    obtain ⟨p, hpe⟩ : ∃ p, p = l.getD i z41 := ⟨_, rfl⟩
    have hs' := take_snoc hi
    have hnot : ¬ V size (l.take i ++ [p]) → chkV size l = 8 := fun h => by
      unfold chkV
      rw [if_neg (fun hV => h ?_)]
      rw [hpe, ← hs']
      exact V_pre (b := l.drop (i + 1)) (by rw [List.take_append_drop]; exact hV)
    refine Ev.step (f := fun k => if inWord size p then retargetref09_Check.j1 k size l (i : Int) false else retargetref09_Check.j1 k size l (i : Int) true) (fun k => ?_) ?_
    · simp only [retargetref09_Check.l0]
      rw [if_pos (by omega), if_pos (by omega), rd41_at, ← hpe, in_f]
      simp only [Option.bind_some]
      by_cases c1 : 1 ≤ p.f1 ∧ p.f1 ≤ size
      · rw [decide_eq_true c1, if_pos rfl, w64s (by omega) (by omega), in_f]
        simp only [Option.bind_some]
        by_cases c2 : 0 ≤ p.f0 ∧ p.f0 ≤ size - p.f1
        · rw [decide_eq_true c2, if_pos ⟨c1, c2⟩]; rfl
        · rw [decide_eq_false c2, if_neg (fun h => c2 h.2)]; rfl
      · rw [decide_eq_false c1, if_neg (by decide), if_neg (fun h => c1 h.1)]
    · by_cases hw : inWord size p
      · simp only [if_pos hw]
        refine Ev.step (f := fun k => retargetref09_Check.l1 k size l (i : Int) 0) (fun k => by simp only [retargetref09_Check.j1]; rfl) ?_
        have := evn_refCheck_l1 hs1 hs l hl i hi hv.1 p hpe.symm hw (chkV size l) (fun hno => evn_refCheck_l0 hs1 hs l hl n (i + 1) (by omega) (by
          rw [hs', ← hpe]
          refine (V_snoc hv).2 ⟨hw, Classical.byContradiction fun hc => ?_⟩
          rw [(any_ovl hv hw).2 hc] at hno
          cases hno)) i 0 (by omega) (by simp)
        by_cases ha : (l.take i).any (ovl p) = true
        · rw [if_pos ha] at this
          rw [hnot (fun h => (any_ovl hv hw).1 ha ((V_snoc hv).1 h).2)]
          exact this
        · rw [if_neg ha] at this
          exact this
      · simp only [if_neg hw]
        refine Ev.step (f := fun k => some 8) (fun k => by simp only [retargetref09_Check.j1]; rfl) ?_
        rw [hnot (fun h => hw ((V_snoc hv).1 h).1)]
        exact Ev.now _
end Go.Proofs.Ytgbciglkfbiopaa.Q
