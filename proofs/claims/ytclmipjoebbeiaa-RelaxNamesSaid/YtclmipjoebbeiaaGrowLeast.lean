/- Plain law for package relax: the least stable choice. -/
import Derived.Test.YtclmipjoebbeiaaNum
namespace Go.Proofs.Ytclmipjoebbeiaa.Q
open Go.RowKit Go.Proofs.YtclmipjoebbeiaaW.PrintWords Go.Proofs.YtclmipjoebbeiaaW.PrintLast Go.Proofs.YtclmipjoebbeiaaW.PrintMore
set_option linter.unusedVariables false
set_option linter.unusedSimpArgs false

theorem upto_rd' (its : List S48) (long : List Bool) (n i : Nat) (h : i < n) : rd ((List.range n).map (plAt its long)) (i : Int) = plAt its long i := by
  simp [rd, List.getD_eq_getElem?_getD, h]
theorem item_facts {its : List S48} {lab : List Int} (h : valid its lab = true) {i : Nat} (hi : i < its.length) : (0 ≤ (its.getD i z48).f0 ∧ (its.getD i z48).f0 ≤ 1000) ∧ okRest lab.length (its.getD i z48) := by
  have hm : its.getD i z48 ∈ its := by rw [List.getD_eq_getElem?_getD, List.getElem?_eq_getElem hi]; simp
  exact (valid_facts h).2.2.2 _ hm
theorem long_facts {its : List S48} {lab : List Int} (h : valid its lab = true) {i : Nat} (hi : i < its.length) : 0 ≤ (its.getD i z48).f1 ∧ (its.getD i z48).f1 ≤ 1000 ∧ ((its.getD i z48).f2 ≠ -1 → (its.getD i z48).f0 ≤ (its.getD i z48).f1) := by
  obtain ⟨h0, h1⟩ := item_facts h hi
  unfold okRest at h1
  split at h1
  · rename_i c; exact ⟨by omega, by omega, fun e => absurd c e⟩
  · exact ⟨by omega, by omega, fun _ => by omega⟩
theorem size_facts {its : List S48} {lab : List Int} (h : valid its lab = true) (long : List Bool) {i : Nat} (hi : i < its.length) : 0 ≤ szAt its long i ∧ szAt its long i ≤ 1000 := by
  have h0 := (item_facts h hi).1
  have h1 := long_facts h hi
  unfold szAt
  split <;> omega
theorem place_facts {its : List S48} {lab : List Int} (h : valid its lab = true) (long : List Bool) : ∀ k, k ≤ its.length → 0 ≤ plAt its long k ∧ plAt its long k ≤ 1000 * k
  | 0, _ => by simp [plAt]
  | k + 1, hk => by
    have ih := place_facts h long k (by omega)
    have hs := size_facts h long (show k < its.length by omega)
    have hv := (valid_facts h).1
    have : plAt its long (k + 1) = plAt its long k + szAt its long k := w64 (by omega) (by omega)
    rw [this]
    omega
theorem place_succ {its : List S48} {lab : List Int} (h : valid its lab = true) (long : List Bool) {k : Nat} (hk : k < its.length) : plAt its long (k + 1) = plAt its long k + szAt its long k := by
  have ih := place_facts h long k (by omega)
  have hs := size_facts h long hk
  have hv := (valid_facts h).1
  exact w64 (by omega) (by omega)
/-- Only jumps are long. -/
def OnlyJ (its : List S48) (T : List Bool) : Prop := ∀ k, k < its.length → T.getD k false = true → (its.getD k z48).f2 ≠ -1
def LeB (a b : List Bool) : Prop := ∀ k, a.getD k false = true → b.getD k false = true
theorem size_mono {its : List S48} {lab : List Int} (h : valid its lab = true) {a b : List Bool} (hb : OnlyJ its b) (hab : LeB a b) {k : Nat} (hk : k < its.length) : szAt its a k ≤ szAt its b k := by
  unfold szAt
  by_cases ca : a.getD k false = true
  · rw [if_pos ca, if_pos (hab k ca)]; exact Int.le_refl _
  · rw [if_neg ca]
    by_cases cb : b.getD k false = true
    · rw [if_pos cb]; exact (long_facts h hk).2.2 (hb k hk cb)
    · rw [if_neg cb]; exact Int.le_refl _
theorem place_mono {its : List S48} {lab : List Int} (h : valid its lab = true) {a b : List Bool} (hb : OnlyJ its b) (hab : LeB a b) (s : Nat) : ∀ t, s + t ≤ its.length → plAt its a (s + t) - plAt its a s ≤ plAt its b (s + t) - plAt its b s ∧ 0 ≤ plAt its a (s + t) - plAt its a s
  | 0, _ => by simp
  | t + 1, ht => by
    have ih := place_mono h hb hab s t (by omega)
    have h1 := place_succ h a (show s + t < its.length by omega)
    have h2 := place_succ h b (show s + t < its.length by omega)
    have h3 := size_mono h hb hab (show s + t < its.length by omega)
    have h4 := size_facts h a (show s + t < its.length by omega)
    rw [show s + (t + 1) = s + t + 1 by omega, h1, h2]
    omega
/-- The target's index. -/
def tgt (its : List S48) (lab : List Int) (i : Nat) : Nat := (rd lab (its.getD i z48).f2).toNat
theorem dist_eq {its : List S48} {lab : List Int} (h : valid its lab = true) (long : List Bool) {i : Nat} (hi : i < its.length) (hj : jumpAt its i = true) :
    tgt its lab i ≤ its.length ∧ distOf its lab (placesOf its long) i = plAt its long (tgt its lab i) - plAt its long (i + 1) := by
  obtain ⟨_, h3, h4⟩ := valid_jump h hi hj
  have ht : tgt its lab i ≤ its.length := by unfold tgt; omega
  refine ⟨ht, ?_⟩
  have e1 : rd (placesOf its long) (rd lab (its.getD i z48).f2) = plAt its long (tgt its lab i) := by
    have : rd lab (its.getD i z48).f2 = ((tgt its lab i : Nat) : Int) := by unfold tgt; omega
    rw [this]
    exact upto_rd' its long _ _ (by omega)
  have e2 : rd (placesOf its long) ((i : Int) + 1) = plAt its long (i + 1) := by
    have : (i : Int) + 1 = ((i + 1 : Nat) : Int) := by simp
    rw [this]
    exact upto_rd' its long _ _ (by omega)
  unfold distOf
  rw [e1, e2]
  have p1 := place_facts h long (tgt its lab i) ht
  have p2 := place_facts h long (i + 1) (by omega)
  have hv := (valid_facts h).1
  exact w64 (by omega) (by omega)
/-- What does not reach, does not reach either if more is long. -/
theorem bad_mono {its : List S48} {lab : List Int} (h : valid its lab = true) {a b : List Bool} (hb : OnlyJ its b) (hab : LeB a b) {i : Nat} (hi : i < its.length) (hj : jumpAt its i = true)
    (hbad : shortOk its lab (placesOf its a) i = false) : shortOk its lab (placesOf its b) i = false := by
  obtain ⟨ht, ea⟩ := dist_eq h a hi hj
  obtain ⟨_, eb⟩ := dist_eq h b hi hj
  have hr := (item_facts h hi).2
  have hj' : 0 ≤ (its.getD i z48).f2 := by simpa [jumpAt] using hj
  unfold okRest at hr
  rw [if_neg (by omega)] at hr
  have hf3 : (its.getD i z48).f3 ≤ 0 := by omega
  have hf4 : 0 ≤ (its.getD i z48).f4 := by omega
  unfold shortOk at hbad ⊢
  rw [ea, decide_eq_false_iff_not] at hbad
  rw [eb, decide_eq_false_iff_not]
  rcases Nat.le_total (i + 1) (tgt its lab i) with c | c
  · have := place_mono h hb hab (i + 1) (tgt its lab i - (i + 1)) (by omega)
    rw [show i + 1 + (tgt its lab i - (i + 1)) = tgt its lab i by omega] at this
    omega
  · have := place_mono h hb hab (tgt its lab i) (i + 1 - tgt its lab i) (by omega)
    rw [show tgt its lab i + (i + 1 - tgt its lab i) = i + 1 by omega] at this
    omega

/-! ### Stable choices -/
def Stab (its : List S48) (lab : List Int) (T : List Bool) : Prop := ∀ i, i < its.length → badJ its lab T (placesOf its T) i = false
theorem firstBad_spec (its : List S48) (lab : List Int) (T : List Bool) (at_ : List Int) : ∀ d i, (firstBad its lab T at_ d i = -1 ∧ ∀ j, i ≤ j → j < i + d → badJ its lab T at_ j = false) ∨ (∃ j : Nat, firstBad its lab T at_ d i = (j : Int) ∧ i ≤ j ∧ j < i + d ∧ badJ its lab T at_ j = true)
  | 0, i => Or.inl ⟨rfl, fun j h h' => by omega⟩
  | d + 1, i => by
    unfold firstBad
    by_cases c : badJ its lab T at_ i = true
    · rw [if_pos c]; exact Or.inr ⟨i, rfl, Nat.le_refl _, by omega, c⟩
    · rw [if_neg c]
      rcases firstBad_spec its lab T at_ d (i + 1) with ⟨h1, h2⟩ | ⟨j, h1, h2, h3, h4⟩
      · refine Or.inl ⟨h1, fun j hj hj' => ?_⟩
        by_cases e : j = i
        · rw [e]; simpa using c
        · exact h2 j (by omega) (by omega)
      · exact Or.inr ⟨j, h1, by omega, by omega, h4⟩
theorem fails_iff (its : List S48) (lab : List Int) (T : List Bool) : failsS its lab T < 0 ↔ Stab its lab T := by
  unfold failsS Stab
  rcases firstBad_spec its lab T (placesOf its T) its.length 0 with ⟨h1, h2⟩ | ⟨j, h1, h2, h3, h4⟩
  · rw [h1]; exact ⟨fun _ i hi => h2 i (by omega) (by omega), fun _ => by decide⟩
  · rw [h1]
    refine ⟨fun h => by omega, fun h => ?_⟩
    rw [h j (by omega)] at h4
    cases h4
/-- A choice of which every part is forced. -/
structure Inv (its : List S48) (lab : List Int) (long : List Bool) : Prop where
  len : long.length = its.length
  only : OnlyJ its long
  forced : ∀ T : List Bool, T.length = its.length → OnlyJ its T → Stab its lab T → LeB long T
theorem getD_replicate (n k : Nat) : (List.replicate n false).getD k false = false := by
  rw [List.getD_eq_getElem?_getD, List.getElem?_replicate]; split <;> rfl
theorem Inv.start (its : List S48) (lab : List Int) : Inv its lab (List.replicate its.length false) :=
  ⟨by simp, fun k _ h => (by rw [getD_replicate] at h; cases h), fun T _ _ _ k h => (by rw [getD_replicate] at h; cases h)⟩
theorem getD_set (l : List Bool) (i k : Nat) (hi : i < l.length) : (l.set i true).getD k false = if k = i then true else l.getD k false := by
  rw [List.getD_eq_getElem?_getD, List.getD_eq_getElem?_getD, List.getElem?_set]
  by_cases c : k = i
  · rw [if_pos c, if_pos c.symm, if_pos hi]; rfl
  · rw [if_neg c, if_neg (fun e => c e.symm)]
theorem Inv.step {its : List S48} {lab : List Int} (h : valid its lab = true) {long : List Bool} (I : Inv its lab long) {i : Nat} (hi : i < its.length) (hj : jumpAt its i = true) (hbad : shortOk its lab (placesOf its long) i = false) : Inv its lab (long.set i true) := by
  have hl : i < long.length := by rw [I.len]; exact hi
  refine ⟨by simp [I.len], fun k hk hb => ?_, fun T hT hO hS k hk => ?_⟩
  · rw [getD_set _ _ _ hl] at hb
    by_cases c : k = i
    · rw [c]; intro e; unfold jumpAt at hj; rw [e] at hj; cases hj
    · rw [if_neg c] at hb; exact I.only k hk hb
  · rw [getD_set _ _ _ hl] at hk
    by_cases c : k = i
    · rw [c]
      have hb := bad_mono h hO (I.forced T hT hO hS) hi hj hbad
      have := hS i hi
      unfold badJ at this
      rw [hj, hb] at this
      simpa using this
    · rw [if_neg c] at hk; exact I.forced T hT hO hS k hk
theorem Inv.unique {its : List S48} {lab : List Int} {a b : List Bool} (Ia : Inv its lab a) (Ib : Inv its lab b) (Sa : Stab its lab a) (Sb : Stab its lab b) : a = b := by
  refine List.ext_getElem (by rw [Ia.len, Ib.len]) fun k h1 h2 => ?_
  have e1 := Ia.forced b Ib.len Ib.only Sb k
  have e2 := Ib.forced a Ia.len Ia.only Sa k
  rw [List.getD_eq_getElem?_getD, List.getD_eq_getElem?_getD, List.getElem?_eq_getElem h1, List.getElem?_eq_getElem h2] at e1 e2
  simp only [Option.getD_some] at e1 e2
  cases ha : a[k] with
  | true => exact (e1 ha).symm
  | false =>
    cases hb : b[k] with
    | true => rw [e2 hb] at ha; cases ha
    | false => rfl
/-- How many are short. -/
def short : List Bool → Nat
  | [] => 0
  | b :: l => (if b = true then 0 else 1) + short l
theorem short_set : ∀ (l : List Bool) (i : Nat), i < l.length → l.getD i false = false → short (l.set i true) + 1 = short l
  | b :: l, 0, _, h => by
    simp at h; subst h; simp [short]; omega
  | b :: l, i + 1, hi, h => by
    have := short_set l i (by simpa using hi) (by simpa using h)
    simp only [List.set_cons_succ, short]
    omega
theorem short_le : ∀ l : List Bool, short l ≤ l.length
  | [] => Nat.le_refl _
  | b :: l => by have := short_le l; simp only [short, List.length_cons]; split <;> omega
/-- The least stable choice: what does not reach becomes long, one after the other. -/
def iterL (its : List S48) (lab : List Int) : Nat → List Bool → List Bool
  | 0, l => l
  | k + 1, l => if failsS its lab l < 0 then l else iterL its lab k (l.set (failsS its lab l).toNat true)
def leastOf (its : List S48) (lab : List Int) : List Bool := iterL its lab its.length (List.replicate its.length false)
theorem fails_bad {its : List S48} {lab : List Int} {long : List Bool} (hf : ¬ failsS its lab long < 0) : ∃ i : Nat, failsS its lab long = (i : Int) ∧ i < its.length ∧ jumpAt its i = true ∧ long.getD i false = false ∧ shortOk its lab (placesOf its long) i = false := by
  unfold failsS at hf ⊢
  rcases firstBad_spec its lab long (placesOf its long) its.length 0 with ⟨h1, h2⟩ | ⟨j, h1, h2, h3, h4⟩
  · rw [h1] at hf; exact absurd (by decide) hf
  · unfold badJ at h4
    simp only [Bool.and_eq_true, Bool.not_eq_true'] at h4
    exact ⟨j, h1, by omega, h4.1, h4.2.1, h4.2.2⟩
theorem iterL_spec {its : List S48} {lab : List Int} (h : valid its lab = true) : ∀ (k : Nat) (long : List Bool), Inv its lab long → short long ≤ k → Inv its lab (iterL its lab k long) ∧ Stab its lab (iterL its lab k long)
  | 0, long, I, hk => by
    refine ⟨I, ?_⟩
    unfold iterL
    rcases Classical.em (failsS its lab long < 0) with c | c
    · exact (fails_iff _ _ _).1 c
    · obtain ⟨i, e, hi, hj, hb, hbad⟩ := fails_bad c
      have := short_set long i (by rw [I.len]; exact hi) hb
      omega
  | k + 1, long, I, hk => by
    unfold iterL
    by_cases c : failsS its lab long < 0
    · rw [if_pos c]; exact ⟨I, (fails_iff _ _ _).1 c⟩
    · rw [if_neg c]
      obtain ⟨i, e, hi, hj, hb, hbad⟩ := fails_bad c
      rw [e, Int.toNat_natCast]
      have := short_set long i (by rw [I.len]; exact hi) hb
      exact iterL_spec h k _ (I.step h hi hj hbad) (by omega)
theorem leastOf_spec {its : List S48} {lab : List Int} (h : valid its lab = true) : Inv its lab (leastOf its lab) ∧ Stab its lab (leastOf its lab) :=
  iterL_spec h _ _ (Inv.start its lab) (Nat.le_trans (short_le _) (by simp))
/-- All long jumps of the least choice reach. -/
def longAll (its : List S48) (lab : List Int) (long : List Bool) : Nat → Nat → Bool
  | 0, _ => true
  | d + 1, i => (!(long.getD i false && !longOk its lab (placesOf its long) i)) && longAll its lab long d (i + 1)
theorem longAll_iff (its : List S48) (lab : List Int) (long : List Bool) : ∀ d i, longAll its lab long d i = true ↔ ∀ j, i ≤ j → j < i + d → long.getD j false = true → longOk its lab (placesOf its long) j = true
  | 0, i => ⟨fun _ j h h' => by omega, fun _ => rfl⟩
  | d + 1, i => by
    simp only [longAll, Bool.and_eq_true, longAll_iff its lab long d (i + 1)]
    refine ⟨fun ⟨h1, h2⟩ j hj hj' hb => ?_, fun h => ⟨?_, fun j hj hj' hb => h j (by omega) (by omega) hb⟩⟩
    · by_cases e : j = i
      · rw [e] at hb ⊢
        rw [hb] at h1
        simpa using h1
      · exact h2 j (by omega) (by omega) hb
    · cases hb : long.getD i false with
      | false => rfl
      | true => simp [h i (Nat.le_refl _) (by omega) hb]
/-- Solve's answer, of a valid program. -/
def solveOk (its : List S48) (lab : List Int) : List Bool × Int := if longAll its lab (leastOf its lab) its.length 0 = true then (leastOf its lab, 0) else ([], 24)
def solveS (its : List S48) (lab : List Int) : List Bool × Int := if valid its lab = true then solveOk its lab else ([], 8)
