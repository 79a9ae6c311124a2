/- Plain law for package relax: what Check answers; choices, places, jumps; in integers. -/
import Derived.Test.YtclmipjoebbeiaaQx2
import Derived.Test.YtclmipjoebbeiaaQx4
import Derived.Test.YtclmipjoebbeiaaQx7
import Derived.Test.YtclmipjoebbeiaaQx14
import Derived.Test.YtclmipjoebbeiaaQx21
namespace Go.Proofs.Ytclmipjoebbeiaa.Q
open Go.RowKit Go.Proofs.YtclmipjoebbeiaaW.PrintWords Go.Proofs.YtclmipjoebbeiaaW.PrintLast Go.Proofs.YtclmipjoebbeiaaW.PrintMore
set_option linter.unusedVariables false
set_option linter.unusedSimpArgs false

theorem within_f (a b c : Int) : relax_within.f a b c = some (decide (b ≤ a ∧ a ≤ c)) := by
  unfold relax_within.f
  by_cases h : b ≤ a
  · rw [if_pos h]; congr 1; simp [h]
  · rw [if_neg h]; congr 1; simp [h]
/-- A valid item; a valid program. -/
def okRest (m : Int) (x : S48) : Prop := if x.f2 = -1 then x.f1 = 0 ∧ x.f3 = 0 ∧ x.f4 = 0 ∧ x.f5 = 0 ∧ x.f6 = 0
  else (0 ≤ x.f2 ∧ x.f2 ≤ m - 1) ∧ (x.f0 ≤ x.f1 ∧ x.f1 ≤ 1000) ∧ -16777216 ≤ x.f5 ∧ x.f5 ≤ x.f3 ∧ x.f3 ≤ 0 ∧ 0 ≤ x.f4 ∧ x.f4 ≤ x.f6 ∧ x.f6 ≤ 16777216
instance (m : Int) (x : S48) : Decidable (okRest m x) := by unfold okRest; exact inferInstance
def okIt (m : Int) (x : S48) : Bool := decide (0 ≤ x.f0 ∧ x.f0 ≤ 1000) && decide (okRest m x)
def okLab (n : Int) (x : Int) : Bool := decide (0 ≤ x ∧ x ≤ n)
def valid (its : List S48) (lab : List Int) : Bool := decide (its.length ≤ 500) && (decide (lab.length ≤ 500) && (lab.all (okLab its.length) && its.all (okIt lab.length)))

theorem rd_at (pre suf : List Int) (x : Int) : rd (pre ++ x :: suf) (pre.length : Int) = x := by simp [rd]
theorem rd48_at (pre suf : List S48) (x : S48) : rd_T48 (pre ++ x :: suf) (pre.length : Int) = x := by simp [rd_T48]
theorem rdOf_at (pre suf : List Bool) (x : Bool) : rdOf false (pre ++ x :: suf) (pre.length : Int) = x := by simp [rdOf]
theorem w64 {x : Int} (h : -9223372036854775808 ≤ x) (h' : x < 9223372036854775808) : wrap64 x = x := by unfold wrap64; omega
theorem next_at {α : Type} (pre : List α) (x : α) (h : pre.length ≤ 100000) : wrap64 ((pre.length : Int) + 1) = (((pre ++ [x]).length : Nat) : Int) := by
  rw [w64 (by omega) (by omega)]; simp

theorem j3_step (k : Nat) (ok : Bool) (x : S48) (n i : Int) (its : List S48) (l0 : List S48) (lab : List Int) (hl : lab.length ≤ 100000) :
    relax_Check.j3 (k + 1) ok l0 n i its lab x.f0 x.f1 x.f2 x.f3 x.f4 x.f5 x.f6 = relax_Check.l1 k (ok && decide (okRest lab.length x)) l0 n (wrap64 (i + 1)) its lab := by
  have e1 : wrap64 ((lab.length : Int) - 1) = (lab.length : Int) - 1 := w64 (by omega) (by omega)
  simp only [relax_Check.j3, within_f, Option.bind_some, e1, decide_eq_true_eq]
  unfold okRest
  cases ok with
  | false => simp
  | true =>
    by_cases h : x.f2 = -1
    · simp only [if_pos h, if_true, Bool.true_and]
      congr 1
      rw [Bool.eq_iff_iff]
      simp [h]
    · simp only [if_neg h, if_true, Bool.true_and]
      repeat' split
      all_goals congr 1
      all_goals first | (symm; exact decide_eq_false (by omega)) | (exact decide_eq_decide.2 (by omega))

theorem evn_Check_l1 (its : List S48) (lab : List Int) (hi : its.length ≤ 100000) (hl : lab.length ≤ 100000) : ∀ (suf pre : List S48) (ok : Bool), its = pre ++ suf →
    Ev (fun k => relax_Check.l1 k ok its (its.length : Int) (pre.length : Int) its lab) (if (ok && suf.all (okIt lab.length)) = true then 0 else 8)
  | [], pre, ok, e => by
    refine Ev.step (f := fun k => some (if ok = true then 0 else 8)) (fun k => ?_) ?_
    · simp only [relax_Check.l1]
      rw [if_neg (by rw [e]; simp)]
      cases ok <;> rfl
    · cases ok <;> exact Ev.now _
  | x :: suf, pre, ok, e => by
    have ih := evn_Check_l1 its lab hi hl suf (pre ++ [x])
    have hn := next_at pre x (by rw [e] at hi; simp at hi; omega)
    have hx : rd_T48 its (pre.length : Int) = x := by rw [e]; exact rd48_at _ _ _
    have hlt : (pre.length : Int) < (its.length : Int) := by rw [e]; simp; omega
    refine Ev.step (f := fun k => relax_Check.j3 k (ok && decide (0 ≤ x.f0 ∧ x.f0 ≤ 1000)) its (its.length : Int) (pre.length : Int) its lab x.f0 x.f1 x.f2 x.f3 x.f4 x.f5 x.f6) (fun k => ?_) ?_
    · simp only [relax_Check.l1]
      rw [if_pos hlt, if_pos (by omega), if_pos hlt, hx]
      cases ok with
      | false => simp
      | true => simp only [if_true, within_f, Option.bind_some, Bool.true_and]
    · refine Ev.step (fun k => j3_step k _ x _ _ _ _ lab hl) ?_
      rw [hn]
      have := ih (ok && decide (0 ≤ x.f0 ∧ x.f0 ≤ 1000) && decide (okRest lab.length x)) (by rw [e]; simp)
      have e2 : (ok && (x :: suf).all (okIt lab.length)) = (ok && decide (0 ≤ x.f0 ∧ x.f0 ≤ 1000) && decide (okRest lab.length x) && suf.all (okIt lab.length)) := by
        simp only [List.all_cons, okIt, Bool.and_assoc]
      rw [e2]
      exact this
theorem evn_Check_l0 (its : List S48) (lab : List Int) (hi : its.length ≤ 100000) (hl : lab.length ≤ 100000) : ∀ (suf pre : List Int) (ok : Bool), lab = pre ++ suf →
    Ev (fun k => relax_Check.l0 k ok lab (lab.length : Int) (pre.length : Int) its lab) (if (ok && (suf.all (okLab its.length) && its.all (okIt lab.length))) = true then 0 else 8)
  | [], pre, ok, e => by
    refine Ev.step (f := fun k => relax_Check.l1 k ok its (its.length : Int) 0 its lab) (fun k => ?_) ?_
    · simp only [relax_Check.l0]
      rw [if_neg (by rw [e]; simp)]
    · exact evn_Check_l1 its lab hi hl its [] ok rfl
  | x :: suf, pre, ok, e => by
    have ih := evn_Check_l0 its lab hi hl suf (pre ++ [x])
    have hn := next_at pre x (by rw [e] at hl; simp at hl; omega)
    have hx : rd lab (pre.length : Int) = x := by rw [e]; exact rd_at _ _ _
    have hlt : (pre.length : Int) < (lab.length : Int) := by rw [e]; simp; omega
    refine Ev.step (f := fun k => relax_Check.l0 k (ok && okLab its.length x) lab (lab.length : Int) (wrap64 ((pre.length : Int) + 1)) its lab) (fun k => ?_) ?_
    · simp only [relax_Check.l0]
      rw [if_pos hlt, if_pos (by omega), if_pos hlt, hx]
      cases ok with
      | false => simp
      | true => simp only [if_true, within_f, Option.bind_some, Bool.true_and, okLab]
    · rw [hn]
      have := ih (ok && okLab its.length x) (by rw [e]; simp)
      simp only [List.all_cons]
      simp only [Bool.and_assoc] at this ⊢
      exact this
/-- Check's answer. -/
def checkS (its : List S48) (lab : List Int) : Int := if valid its lab = true then 0 else 8
theorem evn_Check (its : List S48) (lab : List Int) (hi : its.length ≤ 100000) (hl : lab.length ≤ 100000) : Ev (fun k => relax_Check.f k its lab) (checkS its lab) := by
  have h0 : ∀ ok, Ev (fun k => relax_Check.j0 k ok its lab) (if (ok && (lab.all (okLab its.length) && its.all (okIt lab.length))) = true then 0 else 8) := fun ok =>
    Ev.step (fun k => by simp only [relax_Check.j0]; rfl) (evn_Check_l0 its lab hi hl lab [] ok rfl)
  unfold relax_Check.f checkS valid
  by_cases h : its.length ≤ 500
  · simp only [if_pos (show (its.length : Int) ≤ 500 by omega), decide_eq_true h, Bool.true_and]
    have e : decide ((lab.length : Int) ≤ 500) = decide (lab.length ≤ 500) := decide_eq_decide.2 (by omega)
    rw [e]
    exact h0 _
  · simp only [if_neg (show ¬ (its.length : Int) ≤ 500 by omega), decide_eq_false h, Bool.false_and]
    exact h0 false

/-! ### A program and a choice -/
def okCh (x : S48) (b : Bool) : Bool := !(b && x.f2 == -1)
def okFrom (its : List S48) : Nat → List Bool → Bool
  | _, [] => true
  | i, b :: l => okCh (its.getD i z48) b && okFrom its (i + 1) l
theorem okFrom_at (its : List S48) : ∀ (l : List Bool) (i j : Nat), okFrom its i l = true → j < l.length → l.getD j false = true → (its.getD (i + j) z48).f2 ≠ -1
  | b :: l, i, 0, h, _, hb => by
    simp only [okFrom, Bool.and_eq_true, okCh, Bool.not_eq_true', Bool.and_eq_false_iff] at h
    simp at hb
    subst hb
    simpa using h.1
  | b :: l, i, j + 1, h, hj, hb => by
    simp only [okFrom, Bool.and_eq_true] at h
    have := okFrom_at its l (i + 1) j h.2 (by simpa using hj) (by simpa using hb)
    rwa [show i + 1 + j = i + (j + 1) by omega] at this
theorem okFrom_of (its : List S48) : ∀ (l : List Bool) (i : Nat), (∀ j, j < l.length → l.getD j false = true → (its.getD (i + j) z48).f2 ≠ -1) → okFrom its i l = true
  | [], i, h => rfl
  | b :: l, i, h => by
    simp only [okFrom, Bool.and_eq_true, okCh, Bool.not_eq_true', Bool.and_eq_false_iff]
    refine ⟨?_, okFrom_of its l (i + 1) fun j hj hb => ?_⟩
    · cases b with
      | false => exact Or.inl rfl
      | true => have := h 0 (by simp) (by simp); right; simpa using this
    · have := h (j + 1) (by simpa using hj) (by simpa using hb)
      rwa [show i + 1 + j = i + (j + 1) by omega]
def choiceS (its : List S48) (lab : List Int) (long : List Bool) : Int := if valid its lab = true then (if long.length = its.length ∧ okFrom its 0 long = true then 0 else 2) else 8

theorem upto_rd (its : List S48) (long : List Bool) (n i : Nat) (h : i < n) : rd ((List.range n).map (plAt its long)) (i : Int) = plAt its long i := by
  simp [rd, List.getD_eq_getElem?_getD, h]
theorem placesOf_length (its : List S48) (long : List Bool) : (placesOf its long).length = its.length + 1 := by simp [placesOf]
theorem placesOf_rd (its : List S48) (long : List Bool) (i : Nat) (h : i ≤ its.length) : rd (placesOf its long) (i : Int) = plAt its long i := upto_rd its long _ i (by omega)
/-! ### Jumps -/
def distOf (its : List S48) (lab at_ : List Int) (i : Nat) : Int := wrap64 (rd at_ (rd lab (its.getD i z48).f2) - rd at_ ((i : Int) + 1))
def shortOk (its : List S48) (lab at_ : List Int) (i : Nat) : Bool := decide ((its.getD i z48).f3 ≤ distOf its lab at_ i ∧ distOf its lab at_ i ≤ (its.getD i z48).f4)
def longOk (its : List S48) (lab at_ : List Int) (i : Nat) : Bool := decide ((its.getD i z48).f5 ≤ distOf its lab at_ i ∧ distOf its lab at_ i ≤ (its.getD i z48).f6)
def jumpAt (its : List S48) (i : Nat) : Bool := decide (0 ≤ (its.getD i z48).f2)
def badJ (its : List S48) (lab : List Int) (long : List Bool) (at_ : List Int) (i : Nat) : Bool := jumpAt its i && (!long.getD i false && !shortOk its lab at_ i)
def firstBad (its : List S48) (lab : List Int) (long : List Bool) (at_ : List Int) : Nat → Nat → Int
  | 0, _ => -1
  | d + 1, i => if badJ its lab long at_ i = true then (i : Int) else firstBad its lab long at_ d (i + 1)

theorem valid_facts {its : List S48} {lab : List Int} (h : valid its lab = true) : its.length ≤ 500 ∧ lab.length ≤ 500 ∧ (∀ x ∈ lab, 0 ≤ x ∧ x ≤ its.length) ∧ (∀ x ∈ its, (0 ≤ x.f0 ∧ x.f0 ≤ 1000) ∧ okRest lab.length x) := by
  simp only [valid, Bool.and_eq_true, decide_eq_true_eq, List.all_eq_true, okLab, okIt] at h
  exact h
theorem valid_jump {its : List S48} {lab : List Int} (h : valid its lab = true) {i : Nat} (hi : i < its.length) (hj : jumpAt its i = true) :
    (0 ≤ (its.getD i z48).f2 ∧ (its.getD i z48).f2 < lab.length) ∧ (0 ≤ rd lab (its.getD i z48).f2 ∧ rd lab (its.getD i z48).f2 ≤ its.length) := by
  obtain ⟨_, _, h3, h4⟩ := valid_facts h
  have hm : its.getD i z48 ∈ its := by rw [List.getD_eq_getElem?_getD, List.getElem?_eq_getElem hi]; simp
  have hr := (h4 _ hm).2
  simp only [jumpAt, decide_eq_true_eq] at hj
  unfold okRest at hr
  rw [if_neg (by omega)] at hr
  refine ⟨⟨hj, by omega⟩, ?_⟩
  have hm2 : rd lab (its.getD i z48).f2 ∈ lab := by
    unfold rd
    rw [List.getD_eq_getElem?_getD, List.getElem?_eq_getElem (show (its.getD i z48).f2.toNat < lab.length by omega)]; simp
  exact h3 _ hm2
theorem reaches_f {its : List S48} {lab at_ : List Int} (h : valid its lab = true) {i : Nat} (hi : i < its.length) (hj : jumpAt its i = true) (ha : at_.length = its.length + 1) (b : Bool) :
    relax_reaches.f its lab at_ (i : Int) b = some (if b = true then longOk its lab at_ i else shortOk its lab at_ i) := by
  obtain ⟨⟨h1, h2⟩, h3, h4⟩ := valid_jump h hi hj
  have hv := (valid_facts h).1
  have e1 : rd_T48 its (i : Int) = its.getD i z48 := by simp [rd_T48]
  have e2 : wrap64 ((i : Int) + 1) = (i : Int) + 1 := w64 (by omega) (by omega)
  unfold relax_reaches.f
  rw [e1, e2, if_pos ⟨⟨by omega, by omega⟩, ⟨h1, h2⟩, ⟨h3, by omega⟩, by omega, by omega⟩]
  cases b <;> rfl
def failsS (its : List S48) (lab : List Int) (long : List Bool) : Int := firstBad its lab long (placesOf its long) its.length 0
theorem choice_ok {its : List S48} {lab : List Int} {long : List Bool} (h : choiceS its lab long = 0) : valid its lab = true ∧ long.length = its.length ∧ okFrom its 0 long = true := by
  unfold choiceS at h
  by_cases hv : valid its lab = true
  · rw [if_pos hv] at h
    by_cases c : long.length = its.length ∧ okFrom its 0 long = true
    · exact ⟨hv, c⟩
    · rw [if_neg c] at h; cases h
  · rw [if_neg hv] at h; cases h
def stableS (its : List S48) (lab : List Int) (long : List Bool) : Bool × Int := if choiceS its lab long = 0 then (decide (failsS its lab long < 0), 0) else (false, choiceS its lab long)
def placesS (its : List S48) (lab : List Int) (long : List Bool) : List Int × Int := if choiceS its lab long = 0 then (placesOf its long, 0) else ([], choiceS its lab long)
theorem places_f {its : List S48} {lab : List Int} {long : List Bool} (h : valid its lab = true) (he : long.length = its.length) : relax_places.f its lab long = some (placesOf its long) := by
  have hv := (valid_facts h).1
  unfold relax_places.f
  rw [if_pos ⟨by omega, he⟩]
def sameB (a b : List Bool) : Nat → Nat → Bool
  | 0, _ => true
  | d + 1, i => (a.getD i false == b.getD i false) && sameB a b d (i + 1)
theorem sameB_iff (a b : List Bool) : ∀ (d i : Nat), sameB a b d i = true ↔ ∀ j, j < d → a.getD (i + j) false = b.getD (i + j) false
  | 0, i => ⟨fun _ j hj => by omega, fun _ => rfl⟩
  | d + 1, i => by
    simp only [sameB, Bool.and_eq_true, beq_iff_eq, sameB_iff a b d (i + 1)]
    refine ⟨fun ⟨h, h'⟩ j hj => ?_, fun h => ⟨h 0 (by omega), fun j hj => ?_⟩⟩
    · cases j with
      | zero => exact h
      | succ j => have := h' j (by omega); rwa [show i + 1 + j = i + (j + 1) by omega] at this
    · have := h (j + 1) (by omega)
      rwa [show i + 1 + j = i + (j + 1) by omega]
theorem evn_SameBools_l0 (a b : List Bool) (hl : a.length ≤ 100000) (he : a.length = b.length) : ∀ (d i : Nat), i + d = a.length → Ev (fun k => retargetref40_SameBools.l0 k a b (i : Int)) (sameB a b d i)
  | 0, i, e => by
    refine Ev.step (f := fun k => some true) (fun k => ?_) (Ev.now _)
    simp only [retargetref40_SameBools.l0]
    rw [if_neg (by omega)]
  | d + 1, i, e => by
    have ih := evn_SameBools_l0 a b hl he d (i + 1) (by omega)
    have hn : wrap64 ((i : Int) + 1) = ((i + 1 : Nat) : Int) := by rw [w64 (by omega) (by omega)]; simp
    refine Ev.step (f := fun k => if (a.getD i false == b.getD i false) = true then retargetref40_SameBools.l0 k a b ((i + 1 : Nat) : Int) else some false) (fun k => ?_) ?_
    · simp only [retargetref40_SameBools.l0]
      rw [if_pos (by omega), if_pos (by omega), if_pos (by omega), hn]
      simp only [rdOf, Int.toNat_natCast]
      obtain ⟨u, hu⟩ : ∃ u, u = a.getD i false := ⟨_, rfl⟩
      obtain ⟨v, hv⟩ : ∃ v, v = b.getD i false := ⟨_, rfl⟩
      simp only [← hu, ← hv]
      cases u <;> cases v <;> rfl
    · unfold sameB
      cases (a.getD i false == b.getD i false) with
      | true => exact ih
      | false => exact Ev.now _
theorem evn_SameBools (a b : List Bool) (hl : a.length ≤ 100000) : Ev (fun k => retargetref40_SameBools.f k a b) (decide (a = b)) := by
  unfold retargetref40_SameBools.f
  by_cases he : a.length = b.length
  · simp only [if_pos (show (a.length : Int) = (b.length : Int) by omega)]
    have := evn_SameBools_l0 a b hl he a.length 0 (by omega)
    have e : sameB a b a.length 0 = decide (a = b) := by
      rw [Bool.eq_iff_iff, sameB_iff, decide_eq_true_eq]
      refine ⟨fun h => ?_, fun h => by rw [h]; intros; rfl⟩
      refine List.ext_getElem he fun j h1 h2 => ?_
      have := h j h1
      rw [Nat.zero_add] at this
      rwa [List.getD_eq_getElem?_getD, List.getD_eq_getElem?_getD, List.getElem?_eq_getElem h1, List.getElem?_eq_getElem h2] at this
    rwa [e] at this
  · simp only [if_neg (show ¬ (a.length : Int) = (b.length : Int) by omega)]
    rw [decide_eq_false (fun h => he (by rw [h]))]
    exact Ev.now _
/-! ### Greatness -/
def Gr (its : List S48) (lab : List Int) : Prop := (60 < its.length ∧ its.length ≤ 500) ∨ 510 < its.length ∨ (60 < lab.length ∧ lab.length ≤ 500) ∨ 510 < lab.length
instance (its : List S48) (lab : List Int) : Decidable (Gr its lab) := by unfold Gr; exact inferInstance
theorem great_f (its : List S48) (lab : List Int) : retargetref40_Great.f its lab = some (decide (Gr its lab)) := by
  unfold retargetref40_Great.f Gr
  repeat' split
  all_goals congr 1
  all_goals first | (symm; exact decide_eq_true (by omega)) | (exact decide_eq_decide.2 (by omega))
theorem not_gr {its : List S48} {lab : List Int} (h : ¬ Gr its lab) : its.length ≤ 510 ∧ lab.length ≤ 510 := by unfold Gr at h; omega
