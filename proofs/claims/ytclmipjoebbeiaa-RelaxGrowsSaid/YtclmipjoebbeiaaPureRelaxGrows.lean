/- RelaxGrows: if items become larger, jumps only become long; for any program, index and number of words. No conditions. -/
import Derived.Test.YtclmipjoebbeiaaQx32
import Derived.Test.YtclmipjoebbeiaaGGrowsPure
namespace Go.Proofs.Ytclmipjoebbeiaa.Pure
open Go.RowKit Go.Proofs.Ytclmipjoebbeiaa.Q Go.Proofs.YtclmipjoebbeiaaW.PrintWords Go.Proofs.YtclmipjoebbeiaaW.PrintLast Go.Proofs.YtclmipjoebbeiaaW.PrintMore
theorem grows_l0 (a long : List Bool) (hl : a.length ≤ 100000) (he : long.length = a.length) (hle : LeB a long) : ∀ (d i : Nat), i + d = a.length → Ev (fun k => retargetlaw40_RelaxGrows.l0 k true a long (i : Int)) true
  | 0, i, e => by
    refine Ev.step (f := fun k => some true) (fun k => ?_) (Ev.now _)
    simp only [retargetlaw40_RelaxGrows.l0]
    rw [if_neg (by omega)]
  | d + 1, i, e => by
    have ih := grows_l0 a long hl he hle d (i + 1) (by omega)
    have hn : wrap64 ((i : Int) + 1) = ((i + 1 : Nat) : Int) := by rw [w64 (by omega) (by omega)]; simp
    have hx : rdOf false a (i : Int) = a.getD i false := by simp [rdOf]
    have hy : rdOf false long (i : Int) = long.getD i false := by simp [rdOf]
    refine Ev.step (f := fun k => retargetlaw40_RelaxGrows.l0 k true a long ((i + 1 : Nat) : Int)) (fun k => ?_) ih
    simp only [retargetlaw40_RelaxGrows.l0]
    rw [if_pos (by omega), if_pos (by omega), hx, hy, hn]
    cases hb : a.getD i false with
    | false => rw [if_neg (by decide)]
    | true => rw [if_pos rfl, if_pos (by omega), if_pos (hle i hb)]
theorem grows_j1 (p q : List S48) (lab : List Int) (h1 : p.length ≤ 100000) (h2 : lab.length ≤ 100000) (hl : q.length = p.length) (hL : valid p lab = true → Larger p q) : Ev (fun k => retargetlaw40_RelaxGrows.j1 k true p lab q lab) true := by
  have h1' : q.length ≤ 100000 := by omega
  have fin : ∀ a x b y, (x = 24 → (y != 0) = true) → Ev (fun k => retargetlaw40_RelaxGrows.j2 k true a x b y true) true := fun a x b y hxy => by
    refine Ev.step (f := fun k => some true) (fun k => ?_) (Ev.now _)
    simp only [retargetlaw40_RelaxGrows.j2, if_true]
    by_cases c : x = 24
    · rw [if_pos c, hxy c]
    · rw [if_neg c]
  refine Ev.step (fun k => by simp only [retargetlaw40_RelaxGrows.j1, solve_f h1 h2, solve_f h1' h2, Option.bind_some]; rfl) ?_
  rcases solveS_cases p lab with ⟨hv, e, hA⟩ | ⟨hv, e, hA⟩ | ⟨hv, e⟩
  · simp only [e, if_true]
    rcases solveS_cases q lab with ⟨hv', e', hA'⟩ | ⟨hv', e', hA'⟩ | ⟨hv', e'⟩
    · simp only [e', bne_self_eq_false]
      obtain ⟨Ip, _⟩ := Q.leastOf_spec hv
      obtain ⟨Iq, _⟩ := Q.leastOf_spec hv'
      refine Ev.step (f := fun k => retargetlaw40_RelaxGrows.l0 k true (Q.leastOf p lab) (Q.leastOf q lab) 0) (fun k => ?_) ?_
      · simp only [retargetlaw40_RelaxGrows.j2, Bool.false_eq_true, if_false]
        rw [if_pos (by rw [Ip.len, Iq.len, hl])]
      · exact grows_l0 _ _ (by rw [Ip.len]; exact h1) (by rw [Ip.len, Iq.len, hl]) (least_larger hv hv' (hL hv)) _ 0 (by rw [Nat.zero_add])
    · simp only [e']
      exact fin _ _ _ _ (fun h => by cases h)
    · simp only [e']
      exact fin _ _ _ _ (fun h => by cases h)
  · simp only [e, if_neg (show ¬ ((24 : Int) = 0) by decide)]
    refine fin _ _ _ _ (fun _ => ?_)
    rcases solveS_cases q lab with ⟨hv', e', hA'⟩ | ⟨hv', e', hA'⟩ | ⟨hv', e'⟩
    · have := range_larger hv hv' (hL hv) hA
      rw [this] at hA'
      cases hA'
    · rw [e']; rfl
    · rw [e']; rfl
  · simp only [e, if_neg (show ¬ ((8 : Int) = 0) by decide)]
    exact fin _ _ _ _ (fun h => by cases h)
def bigger (x : S48) (m : Int) : S48 := if x.f2 ≥ 0 then ⟨wrap64 (x.f0 + m), wrap64 (x.f1 + m), x.f2, x.f3, x.f4, x.f5, x.f6⟩ else ⟨wrap64 (x.f0 + m), x.f1, x.f2, x.f3, x.f4, x.f5, x.f6⟩
theorem getD_set48 (l : List S48) (i k : Nat) (x : S48) (hi : i < l.length) : (l.set i x).getD k z48 = if k = i then x else l.getD k z48 := by
  rw [List.getD_eq_getElem?_getD, List.getD_eq_getElem?_getD, List.getElem?_set]
  by_cases c : k = i
  · rw [if_pos c, if_pos c.symm, if_pos hi]; rfl
  · rw [if_neg c, if_neg (fun e => c e.symm)]
theorem larger_bigger {p : List S48} {lab : List Int} (h : valid p lab = true) {i : Nat} (hi : i < p.length) {m : Int} (h0 : 0 ≤ m) (h1 : m ≤ 1000) : Larger p (p.set i (bigger (p.getD i z48) m)) := by
  obtain ⟨g0, _⟩ := item_facts h hi
  obtain ⟨g1, g2, _⟩ := long_facts h hi
  have e0 : wrap64 ((p.getD i z48).f0 + m) = (p.getD i z48).f0 + m := w64 (by omega) (by omega)
  have e1 : wrap64 ((p.getD i z48).f1 + m) = (p.getD i z48).f1 + m := w64 (by omega) (by omega)
  refine ⟨by simp, fun k _ => ?_, fun k _ => ?_, fun k _ => ?_, fun k _ _ => ?_⟩
  all_goals rw [getD_set48 _ _ _ _ hi]
  all_goals by_cases c : k = i
  · rw [if_pos c, c]; unfold bigger; split <;> rfl
  · rw [if_neg c]
  · rw [if_pos c, c]; unfold bigger; split <;> exact ⟨rfl, rfl, rfl, rfl⟩
  · rw [if_neg c]; exact ⟨rfl, rfl, rfl, rfl⟩
  · rw [if_pos c, c]; unfold bigger; split <;> (show _ ≤ wrap64 _; omega)
  · rw [if_neg c]; exact Int.le_refl _
  · rw [if_pos c, c]; unfold bigger; split
    · show _ ≤ wrap64 _; omega
    · exact Int.le_refl _
  · rw [if_neg c]; exact Int.le_refl _
theorem grows_j0 (p : List S48) (lab : List Int) (a m : Int) (b : Bool) (h1 : p.length ≤ 100000) (h2 : lab.length ≤ 100000) (ha : b = false → 0 ≤ a ∧ a < p.length ∧ 0 ≤ m ∧ m ≤ 1000) : Ev (fun k => retargetlaw40_RelaxGrows.j0 k a m true b p lab) true := by
  cases b with
  | true =>
    refine Ev.step (f := fun k => some true) (fun k => ?_) (Ev.now _)
    simp only [retargetlaw40_RelaxGrows.j0, if_true]
  | false =>
    obtain ⟨a0, a1, m0, m1⟩ := ha rfl
    obtain ⟨i, rfl⟩ : ∃ i : Nat, a = (i : Int) := ⟨a.toNat, by omega⟩
    have hi : i < p.length := by omega
    have hr : rd_T48 p (i : Int) = p.getD i z48 := by simp [rd_T48]
    refine Ev.step (f := fun k => retargetlaw40_RelaxGrows.j1 k true p lab (p.set i (bigger (p.getD i z48) m)) lab) (fun k => ?_) ?_
    · simp only [retargetlaw40_RelaxGrows.j0, Bool.false_eq_true, if_false, Option.bind_some, List.nil_append, List.length_nil, hr, Int.toNat_natCast]
      rw [if_pos (by omega), if_pos (by omega), if_pos (by omega)]
      unfold bigger
      by_cases c : (p.getD i z48).f2 ≥ 0
      · rw [if_pos c, if_pos c]
        have e : ∀ x : S48, rd_T48 (p.set i x) (i : Int) = x := fun x => by
          unfold rd_T48
          rw [Int.toNat_natCast, getD_set48 _ _ _ _ hi, if_pos rfl]
        simp only [e, List.set_set]
      · rw [if_neg c, if_neg c]
    · exact grows_j1 p _ lab h1 h2 (by simp) (fun hv => larger_bigger hv hi m0 m1)
theorem RelaxGrows (its : List S48) (lab : List Int) (a m : Int) (_ha : (Lit.int .i64 a).wf = true) (_hm : (Lit.int .i64 m).wf = true) : ∃ k, retargetlaw40_RelaxGrows.f k its lab a m = some true := by
  refine Ev.rounds (g := fun k => retargetlaw40_RelaxGrows.f k its lab a m) ?_
  unfold retargetlaw40_RelaxGrows.f retargetlaw40_alive.f
  simp only [great_f, Option.bind_some]
  by_cases hg : Gr its lab
  · simp only [decide_eq_true hg, if_true]
    refine Ev.step (f := fun k => some true) (fun k => ?_) (Ev.now _)
    simp only [retargetlaw40_RelaxGrows.j0, if_true]
  · simp only [decide_eq_false hg, Bool.false_eq_true, if_false]
    have := not_gr hg
    have ht := grows_j0 its lab a m true (by omega) (by omega) (fun h => by cases h)
    by_cases c1 : a < 0
    · simp only [if_pos c1]; exact ht
    simp only [if_neg c1]
    by_cases c2 : a ≥ (its.length : Int)
    · simp only [if_pos c2]; exact ht
    simp only [if_neg c2]
    by_cases c3 : m < 0
    · simp only [if_pos c3]; exact ht
    simp only [if_neg c3]
    by_cases c4 : m > 1000
    · simp only [if_pos c4]; exact ht
    simp only [if_neg c4]
    exact grows_j0 its lab a m (!true) (by omega) (by omega) (fun _ => ⟨by omega, by omega, by omega, by omega⟩)
