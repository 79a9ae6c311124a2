/- RelaxGrows: plain law: larger items, more long jumps. -/
import Derived.Test.YtclmipjoebbeiaaNumL
namespace Go.Proofs.Ytclmipjoebbeiaa.Q
open Go.RowKit Go.Proofs.YtclmipjoebbeiaaW.PrintWords Go.Proofs.YtclmipjoebbeiaaW.PrintLast Go.Proofs.YtclmipjoebbeiaaW.PrintMore
set_option linter.unusedVariables false
set_option linter.unusedSimpArgs false
set_option linter.unusedSectionVars false
/-- Two programs that differ in sizes alone; the second one's items are not smaller, in whatever form. -/
structure Larger (p q : List S48) : Prop where
  len : q.length = p.length
  to_ : ∀ k, k < p.length → (q.getD k z48).f2 = (p.getD k z48).f2
  rng : ∀ k, k < p.length → (q.getD k z48).f3 = (p.getD k z48).f3 ∧ (q.getD k z48).f4 = (p.getD k z48).f4 ∧ (q.getD k z48).f5 = (p.getD k z48).f5 ∧ (q.getD k z48).f6 = (p.getD k z48).f6
  short : ∀ k, k < p.length → (p.getD k z48).f0 ≤ (q.getD k z48).f0
  long : ∀ k, k < p.length → (p.getD k z48).f2 ≠ -1 → (p.getD k z48).f1 ≤ (q.getD k z48).f1
section
variable {p q : List S48} {lab : List Int} (hp : valid p lab = true) (hq : valid q lab = true) (L : Larger p q)
include hp hq L
theorem size_mono2 {a b : List Bool} (hb : OnlyJ q b) (hab : LeB a b) {k : Nat} (hk : k < p.length) : szAt p a k ≤ szAt q b k := by
  have hk' : k < q.length := by rw [L.len]; exact hk
  have h0 := L.short k hk
  unfold szAt
  by_cases cb : b.getD k false = true
  · have hn := hb k hk' cb
    have hn' : (p.getD k z48).f2 ≠ -1 := by rw [← L.to_ k hk]; exact hn
    have h1 := L.long k hk hn'
    rw [if_pos cb]
    by_cases ca : a.getD k false = true
    · rw [if_pos ca]; exact h1
    · rw [if_neg ca]; have := (long_facts hp hk).2.2 hn'; omega
  · rw [if_neg cb, if_neg (fun ca => cb (hab k ca))]
    exact h0
theorem place_mono2 {a b : List Bool} (hb : OnlyJ q b) (hab : LeB a b) (s : Nat) : ∀ t, s + t ≤ p.length → plAt p a (s + t) - plAt p a s ≤ plAt q b (s + t) - plAt q b s ∧ 0 ≤ plAt p a (s + t) - plAt p a s
  | 0, _ => by simp
  | t + 1, ht => by
    have ih := place_mono2 hb hab s t (by omega)
    have h1 := place_succ hp a (show s + t < p.length by omega)
    have h2 := place_succ hq b (show s + t < q.length by rw [L.len]; omega)
    have h3 := size_mono2 hp hq L hb hab (show s + t < p.length by omega)
    have h4 := size_facts hp a (show s + t < p.length by omega)
    rw [show s + (t + 1) = s + t + 1 by omega, h1, h2]
    omega
theorem tgt_eq {i : Nat} (hi : i < p.length) : tgt q lab i = tgt p lab i := by unfold tgt; rw [L.to_ i hi]
theorem jump_eq {i : Nat} (hi : i < p.length) : jumpAt q i = jumpAt p i := by unfold jumpAt; rw [L.to_ i hi]
/-- What lies out of a range about 0, lies out of it in the larger program too. -/
theorem out_mono2 {a b : List Bool} (hb : OnlyJ q b) (hab : LeB a b) {i : Nat} (hi : i < p.length) (hj : jumpAt p i = true) {lo hi' : Int} (h1 : lo ≤ 0) (h2 : 0 ≤ hi')
    (h : ¬ (lo ≤ distOf p lab (placesOf p a) i ∧ distOf p lab (placesOf p a) i ≤ hi')) : ¬ (lo ≤ distOf q lab (placesOf q b) i ∧ distOf q lab (placesOf q b) i ≤ hi') := by
  obtain ⟨ht, ea⟩ := dist_eq hp a hi hj
  obtain ⟨_, eb⟩ := dist_eq hq b (show i < q.length by rw [L.len]; exact hi) (by rw [jump_eq hp hq L hi]; exact hj)
  rw [tgt_eq hp hq L hi] at eb
  rw [ea] at h
  rw [eb]
  rcases Nat.le_total (i + 1) (tgt p lab i) with c | c
  · have := place_mono2 hp hq L hb hab (i + 1) (tgt p lab i - (i + 1)) (by omega)
    rw [show i + 1 + (tgt p lab i - (i + 1)) = tgt p lab i by omega] at this
    omega
  · have := place_mono2 hp hq L hb hab (tgt p lab i) (i + 1 - tgt p lab i) (by omega)
    rw [show tgt p lab i + (i + 1 - tgt p lab i) = i + 1 by omega] at this
    omega
theorem range_facts {i : Nat} (hi : i < p.length) (hj : jumpAt p i = true) : (p.getD i z48).f3 ≤ 0 ∧ 0 ≤ (p.getD i z48).f4 ∧ (p.getD i z48).f5 ≤ 0 ∧ 0 ≤ (p.getD i z48).f6 := by
  have hr := (item_facts hp hi).2
  have hj' : 0 ≤ (p.getD i z48).f2 := by simpa [jumpAt] using hj
  unfold okRest at hr
  rw [if_neg (by omega)] at hr
  omega
theorem least_larger : LeB (leastOf p lab) (leastOf q lab) := by
  obtain ⟨Ip, Sp⟩ := leastOf_spec hp
  obtain ⟨Iq, Sq⟩ := leastOf_spec hq
  have hO : OnlyJ p (leastOf q lab) := fun k hk hb => by rw [← L.to_ k hk]; exact Iq.only k (by rw [L.len]; exact hk) hb
  refine Ip.forced _ (by rw [Iq.len, L.len]) hO (fun i hi => ?_)
  have hs := Sq i (by rw [L.len]; exact hi)
  unfold badJ at hs ⊢
  rw [jump_eq hp hq L hi] at hs
  cases hj : jumpAt p i with
  | false => rfl
  | true =>
    rw [hj] at hs
    cases hb : (leastOf q lab).getD i false with
    | true => rfl
    | false =>
      rw [hb] at hs
      have h1 : shortOk q lab (placesOf q (leastOf q lab)) i = true := by simpa using hs
      have rf := range_facts hp hq L hi hj
      have h2 : shortOk p lab (placesOf p (leastOf q lab)) i = true := by
        unfold shortOk at h1 ⊢
        rw [(L.rng i hi).1, (L.rng i hi).2.1] at h1
        have h1 := of_decide_eq_true h1
        refine decide_eq_true ?_
        rcases Classical.em ((p.getD i z48).f3 ≤ distOf p lab (placesOf p (leastOf q lab)) i ∧ distOf p lab (placesOf p (leastOf q lab)) i ≤ (p.getD i z48).f4) with c | c
        · exact c
        · exact absurd h1 (out_mono2 hp hq L Iq.only (fun _ h => h) hi hj rf.1 rf.2.1 c)
      rw [h2]; rfl
theorem range_larger (h : longAll p lab (leastOf p lab) p.length 0 = false) : longAll q lab (leastOf q lab) q.length 0 = false := by
  obtain ⟨Ip, _⟩ := leastOf_spec hp
  obtain ⟨Iq, _⟩ := leastOf_spec hq
  cases hL : longAll q lab (leastOf q lab) q.length 0 with
  | false => rfl
  | true =>
    rw [longAll_iff] at hL
    have : longAll p lab (leastOf p lab) p.length 0 = true := by
      rw [longAll_iff]
      intro j _ hj hb
      have hj' : j < p.length := by omega
      have hbq := least_larger hp hq L j hb
      have hq1 := hL j (by omega) (by rw [L.len]; omega) hbq
      have hjj : jumpAt p j = true := by
        have h1 := Ip.only j hj' hb
        have h2 := (item_facts hp hj').2
        unfold okRest at h2
        rw [if_neg h1] at h2
        unfold jumpAt
        exact decide_eq_true h2.1.1
      have rf := range_facts hp hq L hj' hjj
      unfold longOk at hq1 ⊢
      rw [(L.rng j hj').2.2.1, (L.rng j hj').2.2.2] at hq1
      have h1 := of_decide_eq_true hq1
      refine decide_eq_true ?_
      rcases Classical.em ((p.getD j z48).f5 ≤ distOf p lab (placesOf p (leastOf p lab)) j ∧ distOf p lab (placesOf p (leastOf p lab)) j ≤ (p.getD j z48).f6) with c | c
      · exact c
      · exact absurd h1 (out_mono2 hp hq L Iq.only (least_larger hp hq L) hj' hjj rf.2.2.1 rf.2.2.2 c)
    rw [this] at h
    cases h
end
