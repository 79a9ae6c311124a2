/- A row's argument opened: slices of struct, slices of bool, the program of package relax; from the statement's own reading to the print's rows. -/
import Derived.Test.YtclmipjoebbeiaaQx0
import Derived.WalkKit
import Derived.ProofKit
import Derived.OpenShut
import Derived.ChangeOld
import Derived.Below
import Derived.Deep.Slices
namespace Go.Proofs.Ytclmipjoebbeiaa.Q
open Go.ChangeShapes Go.WideShapes Go.ChangeAt Go.RowKit Go.Proofs.YtclmipjoebbeiaaW.PrintWords Go.Proofs.YtclmipjoebbeiaaW.PrintLast Go.Proofs.YtclmipjoebbeiaaW.PrintMore
set_option linter.unusedVariables false
variable {H : Type} {enc : TypeId × Value → H} {P : Program} {w : World} {base : Nat} {spare : Nat → Bool} {held : Bool}

/-- Whatever is read through type e is a thing of kind d of which G holds. -/
def Opens {α : Type} (enc : TypeId × Value → H) (P : Program) (w : World) (base : Nat) (spare : Nat → Bool) (held : Bool) (d : Kd α) (e : TypeId) (G : α → Prop) : Prop :=
  d.sz = P.cellsOf e ∧ ∀ fuel cs x, DataW.trod enc P w base spare held fuel e cs = some x → ∃ y, d.K w y cs ∧ G y
theorem Opens.int {k : IntKind} {e : TypeId} (he : P.underlying e = some (.int k)) (hc : P.cellsOf e = 1) : Opens enc P w base spare held (Kd.int k) e (fun n => (Lit.int k n).wf = true) := by
  refine ⟨by rw [hc]; rfl, fun fuel cs x h => ?_⟩
  obtain ⟨n, rfl, _, hw⟩ := DataW.trod_int he h
  exact ⟨n, rfl, hw⟩
theorem Opens.bool {e : TypeId} (he : P.underlying e = some .bool) (hc : P.cellsOf e = 1) : Opens enc P w base spare held Kd.bool e (fun _ => True) := by
  refine ⟨by rw [hc]; rfl, fun fuel cs x h => ?_⟩
  obtain ⟨n, rfl, _⟩ := DataW.trod_bool he h
  exact ⟨n, rfl, trivial⟩
theorem Opens.row {α : Type} [Inhabited α] {d : Kd α} {t e : TypeId} {G : α → Prop} (ht : P.underlying t = some (.slice e)) (hd : Opens enc P w base spare held d e G) {fuel : Nat} {cs : List Value} {x : DataW H × List MemPlace}
    (h : DataW.trod enc P w base spare held fuel t cs = some x) : ∃ (A : Option Addr) (c : Nat) (l : List α), cs = [.slice A l.length c] ∧ l.length ≤ c ∧ d.C w A l.length l ∧ ∀ y ∈ l, G y := by
  rcases Go.Deep.open_slice ht h with ⟨rfl, _⟩ | ⟨a, len, cap, m, n, D, Pl, rfl, hb, hl, hm, hmm, _, hx⟩
  · exact ⟨none, 0, [], rfl, Nat.le_refl _, ⟨rfl, by simp, fun h => absurd h (by simp)⟩, by simp⟩
  have hlm : len ≤ m := by rw [hmm]; split <;> omega
  obtain ⟨Y, hY⟩ := Go.Deep.choose_lt (α := α) (p := fun i y => (∃ cs', w.cells? base (a.add (i * P.cellsOf e)) (P.cellsOf e) = some cs' ∧ d.K w y cs') ∧ G y) (n := len) (fun i hi => by
    obtain ⟨cs', h1, h2⟩ := hx i (by omega)
    obtain ⟨y, h3, h4⟩ := hd.2 _ _ _ h2
    exact ⟨y, ⟨cs', h1, h3⟩, h4⟩)
  refine ⟨some a, cap, (List.range len).map Y, by simp, by simpa using hl, ⟨rfl, ?_, fun _ => ⟨a, rfl, fun j p hj => ?_⟩⟩, ?_⟩
  · simp only [List.length_map, List.length_range]
    have : maxLen ≤ 9223372036854775807 := by decide
    omega
  · simp only [List.getElem?_map] at hj
    have hjl : j < len := by
      rcases Nat.lt_or_ge j len with h | h
      · exact h
      · rw [List.getElem?_eq_none (by simpa using h)] at hj; cases hj
    rw [List.getElem?_range hjl] at hj
    obtain rfl := Option.some.inj hj
    obtain ⟨⟨cs', h1, h2⟩, _⟩ := hY j hjl
    obtain ⟨_, h3, h4⟩ := World.cells?_some h1
    refine ⟨cs', by rw [h3, hd.1], h2, fun i u hu => ?_⟩
    have hi : i < P.cellsOf e := by rw [← h3]; exact (List.getElem?_eq_some_iff.1 hu).1
    have := h4 i hi
    rw [Addr.add_add, hu] at this
    rw [hd.1]
    exact this
  · intro y hy
    obtain ⟨i, hi, rfl⟩ := List.mem_map.1 hy
    exact (hY i (List.mem_range.1 hi)).2
theorem Opens.slice {α : Type} [Inhabited α] {d : Kd α} {t e : TypeId} {G : α → Prop} (ht : P.underlying t = some (.slice e)) (hc : P.cellsOf t = 1) (hd : Opens enc P w base spare held d e G) : Opens enc P w base spare held (Kd.slice e d) t (fun l => ∀ y ∈ l, G y) := by
  refine ⟨by rw [hc]; rfl, fun fuel cs x h => ?_⟩
  obtain ⟨A, c, l, rfl, h1, h2, h3⟩ := Opens.row ht hd h
  exact ⟨l, ⟨A, c, rfl, h1, h2⟩, h3⟩
/-- An argument that is a slice. -/
theorem Opens.arg {α : Type} [Inhabited α] {d : Kd α} {t e : TypeId} {G : α → Prop} {v : Value} {D : DataW H} {ps : List MemPlace} (ht : P.underlying t = some (.slice e)) (hd : Opens enc P w base spare held d e G) (h : DataW.Trod enc P w base spare held t v D ps)
    (hv : ∃ a len cap, v = .slice a len cap) : ∃ (A : Option Addr) (c : Nat) (l : List α), v = .slice A l.length c ∧ l.length ≤ c ∧ d.C w A l.length l ∧ ∀ y ∈ l, G y := by
  obtain ⟨fuel, hf⟩ := h
  obtain ⟨a, len, cap, rfl⟩ := hv
  obtain ⟨A, c, l, h0, h1, h2, h3⟩ := Opens.row ht hd hf
  simp [Value.cells] at h0
  obtain ⟨rfl, rfl, rfl⟩ := h0
  exact ⟨_, _, _, rfl, h1, h2, h3⟩
instance : Inhabited S48 := ⟨z48⟩
theorem Opens.item : Opens enc Try.prog w base spare held k48 48 (fun _ => True) := by
  refine ⟨by kernel_rfl, fun fuel cs x h => ?_⟩
  obtain ⟨xs, n, _, _, hl, _, hf⟩ := DataW.trod_struct Try.underlying48 h
  have h7 : cs.length = 7 := hl
  have each : ∀ i, i < 7 → ∃ m, (cs.drop i).take 1 = [.int .i64 m] := by
    intro i hi
    match i, hi with
    | 0, _ => have := hf 0 _ rfl; cases hx : xs[0]? with | none => simp_all | some y => rw [hx] at this; obtain ⟨m, hm, _⟩ := DataW.trod_int Try.underlying3 this; exact ⟨m, hm⟩
    | 1, _ => have := hf 1 _ rfl; cases hx : xs[1]? with | none => simp_all | some y => rw [hx] at this; obtain ⟨m, hm, _⟩ := DataW.trod_int Try.underlying3 this; exact ⟨m, hm⟩
    | 2, _ => have := hf 2 _ rfl; cases hx : xs[2]? with | none => simp_all | some y => rw [hx] at this; obtain ⟨m, hm, _⟩ := DataW.trod_int Try.underlying3 this; exact ⟨m, hm⟩
    | 3, _ => have := hf 3 _ rfl; cases hx : xs[3]? with | none => simp_all | some y => rw [hx] at this; obtain ⟨m, hm, _⟩ := DataW.trod_int Try.underlying3 this; exact ⟨m, hm⟩
    | 4, _ => have := hf 4 _ rfl; cases hx : xs[4]? with | none => simp_all | some y => rw [hx] at this; obtain ⟨m, hm, _⟩ := DataW.trod_int Try.underlying3 this; exact ⟨m, hm⟩
    | 5, _ => have := hf 5 _ rfl; cases hx : xs[5]? with | none => simp_all | some y => rw [hx] at this; obtain ⟨m, hm, _⟩ := DataW.trod_int Try.underlying3 this; exact ⟨m, hm⟩
    | 6, _ => have := hf 6 _ rfl; cases hx : xs[6]? with | none => simp_all | some y => rw [hx] at this; obtain ⟨m, hm, _⟩ := DataW.trod_int Try.underlying3 this; exact ⟨m, hm⟩
  match cs, h7 with
  | [c0, c1, c2, c3, c4, c5, c6], _ =>
    obtain ⟨m0, h0⟩ := each 0 (by omega)
    obtain ⟨m1, h1⟩ := each 1 (by omega)
    obtain ⟨m2, h2⟩ := each 2 (by omega)
    obtain ⟨m3, h3⟩ := each 3 (by omega)
    obtain ⟨m4, h4⟩ := each 4 (by omega)
    obtain ⟨m5, h5⟩ := each 5 (by omega)
    obtain ⟨m6, h6⟩ := each 6 (by omega)
    simp at h0 h1 h2 h3 h4 h5 h6
    subst h0 h1 h2 h3 h4 h5 h6
    exact ⟨⟨m0, m1, m2, m3, m4, m5, m6⟩, k48_mk w _, trivial⟩
/-- The program: its items and labels. -/
theorem open_program {v : Value} {D : DataW H} {ps : List MemPlace} (h : DataW.Trod enc Try.prog w base spare held 25 v D ps) (hv : ∃ cs, v = .agg cs ∧ cs.size = Try.prog.cellsOf 25) :
    ∃ (A0 : Option Addr) (c0 : Nat) (l0 : List S48) (A1 : Option Addr) (c1 : Nat) (l1 : List Int), v = .agg #[.slice A0 l0.length c0, .slice A1 l1.length c1] ∧ l0.length ≤ c0 ∧ k48.C w A0 l0.length l0 ∧ l1.length ≤ c1 ∧ (Kd.int .i64).C w A1 l1.length l1 := by
  obtain ⟨fuel, hf⟩ := h
  obtain ⟨cs, rfl, hs⟩ := hv
  obtain ⟨xs, n, _, _, hl, hlen, hx⟩ := DataW.trod_struct Try.underlying25 hf
  have h2 : cs.toList.length = 2 := hl
  have h3 : xs.length = 2 := hlen
  obtain ⟨c0, c1, rfl⟩ : ∃ c0 c1, cs = #[c0, c1] := by
    obtain ⟨L⟩ := cs
    match L, h2 with
    | [c0, c1], _ => exact ⟨c0, c1, rfl⟩
  have e0 := hx 0 _ rfl
  have e1 := hx 1 _ rfl
  match xs, h3 with
  | [y0, y1], _ =>
      obtain ⟨A0, cc0, l0, h0, h1, h2, _⟩ := Opens.row Try.underlying22 Opens.item e0
      obtain ⟨A1, cc1, l1, h3, h4, h5, _⟩ := Opens.row Try.underlying23 (Opens.int Try.underlying3 (by kernel_rfl)) e1
      have h0' : c0 = .slice A0 l0.length cc0 := by have : [c0] = [.slice A0 l0.length cc0] := h0; simpa using this
      have h3' : c1 = .slice A1 l1.length cc1 := by have : [c1] = [.slice A1 l1.length cc1] := h3; simpa using this
      exact ⟨A0, cc0, l0, A1, cc1, l1, by rw [h0', h3'], h1, h2, h4, h5⟩
