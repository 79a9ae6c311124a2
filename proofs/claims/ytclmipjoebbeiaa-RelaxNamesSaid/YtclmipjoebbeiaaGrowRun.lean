/- Function grow (package relax): contract. -/
import Derived.Test.YtclmipjoebbeiaaGrowAll
import Derived.Test.YtclmipjoebbeiaaGrowLeast
import Derived.Test.YtclmipjoebbeiaaQx7
import Derived.Test.YtclmipjoebbeiaaQx14
namespace Go.Proofs.Ytclmipjoebbeiaa.Q
open Go.ChangeMaps Go.RowKit Go.Maps Go.Proofs.YtclmipjoebbeiaaW.PrintWords Go.Proofs.YtclmipjoebbeiaaW.PrintLast Go.Proofs.YtclmipjoebbeiaaW.PrintMore
set_option linter.unusedVariables false
set_option linter.unusedSimpArgs false
attribute [local go_sem] Oper.semAt_some

section
variable {w00 w w' : World} {bp bl bq g b n : Nat} {A0 : Option Addr} {c0 : Nat} {l0 : List S48} {A1 : Option Addr} {c1 : Nat} {l1 : List Int} {vl : Value} {long : List Bool} {vq : Value} {xs : List Int} {S : Int → Bool}
theorem fr_set (w : World) (p : Addr) (u : Value) : Fr w (w.setCell p u) (fun k => k = p.block) := ⟨rfl, rfl, rfl, by simp, fun k hk hn => Below.heap_setCell w p u k hn⟩
theorem fr_below (h : Below w.heap.size w w') : Fr w w' (fun _ => False) := ⟨h.os, h.tape, h.output, h.size, fun k hk _ => h.block k hk⟩
theorem GW.fr (G : GW w00 w bp bl bq g b n A0 c0 l0 A1 c1 l1 vl long vq xs S) (hf : Fr w w' (fun _ => False)) : GW w00 w' bp bl bq g b n A0 c0 l0 A1 c1 l1 vl long vq xs S :=
  G.move (G.q.kept hf (fun e => e) (fun e => e) (fun _ _ e => e)) (hf.moves _ _ _)
/-- Jump i becomes long. -/
theorem GW.set {gl cl : Nat} (G : GW w00 w bp bl bq g b n A0 c0 l0 A1 c1 l1 (.slice (some ⟨gl, 0, none⟩) l0.length cl) long vq xs S) (i : Nat) :
    GW w00 (w.setCell ⟨gl, i, none⟩ (.bool true)) bp bl bq g b n A0 c0 l0 A1 c1 l1 (.slice (some ⟨gl, 0, none⟩) l0.length cl) (long.set i true) vq xs S := by
  obtain ⟨cells, hc⟩ := R_own G.rl (k := gl) rfl
  have hX := fr_set w ⟨gl, i, none⟩ (.bool true)
  obtain ⟨es, clock, hm⟩ := G.q.map.isMap
  have hB : w00.heap.size ≤ gl := Kd.Q_base (Kd.Q_of_R G.rl) gl rfl
  refine ⟨hX.below G.below G.below.size (fun k e => by rw [e]; exact hB), blk_far G.bp (typ_ne G.bp hc (by decide)) _, blk_far G.bl (typ_ne G.bl hc (by decide)) _, blk_far G.bq (typ_ne G.bq hc (by decide)) _, ?_, ?_⟩
  · have := Kd.R_putn G.rl (i : Int) true
    rw [Int.toNat_natCast] at this
    exact this
  · refine G.q.kept hX (typ_ne G.q.blk hc (by decide)) (fun e => ?_) (fun k hk e => ?_)
    · have e : b = gl := e
      rw [e, hc] at hm
      cases hm
    · have e : k = gl := e
      obtain ⟨cells', hc'⟩ := Kd.Q_typed G.q.row k hk
      exact typ_ne hc' hc (by decide) e
theorem R_int_fr {B : Nat} {v : Value} {ys : List Int} {X : Nat → Prop} (h : (Kd.int .i64).R 3 w B (fun _ => True) v ys) (hg : Fr w w' X) (h3 : ∀ k, v.ownBlock = some k → ¬ X k) : (Kd.int .i64).R 3 w' B (fun _ => True) v ys :=
  Kd.R_mono (Kd.R_step (Kd.R_bound (ok := fun k => some k = v.ownBlock) ⟨fun k hk => hk.symm, h.2.choose, h.2.choose_spec.1, h.2.choose_spec.2⟩) (fun k hk hlt => hg.block k hlt (h3 k hk.1.symm))) (fun _ _ => trivial)
/-- The row of places is none of what a queue's move touches. -/
theorem GW.ra (G : GW w00 w bp bl bq g b n A0 c0 l0 A1 c1 l1 vl long vq xs S) {va vq' : Value} {ys : List Int} (ra : (Kd.int .i64).R 3 w w00.heap.size (fun _ => True) va ys) (ne : ∀ k, va.ownBlock = some k → some k ≠ vq.ownBlock) (hm : Moves w w' g b vq vq') :
    (Kd.int .i64).R 3 w' w00.heap.size (fun _ => True) va ys ∧ ∀ k, va.ownBlock = some k → some k ≠ vq'.ownBlock := by
  refine ⟨R_int_fr ra hm.1 (fun k hk e => ?_), fun k hk e => ?_⟩
  · obtain ⟨cells, hc⟩ := Kd.Q_typed (Kd.Q_of_R ra) k hk
    rcases e with e | e | e
    · exact typ_ne hc G.q.blk (by decide) e
    · obtain ⟨es, clock, hmm⟩ := G.q.map.isMap
      rw [e, hmm] at hc
      cases hc
    · exact ne k hk e
  · obtain ⟨cells, hc⟩ := Kd.Q_typed (Kd.Q_of_R ra) k hk
    rcases hm.2 with e' | e' | ⟨j, e', hj⟩
    · exact ne k hk (e.trans e')
    · rw [e'] at e; cases e
    · rw [e'] at e
      have := Option.some.inj e
      have := blk_lt hc
      omega
end
/-- The loop's relation; k bounds the rounds to come. -/
structure GL (w00 w : World) (bp bl bq g b : Nat) (A0 : Option Addr) (c0 : Nat) (l0 : List S48) (A1 : Option Addr) (c1 : Nat) (l1 : List Int) (vl va : Value) (long : List Bool) (vq : Value) (xs : List Int) (S : Int → Bool) (n k : Nat) : Prop where
  G : GW w00 w bp bl bq g b n A0 c0 l0 A1 c1 l1 vl long vq xs S
  K : QOk l0 xs S
  I : Inv l0 l1 long
  ra : (Kd.int .i64).R 3 w w00.heap.size (fun _ => True) va (placesOf l0 long)
  ne : ∀ k, va.ownBlock = some k → some k ≠ vq.ownBlock
  ok : ∀ j, j < l0.length → shortJ l0 long j → S (j : Int) = true ∨ shortOk l0 l1 (placesOf l0 long) j = true
  hk : short long * 501 + xs.length ≤ k
  hn : n + 500 * short long ≤ 250500
theorem GL.stab {w00 w : World} {bp bl bq g b n k : Nat} {A0 : Option Addr} {c0 : Nat} {l0 : List S48} {A1 : Option Addr} {c1 : Nat} {l1 : List Int} {vl va : Value} {long : List Bool} {vq : Value} {S : Int → Bool} (L : GL w00 w bp bl bq g b A0 c0 l0 A1 c1 l1 vl va long vq [] S n k) (hv : valid l0 l1 = true) : long = leastOf l0 l1 := by
  obtain ⟨h1, h2⟩ := leastOf_spec hv
  refine Inv.unique L.I h1 (fun i hi => ?_) h2
  unfold badJ
  by_cases hj : jumpAt l0 i = true
  · rw [hj]
    cases hb : long.getD i false with
    | true => rfl
    | false =>
      rcases L.ok i hi ⟨by simpa [jumpAt] using hj, hb⟩ with h | h
      · exact absurd ((L.K.mem _).1 h) (by simp)
      · rw [h]; rfl
  · simp [hj]
theorem setS_false {S : Int → Bool} {x y : Int} : setS S x false y = true ↔ (y ≠ x ∧ S y = true) := by
  unfold setS; by_cases e : y = x
  · simp [e]
  · simp [e]
theorem QOk.take {l0 : List S48} {x : Int} {xs : List Int} {S : Int → Bool} (h : QOk l0 (x :: xs) S) : QOk l0 xs (setS S x false) := by
  have hd := List.nodup_cons.1 h.nodup
  refine ⟨hd.2, fun y => ?_, fun y hy => h.jump y (List.mem_cons_of_mem _ hy)⟩
  rw [setS_false, h.mem y, List.mem_cons]
  refine ⟨fun ⟨h1, h2⟩ => h2.resolve_left h1, fun hy => ⟨fun e => hd.1 (by rw [← e]; exact hy), Or.inr hy⟩⟩
theorem GW.cells {w00 w : World} {bp bl bq g b n : Nat} {A0 : Option Addr} {c0 : Nat} {l0 : List S48} {A1 : Option Addr} {c1 : Nat} {l1 : List Int} {vl : Value} {long : List Bool} {vq : Value} {xs : List Int} {S : Int → Bool} (G : GW w00 w bp bl bq g b n A0 c0 l0 A1 c1 l1 vl long vq xs S) :
    w.cell? ⟨bp, 0, none⟩ = some (.slice A0 l0.length c0) ∧ w.cell? ⟨bp, 1, none⟩ = some (.slice A1 l1.length c1) ∧ w.cell? ⟨bl, 0, none⟩ = some vl ∧ w.cell? ⟨bq, 0, none⟩ = some (.pointer (some ⟨g, 0, none⟩)) ∧ w.cell? ⟨g, 0, none⟩ = some vq :=
  ⟨(blk_cell G.bp 0).trans rfl, (blk_cell G.bp 1).trans rfl, (blk_cell G.bl 0).trans rfl, (blk_cell G.bq 0).trans rfl, (blk_cell G.q.blk 0).trans rfl⟩
theorem GW.start (w00 w : World) (A0 : Option Addr) (c0 : Nat) (l0 : List S48) (A1 : Option Addr) (c1 : Nat) (l1 : List Int) (Al : Option Addr) (cl : Nat) (long : List Bool) (HB : Below w00.heap.size w00 w) (hl : Kd.bool.R 4 w w00.heap.size (fun _ => True) (.slice Al l0.length cl) long) :
    GW w00 (((((w.alloc (.cells #[.slice A0 l0.length c0, .slice A1 l1.length c1] 25)).alloc (.cells #[.slice Al l0.length cl] 26)).alloc (.map #[] 0)).alloc (.cells #[.slice none 0 0, .map (some (w.heap.size + 1 + 1))] 68)).alloc (.cells #[.pointer (some ⟨w.heap.size + 1 + 1 + 1, 0, none⟩)] 65)) (w.heap.size) (w.heap.size + 1) (w.heap.size + 1 + 1 + 1 + 1) (w.heap.size + 1 + 1 + 1) (w.heap.size + 1 + 1) 0 A0 c0 l0 A1 c1 l1 (.slice Al l0.length cl) long (.slice none 0 0) [] (fun _ => false) := by
  have hs := HB.size
  have n0 := blk_new w (.cells #[.slice A0 l0.length c0, .slice A1 l1.length c1] 25)
  have n1 := blk_new (w.alloc (.cells #[.slice A0 l0.length c0, .slice A1 l1.length c1] 25)) (.cells #[.slice Al l0.length cl] 26)
  have n3 := blk_new (((w.alloc (.cells #[.slice A0 l0.length c0, .slice A1 l1.length c1] 25)).alloc (.cells #[.slice Al l0.length cl] 26)).alloc (.map #[] 0)) (.cells #[.slice none 0 0, .map (some (w.heap.size + 1 + 1))] 68)
  have n4 := blk_new ((((w.alloc (.cells #[.slice A0 l0.length c0, .slice A1 l1.length c1] 25)).alloc (.cells #[.slice Al l0.length cl] 26)).alloc (.map #[] 0)).alloc (.cells #[.slice none 0 0, .map (some (w.heap.size + 1 + 1))] 68)) (.cells #[.pointer (some ⟨w.heap.size + 1 + 1 + 1, 0, none⟩)] 65)
  have n2 := World.ownsMap_made (H := Unit) ((w.alloc (.cells #[.slice A0 l0.length c0, .slice A1 l1.length c1] 25)).alloc (.cells #[.slice Al l0.length cl] 26)) Try.prog 3 (plainElem Try.prog 4)
  simp only [World.size_alloc] at n1 n2 n3 n4
  refine ⟨?_, blk_alloc (blk_alloc (blk_alloc (blk_alloc n0 _) _) _) _, blk_alloc (blk_alloc (blk_alloc n1 _) _) _, n4, ?_, ⟨blk_alloc n3 _, Kd.Q_nil _ _ _ _ _, ⟨.map [], (n2.alloc _).alloc _, fun x _ => rfl⟩, ⟨by omega, by omega⟩⟩⟩
  · exact ((((HB.alloc hs _).alloc (by simp; omega) _).alloc (by simp; omega) _).alloc (by simp; omega) _).alloc (by simp; omega) _
  · exact Kd.R_alloc (Kd.R_alloc (Kd.R_alloc (Kd.R_alloc (Kd.R_alloc hl _) _) _) _) _

set_option maxRecDepth 100000 in
set_option maxHeartbeats 1000000 in
theorem grow_calls (w00 w : World) (A0 : Option Addr) (c0 : Nat) (l0 : List S48) (A1 : Option Addr) (c1 : Nat) (l1 : List Int) (Al : Option Addr) (cl : Nat)
    (HB : Aside0 (Below w00.heap.size w00 w)) (hr0 : Aside0 (k48.C w00 A0 l0.length l0)) (hr1 : Aside0 ((Kd.int .i64).C w00 A1 l1.length l1)) (hc0 : Aside0 (l0.length ≤ c0)) (hc1 : Aside0 (l1.length ≤ c1))
    (hl : Aside0 (Kd.bool.R 4 w w00.heap.size (fun _ => True) (.slice Al l0.length cl) (List.replicate l0.length false))) (hv : Aside0 (valid l0 l1 = true)) :
    Calls Try.prog 35 #[.agg #[.slice A0 l0.length c0, .slice A1 l1.length c1], .slice Al l0.length cl] w fun e w' => e = .returned (.slice Al l0.length cl) ∧ Below w00.heap.size w00 w' ∧ Kd.bool.R 4 w' w00.heap.size (fun _ => True) (.slice Al l0.length cl) (leastOf l0 l1) := by
  have hmm := @run_makeMap Try.prog
  have hle := (valid_facts hv.out).1
  have K0 : QOk l0 [] (fun _ => false) := ⟨List.nodup_nil, fun y => by simp, fun y hy => absurd hy (by simp)⟩
  have HA := Aside0.mk (all_calls w00 _ (w.heap.size) (w.heap.size + 1) (w.heap.size + 1 + 1 + 1 + 1) (w.heap.size + 1 + 1 + 1) (w.heap.size + 1 + 1) 0 A0 c0 l0 A1 c1 l1 (.slice Al l0.length cl) (List.replicate l0.length false) (.slice none 0 0) [] (fun _ => false) (GW.start w00 w A0 c0 l0 A1 c1 l1 Al cl _ HB.out hl.out) K0 hr0.out (by simp) hle (by omega))
  have HLE := Aside0.mk hle
  clear K0 hle
  go_enter Try.func35, Try.ntmps35
  go_wp2_with (first | (fail))
  go_at_call 41
  have HA2 := HA.out
  clear HA
  with_reducible refine HA2.mono ?_
  clear HA2 hmm
  rintro e w1 ⟨rfl, vq1, xs1, S1, G1, M1, K1, _, hJ1⟩
  have HG1 := Aside0.mk G1
  have HK1 := Aside0.mk K1
  obtain ⟨cp0, cp1, cl0, _, _⟩ := G1.cells
  clear G1 K1 M1
  have HP := Aside0.mk (relax_places.calls A0 c0 l0 A1 c1 l1 Al cl (List.replicate l0.length false) (placesOf l0 (List.replicate l0.length false)) w1 (Kd.C_below hr0.out HG1.out.below) hc0.out (Kd.C_below hr1.out HG1.out.below) hc1.out (by have := Kd.R_reads' HG1.out.rl; rw [List.length_replicate] at this ⊢; exact this.2.2) (by have := Kd.R_reads' HG1.out.rl; rw [List.length_replicate] at this ⊢; exact this.2.1) (by unfold relax_places.f; rw [if_pos ⟨by have := HLE.out; omega, by simp⟩]))
  rw [List.length_replicate] at HP
  go_wp2_with (first | (go_at_call 28; with_reducible refine HP.out.mono ?_; rintro e w2 ⟨va, rfl, ra, hb2⟩))
  have L0 : Aside0 (GL w00 w2 (w.heap.size) (w.heap.size + 1) (w.heap.size + 1 + 1 + 1 + 1) (w.heap.size + 1 + 1 + 1) (w.heap.size + 1 + 1) A0 c0 l0 A1 c1 l1 (.slice Al l0.length cl) va (List.replicate l0.length false) vq1 xs1 S1 (0 + l0.length) (short (List.replicate l0.length false) * 501 + xs1.length)) := by
    have hs := short_le (List.replicate l0.length false)
    rw [List.length_replicate] at hs
    have hle := HLE.out
    refine ⟨⟨HG1.out.fr (fr_below hb2), HK1.out, Inv.start l0 l1, Kd.R_lower ra HG1.out.below.size, fun k hk e => ?_, fun j hj h => Or.inl (hJ1 j hj h), Nat.le_refl _, by omega⟩⟩
    have h1 := Kd.Q_base (Kd.Q_of_R ra) k hk
    have h2 := Kd.Q_lt HG1.out.q.row k e.symm
    omega
  clear HG1 HK1 ra hb2 hJ1 HP cp0 cp1 cl0
  go_loopg [7] (short (List.replicate l0.length false) * 501 + xs1.length) (fun k v wr => ∃ long vq xs S n, GL w00 wr (w.heap.size) (w.heap.size + 1) (w.heap.size + 1 + 1 + 1 + 1) (w.heap.size + 1 + 1 + 1) (w.heap.size + 1 + 1) A0 c0 l0 A1 c1 l1 (.slice Al l0.length cl) v long vq xs S n k)
  case atStart => exact ⟨_, _, _, _, _, L0.out⟩
  case round =>
    clear L0
    obtain ⟨long, vq, xs, S, n, L⟩ := hrel
    have HL := Aside0.mk L
    obtain ⟨cp0, cp1, cl0, cq0, cg0⟩ := L.G.cells
    obtain ⟨Aq, cq, rfl, hcq, rq⟩ := Kd.Q_reads L.G.q.row
    cases xs with
    | nil =>
      clear L rq hcq
      go_wp2
      go_ret
      exact ⟨rfl, HL.out.G.below, by have := HL.out.G.rl; rw [HL.out.stab hv.out] at this; exact this⟩
    | cons x xs' =>
      obtain ⟨i, rfl, hi, hj⟩ := L.K.jump x List.mem_cons_self
      obtain ⟨adq, eq, hxq⟩ := Kd.at_int rq 0 (by omega) (by simp)
      cases eq
      have hxq' : wr.cell? adq = some (.int .i64 (i : Int)) := by
        have e : YtclmipjoebbeiaaW.PrintWords.rd ((i : Int) :: xs') 0 = (i : Int) := rfl
        rw [e] at hxq
        simpa [Addr.add] using hxq
      have hle := HLE.out
      have HT := Aside0.mk (take_calls w00.heap.size (w.heap.size + 1 + 1 + 1) (w.heap.size + 1 + 1) n adq cq (i : Int) xs' S wr (by simpa using HL.out.G.q) HL.out.G.below.size ⟨by omega, by omega⟩ (by simpa using hcq) hxq')
      clear L rq hcq hxq hxq'
      go_wp2_with (first | (fail))
      go_at_call 43
      with_reducible refine HT.out.mono ?_
      clear HT cp0 cp1 cl0 cq0 cg0
      rintro e w3 ⟨rfl, v3, hq3, hf3, ho3⟩
      have G3 := HL.out.G.move hq3 ⟨hf3, ho3⟩
      obtain ⟨ra3, ne3⟩ := HL.out.G.ra HL.out.ra HL.out.ne ⟨hf3, ho3⟩
      obtain ⟨cp0, cp1, cl0, cq0, cg0⟩ := G3.cells
      have hlen := HL.out.I.len
      obtain ⟨gl, cap, eA, _, _, _⟩ := Kd.R_form G3.rl (by omega)
      injection eA with eA1 eA2 eA3
      subst eA1
      subst eA3
      have hb0 := (Kd.R_celln false G3.rl (i : Int) (by omega) (by omega)).1
      have hfz := (Kd.R_celln false G3.rl (i : Int) (by omega) (by omega)).2
      rw [Int.toNat_natCast] at hb0 hfz
      have hil : (i : Int) < (l0.length : Int) := by omega
      have K3 := HL.out.K.take
      have ok3 : ∀ j, j < l0.length → j ≠ i → shortJ l0 long j → setS S (i : Int) false (j : Int) = true ∨ shortOk l0 l1 (placesOf l0 long) j = true := fun j hj' hne hsh => by
        rcases HL.out.ok j hj' hsh with h | h
        · exact Or.inl (setS_false.2 ⟨by omega, h⟩)
        · exact Or.inr h
      obtain ⟨bb, hbb⟩ : ∃ b, b = long.getD i false := ⟨_, rfl⟩
      have hb0' : w3.cell? ⟨gl, i, none⟩ = some (.bool bb) := by rw [hbb, hb0]; simp [rdOf]
      clear hb0
      have HBB := Aside0.mk hbb
      have HG3 := Aside0.mk G3
      have HR3 := Aside0.mk ra3
      have HN3 := Aside0.mk ne3
      have HK3 := Aside0.mk K3
      have HO3 := Aside0.mk ok3
      have HLEN := Aside0.mk hlen
      have HI := Aside0.mk hi
      have HJ := Aside0.mk hj
      clear hbb G3 ra3 ne3 K3 ok3 hq3 hf3 ho3 hlen hi hj hle eA2
      cases bb with
      | true =>
        go_wp2
        go_roundg (short long * 501 + xs'.length)
        case measure => have := HL.out.hk; simp at this; omega
        case rel => exact ⟨long, v3, xs', _, n, ⟨HG3.out, HK3.out, HL.out.I, HR3.out, HN3.out, fun j hj' hsh => HO3.out j hj' (fun e => by rw [e] at hsh; have := hsh.2; rw [← HBB.out] at this; cases this) hsh, Nat.le_refl _, HL.out.hn⟩⟩
      | false =>
        have hj1 : jumpAt l0 i = true := by simpa [jumpAt] using HJ.out
        obtain ⟨Aa, ca, rfl, hca, rca⟩ := Kd.R_reads HR3.out
        have hpl : (placesOf l0 long).length = l0.length + 1 := by simp [placesOf]
        have hrf := reaches_f hv.out HI.out hj1 hpl false
        rw [if_neg (by decide)] at hrf
        have HRC := Aside0.mk (relax_reaches.calls A0 c0 l0 A1 c1 l1 Aa ca (placesOf l0 long) (i : Int) false _ w3 (Kd.C_below hr0.out HG3.out.below) hc0.out (Kd.C_below hr1.out HG3.out.below) hc1.out rca hca hrf)
        obtain ⟨rr, hrr⟩ : ∃ r, r = shortOk l0 l1 (placesOf l0 long) i := ⟨_, rfl⟩
        rw [← hrr] at HRC
        have HRR := Aside0.mk hrr
        clear hrf rca hca hpl hrr
        go_wp2_with (first | (fail))
        go_at_call 31
        with_reducible refine HRC.out.mono ?_
        clear HRC cp0 cp1 cl0 cq0 cg0 hb0' hfz
        rintro e w4 ⟨rfl, hb4⟩
        have G4 := HG3.out.fr (fr_below hb4)
        have r4 : (Kd.int .i64).R 3 w4 w00.heap.size (fun _ => True) (.slice Aa (placesOf l0 long).length ca) (placesOf l0 long) := R_int_fr HR3.out (fr_below hb4) (fun _ _ e => e)
        have HG4 := Aside0.mk G4
        have HR4 := Aside0.mk r4
        clear r4 hb4
        cases rr with
        | true =>
          clear G4
          go_wp2
          go_roundg (short long * 501 + xs'.length)
          case measure => have := HL.out.hk; simp at this; omega
          case rel => exact ⟨long, v3, xs', _, n, ⟨HG4.out, HK3.out, HL.out.I, HR4.out, HN3.out, fun j hj' hsh => by
            by_cases e : j = i
            · rw [e]; exact Or.inr HRR.out.symm
            · exact HO3.out j hj' e hsh, Nat.le_refl _, HL.out.hn⟩⟩
        | false =>
          have hi := HI.out
          have hlen := HLEN.out
          have hle := HLE.out
          obtain ⟨cp0, cp1, cl0, cq0, cg0⟩ := G4.cells
          have hb0 := (Kd.R_celln false G4.rl (i : Int) (by omega) (by omega)).1
          have hfz := (Kd.R_celln false G4.rl (i : Int) (by omega) (by omega)).2
          rw [Int.toNat_natCast] at hb0 hfz
          have hb0' : w4.cell? ⟨gl, i, none⟩ = some (.bool false) := by
            have e : rdOf false long (i : Int) = long.getD i false := by simp [rdOf]
            rw [hb0, e, ← HBB.out]
          clear hb0
          have G5 := G4.set i
          have I5 : Inv l0 l1 (long.set i true) := HL.out.I.step hv.out hi hj1 HRR.out.symm
          have hsh5 := short_set long i (by omega) HBB.out.symm
          have HS5 := Aside0.mk hsh5
          have HI5 := Aside0.mk I5
          have HG5 := Aside0.mk G5
          obtain ⟨dp0, dp1, dl0, dq0, dg0⟩ := G5.cells
          have hlen5 : (long.set i true).length = l0.length := by rw [List.length_set]; exact hlen
          have HP := Aside0.mk (relax_places.calls A0 c0 l0 A1 c1 l1 (some ⟨gl, 0, none⟩) cl (long.set i true) (placesOf l0 (long.set i true)) (w4.setCell ⟨gl, i, none⟩ (.bool true)) (Kd.C_below hr0.out G5.below) hc0.out (Kd.C_below hr1.out G5.below) hc1.out (by have := Kd.R_reads' G5.rl; rw [hlen5] at this ⊢; exact this.2.2) (by have := Kd.R_reads' G5.rl; rw [hlen5] at this ⊢; exact this.2.1) (by unfold relax_places.f; rw [if_pos ⟨by omega, hlen5⟩]))
          rw [hlen5] at HP
          clear G4 G5 I5 hsh5 hi hlen hle hlen5
          go_wp2_with (first | (fail))
          go_at_call 28
          with_reducible refine HP.out.mono ?_
          clear HP cp0 cp1 cl0 cq0 cg0 dp0 dp1 dl0 dq0 dg0 hb0' hfz
          rintro e w6 ⟨va6, rfl, ra6, hb6⟩
          have G6 := HG5.out.fr (fr_below hb6)
          have r6 := Kd.R_lower ra6 HG5.out.below.size
          have n6 : ∀ k, va6.ownBlock = some k → some k ≠ v3.ownBlock := fun k hk e => by
            have h1 := Kd.Q_base (Kd.Q_of_R ra6) k hk
            have h2 := Kd.Q_lt HG5.out.q.row k e.symm
            omega
          obtain ⟨cp0, cp1, cl0, cq0, cg0⟩ := G6.cells
          have HG6 := Aside0.mk G6
          have HR6 := Aside0.mk r6
          have HN6 := Aside0.mk n6
          have HA6 := Aside0.mk (all_calls w00 w6 (w.heap.size) (w.heap.size + 1) (w.heap.size + 1 + 1 + 1 + 1) (w.heap.size + 1 + 1 + 1) (w.heap.size + 1 + 1) n A0 c0 l0 A1 c1 l1 (.slice (some ⟨gl, 0, none⟩) l0.length cl) (long.set i true) v3 xs' (setS S (i : Int) false) G6 HK3.out hr0.out (by rw [List.length_set]; exact HLEN.out) HLE.out (by have := HL.out.hn; omega))
          clear G6 r6 n6 ra6 hb6
          go_wp2_with (first | (fail))
          go_at_call 41
          with_reducible refine HA6.out.mono ?_
          clear HA6 cp0 cp1 cl0 cq0 cg0
          rintro e w7 ⟨rfl, v7, xs7, S7, G7, M7, K7, _, hJ7⟩
          obtain ⟨r7, n7⟩ := HG6.out.ra HR6.out HN6.out M7
          have HL7 : Aside0 (GL w00 w7 (w.heap.size) (w.heap.size + 1) (w.heap.size + 1 + 1 + 1 + 1) (w.heap.size + 1 + 1 + 1) (w.heap.size + 1 + 1) A0 c0 l0 A1 c1 l1 (.slice (some ⟨gl, 0, none⟩) l0.length cl) va6 (long.set i true) v7 xs7 S7 (n + l0.length) (short (long.set i true) * 501 + xs7.length)) :=
            ⟨⟨G7, K7, HI5.out, r7, n7, fun j hj' h => Or.inl (hJ7 j hj' h), Nat.le_refl _, by have := HL.out.hn; have := HS5.out; have := HLE.out; omega⟩⟩
          have hm7 : Aside0 (short (long.set i true) * 501 + xs7.length < gk) := ⟨by have := K7.length; have := HL.out.hk; have := HS5.out; have := HLE.out; simp at *; omega⟩
          clear G7 M7 K7 hJ7 r7 n7
          go_wp2
          go_roundg (short (long.set i true) * 501 + xs7.length)
          case measure => exact hm7.out
          case rel => exact ⟨_, _, _, _, _, HL7.out⟩
