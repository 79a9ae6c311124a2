/- The queue of package relax (type queue at int): its state in memory, put, take: contracts. -/
import Derived.Maps.Own
import Derived.Maps.OwnSet
import Derived.Maps.Views
import Derived.WalkKit
import Derived.WalkArith
import Derived.Test.YtclmipjoebbeiaaIter
namespace Go.Proofs.Ytclmipjoebbeiaa.Q
open Go.ChangeMaps Go.RowKit Go.Maps Go.Proofs.YtclmipjoebbeiaaW.PrintWords Go.Proofs.YtclmipjoebbeiaaW.PrintLast Go.Proofs.YtclmipjoebbeiaaW.PrintMore
set_option linter.unusedVariables false
set_option linter.unusedSimpArgs false
attribute [local go_sem] Oper.semAt_some

/-- Only the blocks of X may be others. -/
structure Fr (w w' : World) (X : Nat → Prop) : Prop where
  os : w'.os = w.os
  tape : w'.tape = w.tape
  output : w'.output = w.output
  size : w.heap.size ≤ w'.heap.size
  block : ∀ k, k < w.heap.size → ¬ X k → w'.heap[k]? = w.heap[k]?
theorem Fr.refl (w : World) (X : Nat → Prop) : Fr w w X := ⟨rfl, rfl, rfl, Nat.le_refl _, fun _ _ _ => rfl⟩
theorem Fr.grown {w w1 w2 : World} {X : Nat → Prop} (h : Fr w w1 X) {row : Option Nat} (hg : w1.grownBy w2 row) (hX : ∀ k, k < w.heap.size → some k = row → X k) : Fr w w2 X :=
  ⟨hg.os.trans h.os, hg.tape.trans h.tape, hg.output.trans h.output, Nat.le_trans h.size hg.size, fun k hk hn => (hg.block k (Nat.lt_of_lt_of_le hk h.size) (fun e => hn (hX k hk e))).trans (h.block k hk hn)⟩
theorem Fr.trans {w w1 w2 : World} {X Y : Nat → Prop} (h : Fr w w1 X) (h' : Fr w1 w2 Y) (hX : ∀ k, k < w.heap.size → Y k → X k) : Fr w w2 X :=
  ⟨h'.os.trans h.os, h'.tape.trans h.tape, h'.output.trans h.output, Nat.le_trans h.size h'.size, fun k hk hn => (h'.block k (Nat.lt_of_lt_of_le hk h.size) (fun e => hn (hX k hk e))).trans (h.block k hk hn)⟩
theorem Fr.below {w0 w w1 : World} {B : Nat} {X : Nat → Prop} (h : Fr w w1 X) (hb : Below B w0 w) (hB : B ≤ w.heap.size) (hX : ∀ k, X k → B ≤ k) : Below B w0 w1 :=
  hb.trans ⟨h.os, h.tape, h.output, h.size, fun k hk => h.block k (by omega) (fun e => absurd (hX k e) (by omega))⟩
theorem Fr.drewN {w w1 : World} {X : Nat → Prop} (h : Fr w w1 X) (n : Nat) : Fr w (w1.drewN n) X := ⟨h.os, h.tape, h.output, h.size, h.block⟩
theorem grown_turned {w w' : World} {b : Nat} (h : w.mapTurned w' b) : w.grownBy w' (some b) := by
  obtain ⟨es, clock, es', clock', hb, rfl⟩ := h
  exact ⟨rfl, rfl, rfl, by simp [setBlock], fun i _ hi => heap_setBlock_other hb _ (fun e => hi (by rw [e]))⟩
theorem blk_fr {w w1 : World} {g : Nat} {o : Obj} {X : Nat → Prop} (h : w.heap[g]? = some o) (hf : Fr w w1 X) (hn : ¬ X g) : w1.heap[g]? = some o := (hf.block g (blk_lt h) hn).trans h

/-! ### The map -/
theorem plainElem_bool_inv {H : Type} {P : Program} {e : TypeId} (he : P.underlying e = some .bool) {v : Value} {z : DataW H × List MemPlace} (h : plainElem P e v = some z) : ∃ b, v = .bool b ∧ z = (.lit (.bool b), []) := by
  unfold plainElem at h
  rw [he] at h
  cases v <;> simp at h
  exact ⟨_, rfl, h.symm⟩
theorem key3 : Keyed Try.prog 3 := int_keyed Try.underlying3
theorem zero4 (w : World) : (zeroValue 4).run Try.prog w = .ok (.bool false) w := by kernel_rfl
def inI (x : Int) : Prop := -9223372036854775808 ≤ x ∧ x ≤ 9223372036854775807
theorem keyOf3 {x : Int} (h : inI x) : keyOf Try.prog 3 (.int .i64 x) = some (.int .i64 x) := keyOf_int_mk Try.underlying3 (WalkArith.wf_i64 h)
/-- The map says of each key whether it is in S. -/
def MapIs (w : World) (b n : Nat) (S : Int → Bool) : Prop := ∃ D : DataW Unit, w.ownsMap Try.prog 3 (plainElem Try.prog 4) b n D ∧ ∀ x, inI x → D.atKey (.int .i64 x) (.lit (.bool false)) = .lit (.bool (S x))
theorem MapIs.look {w : World} {b n : Nat} {S : Int → Bool} (h : MapIs w b n S) {x : Int} (hx : inI x) : (Instr.lookup 66 (.map (some b)) (.int .i64 x) false).run Try.prog w = .ok (.bool (S x)) w := by
  obtain ⟨D, ho, hD⟩ := h
  obtain ⟨v, ps, hrun, hv⟩ := ho.lookup key3 Try.underlying66 (zero4 w) (plainElem_bool Try.underlying4 false) (keyOf3 hx)
  obtain ⟨c, rfl, hc⟩ := plainElem_bool_inv Try.underlying4 hv
  simp only [Prod.mk.injEq] at hc
  rw [hD x hx] at hc
  simp at hc
  rw [hc.1]
  exact hrun
theorem MapIs.kept {w w' : World} {b n : Nat} {S : Int → Bool} (h : MapIs w b n S) (hg : w'.heap[b]? = w.heap[b]?) : MapIs w' b n S := by
  obtain ⟨D, ⟨es, clock, hb, r⟩, hD⟩ := h
  exact ⟨D, ⟨es, clock, hg.trans hb, r⟩, hD⟩
theorem MapIs.mono {w : World} {b n n' : Nat} {S : Int → Bool} (h : MapIs w b n S) (hn : n ≤ n') : MapIs w b n' S := by
  obtain ⟨D, ho, hD⟩ := h
  exact ⟨D, ho.mono hn, hD⟩
def setS (S : Int → Bool) (x : Int) (v : Bool) : Int → Bool := fun y => if y = x then v else S y
theorem MapIs.putD {w : World} {b n : Nat} {S : Int → Bool} {D : DataW Unit} (ho : w.ownsMap Try.prog 3 (plainElem Try.prog 4) b n D) (hD : ∀ x, inI x → D.atKey (.int .i64 x) (.lit (.bool false)) = .lit (.bool (S x))) {x : Int} (hx : inI x)
    {w' : World} {n' : Nat} (ho' : w'.ownsMap Try.prog 3 (plainElem Try.prog 4) b n' (D.put (.int .i64 x) (.lit (.bool true)))) : MapIs w' b n' (setS S x true) := by
  refine ⟨_, ho', fun y hy => ?_⟩
  unfold setS
  by_cases e : y = x
  · rw [if_pos e, e]
    exact atKey_put_same ho.isMap (by simp [WideAt.IsKeyLit]) _ _
  · rw [if_neg e, atKey_put_other (fun h => e (by injection h))]
    exact hD y hy
theorem MapIs.delD {b : Nat} {S : Int → Bool} {D : DataW Unit} (hD : ∀ x, inI x → D.atKey (.int .i64 x) (.lit (.bool false)) = .lit (.bool (S x))) {x : Int} (hx : inI x)
    {w' : World} {n' : Nat} (ho' : w'.ownsMap Try.prog 3 (plainElem Try.prog 4) b n' (D.del (.int .i64 x))) : MapIs w' b n' (setS S x false) := by
  refine ⟨_, ho', fun y hy => ?_⟩
  unfold setS
  by_cases e : y = x
  · rw [if_pos e, e]
    exact atKey_del_same _
  · rw [if_neg e, atKey_del_other (fun h => e (by injection h))]
    exact hD y hy
theorem MapIs.isMap {w : World} {b n : Nat} {S : Int → Bool} (h : MapIs w b n S) : ∃ es clock, w.heap[b]? = some (.map es clock) := by
  obtain ⟨D, ⟨es, clock, hb, _⟩, _⟩ := h
  exact ⟨es, clock, hb⟩

/-- The queue at block g: its list xs and the set S of what waits; in the map at most n. -/
structure QSt (w : World) (B g b n : Nat) (v : Value) (xs : List Int) (S : Int → Bool) : Prop where
  blk : w.heap[g]? = some (.cells #[v, .map (some b)] 68 (0, 0))
  row : (Kd.int .i64).Q 3 w B (fun _ => True) v xs
  map : MapIs w b n S
  hb : B ≤ b ∧ B ≤ g
theorem QSt.ne {w : World} {B g b n : Nat} {v : Value} {xs : List Int} {S : Int → Bool} (h : QSt w B g b n v xs S) : g ≠ b ∧ some g ≠ v.ownBlock ∧ some b ≠ v.ownBlock := by
  obtain ⟨es, clock, hm⟩ := h.map.isMap
  refine ⟨?_, ?_, ?_⟩
  · rintro rfl
    rw [h.blk] at hm
    cases hm
  · exact Kd.Q_ne h.row h.blk (by decide)
  · intro e
    obtain ⟨cells, hc⟩ := Kd.Q_typed h.row b e.symm
    rw [hm] at hc
    cases hc
theorem QSt.kept {w w' : World} {B g b n : Nat} {v : Value} {xs : List Int} {S : Int → Bool} (h : QSt w B g b n v xs S) {X : Nat → Prop} (hf : Fr w w' X) (h1 : ¬ X g) (h2 : ¬ X b) (h3 : ∀ k, v.ownBlock = some k → ¬ X k) : QSt w' B g b n v xs S := by
  obtain ⟨es, clock, hm⟩ := h.map.isMap
  exact ⟨blk_fr h.blk hf h1, Kd.Q_mono (Kd.Q_step (Kd.Q_bound (ok := fun k => some k = v.ownBlock) (by
    have := h.row
    exact ⟨fun k hk => hk.symm, this.2.choose, this.2.choose_spec.1, this.2.choose_spec.2⟩)) (fun k hk hlt => hf.block k hlt (h3 k hk.1.symm))) (fun _ _ => trivial), h.map.kept (hf.block b (blk_lt hm) h2), h.hb⟩

theorem infoI3 : (Try.prog.info? 3).map (fun i => (i.zero, i.size, i.bytes)) = some (some (.int .i64 0), 1, 8) := by kernel_rfl
theorem Q_kept {w w' : World} {B : Nat} {v : Value} {xs : List Int} {row : Option Nat} (h : (Kd.int .i64).Q 3 w B (fun _ => True) v xs) (hg : w.grownBy w' row) (h3 : ∀ k, v.ownBlock = some k → some k ≠ row) : (Kd.int .i64).Q 3 w' B (fun _ => True) v xs :=
  Kd.Q_mono (Kd.Q_step (Kd.Q_bound (ok := fun k => some k = v.ownBlock) ⟨fun k hk => hk.symm, h.2.choose, h.2.choose_spec.1, h.2.choose_spec.2⟩) (fun k hk hlt => hg.block k hlt (h3 k hk.1.symm))) (fun _ _ => trivial)
theorem Q_fr {w w' : World} {B : Nat} {v : Value} {xs : List Int} {X : Nat → Prop} (h : (Kd.int .i64).Q 3 w B (fun _ => True) v xs) (hg : Fr w w' X) (h3 : ∀ k, v.ownBlock = some k → ¬ X k) : (Kd.int .i64).Q 3 w' B (fun _ => True) v xs :=
  Kd.Q_mono (Kd.Q_step (Kd.Q_bound (ok := fun k => some k = v.ownBlock) ⟨fun k hk => hk.symm, h.2.choose, h.2.choose_spec.1, h.2.choose_spec.2⟩) (fun k hk hlt => hg.block k hlt (h3 k hk.1.symm))) (fun _ _ => trivial)
/-- What a put or a take leaves. -/
def Left (w w' : World) (B g b n : Nat) (v : Value) (xs : List Int) (S : Int → Bool) : Prop :=
  ∃ v', QSt w' B g b n v' xs S ∧ Fr w w' (fun k => k = g ∨ k = b ∨ some k = v.ownBlock) ∧ (v'.ownBlock = v.ownBlock ∨ v'.ownBlock = none ∨ ∃ k, v'.ownBlock = some k ∧ w.heap.size ≤ k)

set_option maxRecDepth 100000 in
set_option maxHeartbeats 2000000 in
theorem put_has (B g b n : Nat) (v : Value) (xs : List Int) (S : Int → Bool) (w : World) (h : QSt w B g b n v xs S) (x : Int) (hx : inI x) (hs : S x = true) :
    Calls Try.prog 42 #[.pointer (some ⟨g, 0, none⟩), .int .i64 x] w fun e w' => e = .returned (.tuple #[]) ∧ w' = w := by
  have c1 : w.cell? ⟨g, 1, none⟩ = some (.map (some b)) := (blk_cell h.blk 1).trans rfl
  have hl := h.map.look hx
  rw [hs] at hl
  clear h
  go_enter Try.func42, Try.ntmps42
  go_wp2
  refine bodyPost_end (results_none rfl _ _ _) rfl ?_
  exact ⟨rfl, rfl⟩
set_option maxRecDepth 100000 in
set_option maxHeartbeats 2000000 in
theorem put_new (B g b n : Nat) (v : Value) (xs : List Int) (S : Int → Bool) (w : World) (h : QSt w B g b n v xs S) (hB : B ≤ w.heap.size) (x : Int) (hx : inI x) (hs : S x = false) (hn : n < 1000000) (hl : xs.length ≤ 100000) :
    Calls Try.prog 42 #[.pointer (some ⟨g, 0, none⟩), .int .i64 x] w fun e w' => e = .returned (.tuple #[]) ∧ Left w w' B g b (n + 1) v (xs ++ [x]) (setS S x true) := by
  have c1 : w.cell? ⟨g, 1, none⟩ = some (.map (some b)) := (blk_cell h.blk 1).trans rfl
  have hlk := h.map.look hx
  rw [hs] at hlk
  have hkey := keyOf3 hx
  obtain ⟨D, ho, hD⟩ := h.map
  have H := Aside0.mk h
  have hmax : n < maxLen := by unfold maxLen; omega
  clear h
  go_enter Try.func42, Try.ntmps42
  go_wp2_with (first
    | (at_mapUpdate; refine wpList_mapUpdate_own _ rfl _ _ _ 66 rfl 3 4 key3 Try.underlying66 _ b n D rfl ho hmax _ _ _ rfl rfl hkey _ [] (plainElem_bool Try.underlying4 true) ?_; intro w1 ho1 hg1; have d0 : w1.cell? ⟨g, 0, none⟩ = some v := (blk_cell (blk_grown H.out.blk hg1 (fun e => H.out.ne.1 (by injection e))) 0).trans rfl)
    | (at_builtin; refine Kd.Q_append (Kd.int .i64) B rfl _ _ 23 3 (.int .i64 0) 8 rfl Try.underlying23 infoI3 rfl (by decide) (by decide) v xs x [.int .i64 x] (fun _ => True) (fun k => some k ≠ v.ownBlock) rfl rfl rfl (fun _ hk => ⟨trivial, hk⟩) (fun _ _ => trivial) (Q_kept H.out.row hg1 (fun k hk e => H.out.ne.2.2 (e.symm.trans hk.symm))) (Below.refl B w1) (Nat.le_trans hB hg1.size) (by omega) ?_; intro v1 w2 hq2 hb2 hg2 hloc2; obtain ⟨A1, k1, rfl, _⟩ := Kd.Q_slice hq2; have d2 : w2.heap[g]? = some (.cells #[v, .map (some b)] 68 (0, 0)) := blk_grown (blk_grown H.out.blk hg1 (fun e => H.out.ne.1 (by injection e))) hg2 H.out.ne.2.1; have e2 : w2.cell? ⟨g, 0, none⟩ = some v := (blk_cell d2 0).trans rfl; have f2 := blk_frozen d2 0))
  refine bodyPost_end (results_none rfl _ _ _) rfl ?_
  have hlen : (xs ++ [x]).length = xs.length + 1 := by simp
  rw [hlen] at hq2 hloc2
  refine ⟨rfl, _, ⟨blk_set d2 0 _, ?_, ?_, H.out.hb⟩, ?_, ?_⟩
  · exact Kd.Q_set hq2 d2 (by decide) 0 _
  · have hbg : b ≠ g := fun e => H.out.ne.1 e.symm
    have e1 : (w2.setCell ⟨g, 0, none⟩ (.slice A1 (xs.length + 1) k1)).heap[b]? = w1.heap[b]? := (Below.heap_setCell w2 _ _ b hbg).trans (hg2.block b ho1.lt (fun e => H.out.ne.2.2 e))
    exact (MapIs.putD ho hD hx ho1).kept e1
  · refine Fr.trans (((Fr.refl w _).grown hg1 (fun k _ e => Or.inr (Or.inl (by injection e)))).grown hg2 (fun k _ e => Or.inr (Or.inr e))) (Y := fun k => k = g) ⟨rfl, rfl, rfl, by simp, fun k hk hn => Below.heap_setCell w2 _ _ k hn⟩ (fun k _ e => Or.inl e)
  · rcases hloc2 with e | ⟨k, e1, e2⟩
    · exact Or.inl e
    · exact Or.inr (Or.inr ⟨k, e1, Nat.le_trans hg1.size e2⟩)

theorem put_calls (B g b n : Nat) (v : Value) (xs : List Int) (S : Int → Bool) (w : World) (h : QSt w B g b n v xs S) (hB : B ≤ w.heap.size) (x : Int) (hx : inI x) (hn : n < 1000000) (hl : xs.length ≤ 100000) :
    Calls Try.prog 42 #[.pointer (some ⟨g, 0, none⟩), .int .i64 x] w fun e w' => e = .returned (.tuple #[]) ∧ Left w w' B g b (n + 1) v (if S x = true then xs else xs ++ [x]) (setS S x true) := by
  by_cases hs : S x = true
  · rw [if_pos hs]
    refine (put_has B g b n v xs S w h x hx hs).mono ?_
    rintro e w' ⟨rfl, rfl⟩
    have e : setS S x true = S := by
      funext y
      unfold setS
      split
      · rename_i e; rw [e, hs]
      · rfl
    rw [e]
    exact ⟨rfl, v, ⟨h.blk, h.row, h.map.mono (by omega), h.hb⟩, Fr.refl _ _, Or.inl rfl⟩
  · rw [if_neg hs]
    exact put_new B g b n v xs S w h hB x hx (by simpa using hs) hn hl

set_option maxRecDepth 100000 in
set_option maxHeartbeats 2000000 in
theorem take_calls (B g b n : Nat) (ad : Addr) (c : Nat) (x : Int) (xs : List Int) (S : Int → Bool) (w : World) (h : QSt w B g b n (.slice (some ad) (xs.length + 1) c) (x :: xs) S) (hB : B ≤ w.heap.size) (hx : inI x) (hc : xs.length + 1 ≤ c) (hat : w.cell? ad = some (.int .i64 x)) :
    Calls Try.prog 43 #[.pointer (some ⟨g, 0, none⟩)] w fun e w' => e = .returned (.int .i64 x) ∧ Left w w' B g b n (.slice (some ad) (xs.length + 1) c) xs (setS S x false) := by
  have c0 : w.cell? ⟨g, 0, none⟩ = some (.slice (some ad) (xs.length + 1) c) := (blk_cell h.blk 0).trans rfl
  have f0 := blk_frozen h.blk 0
  have hkey := keyOf3 hx
  obtain ⟨D, ho, hD⟩ := h.map
  have H := Aside0.mk h
  clear h
  have p0 : (0 : Int) < ((xs.length + 1 : Nat) : Int) := by omega
  have p1 : (1 : Int) ≤ ((xs.length + 1 : Nat) : Int) := by omega
  have p2 : (1 : Int) ≤ (xs.length : Int) + 1 := by omega
  go_enter Try.func43, Try.ntmps43
  go_wp2
  refine start_ (n := 16) (S := fun w' => ∃ m, w' = w.drewN m) (ds := [15]) #[false, false, false, false, false, false, false, false, false, false, false, false, false, false, false, false] (by kernel_rfl) rfl rfl ⟨1, rfl⟩ ?_
  intro hS0
  obtain ⟨m0, hm0⟩ := hS0
  rw [hm0]
  clear hm0
  refine pure_ (i := 1) (N := (some 4)) (v := ?_) (a' := ?_) #[false, true, false, false, false, false, false, false, false, false, false, false, false, false, false, false] rfl rfl (by kernel_rfl) (fun _ _ _ h => h) (Or.inl ⟨by rfl, ?_⟩) ?_ ?_
  rotate_left
  · intro w'
    go_simp
    with_reducible rfl
  rotate_left
  · simp only [Act.put, List.setIfInBounds_toArray, List.set_cons_zero, List.set_cons_succ, i64_w, i32_w]
    rfl
  refine pure_ (i := 2) (N := (some 5)) (v := ?_) (a' := ?_) #[false, true, true, false, false, false, false, false, false, false, false, false, false, false, false, false] rfl rfl (by kernel_rfl) (fun _ _ _ h => h) (Or.inl ⟨by rfl, ?_⟩) ?_ ?_
  rotate_left
  · intro w'
    go_simp
    with_reducible rfl
  rotate_left
  · simp only [Act.put, List.setIfInBounds_toArray, List.set_cons_zero, List.set_cons_succ, i64_w, i32_w]
    rfl
  refine pure_ (i := 3) (N := (some 6)) (v := ?_) (a' := ?_) #[false, true, true, true, false, false, false, false, false, false, false, false, false, false, false, false] rfl rfl (by kernel_rfl) (fun _ _ _ h => h) (Or.inl ⟨by rfl, ?_⟩) ?_ ?_
  rotate_left
  · intro w'
    go_simp
    with_reducible rfl
  rotate_left
  · simp only [Act.put, List.setIfInBounds_toArray, List.set_cons_zero, List.set_cons_succ, i64_w, i32_w]
    rfl
  refine take_ (i := 4) (N := (some 7)) (v := ?_) (a' := ?_) #[false, true, true, true, true, false, false, false, false, false, false, false, false, false, false, false] rfl rfl (by kernel_rfl) (fun _ _ _ h => h) (Or.inl ⟨by rfl, ?_⟩) ⟨_, rfl⟩ ?_ ?_
  rotate_left
  · rintro w' ⟨m, rfl⟩
    go_simp
    with_reducible rfl
  rotate_left
  · simp only [Act.put, List.setIfInBounds_toArray, List.set_cons_zero, List.set_cons_succ, i64_w, i32_w]
    rfl
  refine pure_ (i := 5) (N := (some 8)) (v := ?_) (a' := ?_) #[false, true, true, true, true, true, false, false, false, false, false, false, false, false, false, false] rfl rfl (by kernel_rfl) (fun _ _ _ h => h) (Or.inl ⟨by rfl, ?_⟩) ?_ ?_
  rotate_left
  · intro w'
    go_simp
    with_reducible rfl
  rotate_left
  · simp only [Act.put, List.setIfInBounds_toArray, List.set_cons_zero, List.set_cons_succ, i64_w, i32_w]
    rfl
  refine take_ (i := 6) (N := (some 9)) (v := ?_) (a' := ?_) #[false, true, true, true, true, true, true, false, false, false, false, false, false, false, false, false] rfl rfl (by kernel_rfl) (fun _ _ _ h => h) (Or.inl ⟨by rfl, ?_⟩) ⟨_, rfl⟩ ?_ ?_
  rotate_left
  · rintro w' ⟨m, rfl⟩
    go_simp
    with_reducible rfl
  rotate_left
  · simp only [Act.put, List.setIfInBounds_toArray, List.set_cons_zero, List.set_cons_succ, i64_w, i32_w]
    rfl
  refine pure_ (i := 7) (N := (some 10)) (v := ?_) (a' := ?_) #[false, true, true, true, true, true, true, true, false, false, false, false, false, false, false, false] rfl rfl (by kernel_rfl) (fun _ _ _ h => h) (Or.inl ⟨by rfl, ?_⟩) ?_ ?_
  rotate_left
  · intro w'
    go_simp
    with_reducible rfl
  rotate_left
  · simp only [Act.put, List.setIfInBounds_toArray, List.set_cons_zero, List.set_cons_succ, i64_w, i32_w]
    rfl
  refine pure_ (i := 8) (N := (some 11)) (v := ?_) (a' := ?_) #[false, true, true, true, true, true, true, true, true, false, false, false, false, false, false, false] rfl rfl (by kernel_rfl) (fun _ _ _ h => h) (Or.inl ⟨by rfl, ?_⟩) ?_ ?_
  rotate_left
  · intro w'
    go_simp
    with_reducible rfl
  rotate_left
  · simp only [Act.put, List.setIfInBounds_toArray, List.set_cons_zero, List.set_cons_succ, i64_w, i32_w]
    rfl
  refine pure_ (i := 9) (N := (some 12)) (v := ?_) (a' := ?_) #[false, true, true, true, true, true, true, true, true, true, false, false, false, false, false, false] rfl rfl (by kernel_rfl) (fun _ _ _ h => h) (Or.inl ⟨by rfl, ?_⟩) ?_ ?_
  rotate_left
  · intro w'
    go_simp
    with_reducible rfl
  rotate_left
  · simp only [Act.put, List.setIfInBounds_toArray, List.set_cons_zero, List.set_cons_succ, i64_w, i32_w]
    rfl
  refine take_ (i := 10) (N := (some 13)) (v := ?_) (a' := ?_) #[false, true, true, true, true, true, true, true, true, true, true, false, false, false, false, false] rfl rfl (by kernel_rfl) (fun _ _ _ h => h) (Or.inl ⟨by rfl, ?_⟩) ⟨_, rfl⟩ ?_ ?_
  rotate_left
  · rintro w' ⟨m, rfl⟩
    go_simp
    with_reducible rfl
  rotate_left
  · simp only [Act.put, List.setIfInBounds_toArray, List.set_cons_zero, List.set_cons_succ, i64_w, i32_w]
    rfl
  refine pure_ (i := 11) (N := (some 14)) (v := ?_) (a' := ?_) #[false, true, true, true, true, true, true, true, true, true, true, true, false, false, false, false] rfl rfl (by kernel_rfl) (fun _ _ _ h => h) (Or.inl ⟨by rfl, ?_⟩) ?_ ?_
  rotate_left
  · intro w'
    go_simp
    with_reducible rfl
  rotate_left
  · simp only [Act.put, List.setIfInBounds_toArray, List.set_cons_zero, List.set_cons_succ, i64_w, i32_w]
    rfl
  refine pure_ (i := 12) (N := (some 2)) (v := ?_) (a' := ?_) #[false, true, true, true, true, true, true, true, true, true, true, true, true, false, false, false] rfl rfl (by kernel_rfl) (fun _ _ _ h => h) (Or.inl ⟨by rfl, ?_⟩) ?_ ?_
  rotate_left
  · intro w'
    go_simp
    with_reducible rfl
  rotate_left
  · simp only [Act.put, List.setIfInBounds_toArray, List.set_cons_zero, List.set_cons_succ, i64_w, i32_w]
    rfl
  refine pure_ (i := 0) (N := (some 3)) (v := ?_) (a' := ?_) #[true, true, true, true, true, true, true, true, true, true, true, true, true, false, false, false] rfl rfl (by kernel_rfl) (fun _ _ _ h => h) (Or.inl ⟨by rfl, ?_⟩) ?_ ?_
  rotate_left
  · intro w'
    go_simp
    with_reducible rfl
  rotate_left
  · simp only [Act.put, List.setIfInBounds_toArray, List.set_cons_zero, List.set_cons_succ, i64_w, i32_w]
    rfl
  refine pure_ (i := 13) (N := (some 15)) (v := ?_) (a' := ?_) #[true, true, true, true, true, true, true, true, true, true, true, true, true, true, false, false] rfl rfl (by kernel_rfl) (fun _ _ _ h => h) (Or.inl ⟨by rfl, ?_⟩) ?_ ?_
  rotate_left
  · intro w'
    go_simp
    with_reducible rfl
  rotate_left
  · simp only [Act.put, List.setIfInBounds_toArray, List.set_cons_zero, List.set_cons_succ, i64_w, i32_w]
    rfl
  refine pure_ (i := 14) (N := (some 16)) (v := ?_) (a' := ?_) #[true, true, true, true, true, true, true, true, true, true, true, true, true, true, true, false] rfl rfl (by kernel_rfl) (fun _ _ _ h => h) (Or.inl ⟨by rfl, ?_⟩) ?_ ?_
  rotate_left
  · intro w'
    go_simp
    with_reducible rfl
  rotate_left
  · simp only [Act.put, List.setIfInBounds_toArray, List.set_cons_zero, List.set_cons_succ, i64_w, i32_w]
    rfl
  refine last_ (i := 15) (N := none) #[true, true, true, true, true, true, true, true, true, true, true, true, true, true, true, true] rfl rfl (by kernel_rfl) (by decide) (fun K hK => ?_)
  refine skip_ (w1 := ?_) (by rfl) rfl ?_ ?_
  rotate_left
  · go_simp
    rfl
  refine hK.out _ _ ?_
  clear hK K
  refine done_ (by kernel_rfl) ?_
  have hv : (Kd.int .i64).Q 3 w B (fun _ => True) (.slice (if c = 1 then some ad else some ⟨ad.block, ad.off + 1, none⟩) xs.length (c - 1)) xs := by
    have := Kd.Q_drop (k := 1) H.out.row (by simp)
    simpa [Addr.add, show (Kd.int .i64).sz = 1 from rfl] using this
  have hbg : b ≠ g := fun e => H.out.ne.1 e.symm
  have hown : (Value.slice (if c = 1 then some ad else some ⟨ad.block, ad.off + 1, none⟩) xs.length (c - 1)).ownBlock = (Value.slice (some ad) (xs.length + 1) c).ownBlock ∨ (Value.slice (if c = 1 then some ad else some ⟨ad.block, ad.off + 1, none⟩) xs.length (c - 1)).ownBlock = none := by
    by_cases e : c = 1
    · rw [if_pos e]; simp [Value.ownBlock]
    · rw [if_neg e]; simp [Value.ownBlock]
  generalize hV : (Value.slice (if c = 1 then some ad else some ⟨ad.block, ad.off + 1, none⟩) xs.length (c - 1)) = V at hv hown ⊢
  have hfW : Fr w ((w.drewN m0).setCell ⟨g, 0, none⟩ V) (fun k => k = g) := ⟨rfl, rfl, rfl, by simp, fun k hk hn => Below.heap_setCell (w.drewN m0) _ _ k hn⟩
  have hbW : ((w.drewN m0).setCell ⟨g, 0, none⟩ V).heap[g]? = some (.cells #[V, .map (some b)] 68 (0, 0)) := blk_set (w := w.drewN m0) H.out.blk 0 V
  have hoW : ((w.drewN m0).setCell ⟨g, 0, none⟩ V).ownsMap Try.prog 3 (plainElem Try.prog 4) b n D := World.ownsMap.setCell (w := w.drewN m0) ho hbg V
  generalize (w.drewN m0).setCell ⟨g, 0, none⟩ V = W at hfW hbW hoW ⊢
  have cW1 : W.cell? ⟨g, 1, none⟩ = some (.map (some b)) := (blk_cell hbW 1).trans rfl
  go_wp2_with (first
    | (at_delete; refine wpList_delete_own _ rfl _ _ 66 3 rfl 4 key3 Try.underlying66 _ b n D rfl hoW _ _ rfl hkey ?_; intro w1 ho1 ht1))
  go_ret
  have hg1 := grown_turned ht1
  have hF : Fr w w1 (fun k => k = g ∨ k = b) := Fr.trans (X := fun k => k = g ∨ k = b) ⟨hfW.os, hfW.tape, hfW.output, hfW.size, fun k hk hn => hfW.block k hk (fun e => hn (Or.inl e))⟩ ((Fr.refl W (fun k => k = b)).grown hg1 (fun k _ e => by injection e)) (fun k _ e => Or.inr e)
  have n1 : some g ≠ V.ownBlock := Kd.Q_ne hv H.out.blk (by decide)
  have n2 : some b ≠ V.ownBlock := fun e => by
    obtain ⟨cells, hc'⟩ := Kd.Q_typed hv b e.symm
    obtain ⟨es, clock, hm⟩ := H.out.map.isMap
    rw [hm] at hc'
    cases hc'
  refine ⟨rfl, V, ⟨blk_grown hbW hg1 (fun e => hbg (Option.some.inj e).symm), Q_fr hv hF (fun k hk e => e.elim (fun e => n1 (by rw [hk, e])) (fun e => n2 (by rw [hk, e]))), MapIs.delD hD hx ho1, H.out.hb⟩, ?_, ?_⟩
  · exact ⟨hF.os, hF.tape, hF.output, hF.size, fun k hk hn => hF.block k hk (fun e => hn (e.elim Or.inl (fun e => Or.inr (Or.inl e))))⟩
  · rcases hown with e | e
    · exact Or.inl e
    · exact Or.inr (Or.inl e)

/-! ### The state of function grow in memory, and its closure 'all' -/
/-- A queue's move from v to v'. -/
def Moves (w w' : World) (g b : Nat) (v v' : Value) : Prop := Fr w w' (fun k => k = g ∨ k = b ∨ some k = v.ownBlock) ∧ (v'.ownBlock = v.ownBlock ∨ v'.ownBlock = none ∨ ∃ k, v'.ownBlock = some k ∧ w.heap.size ≤ k)
theorem Moves.refl (w : World) (g b : Nat) (v : Value) : Moves w w g b v v := ⟨Fr.refl _ _, Or.inl rfl⟩
theorem Moves.trans {w w1 w2 : World} {g b : Nat} {v v1 v2 : Value} (h : Moves w w1 g b v v1) (h' : Moves w1 w2 g b v1 v2) : Moves w w2 g b v v2 := by
  refine ⟨h.1.trans h'.1 (fun k hk e => ?_), ?_⟩
  · rcases e with e | e | e
    · exact Or.inl e
    · exact Or.inr (Or.inl e)
    · rcases h.2 with e' | e' | ⟨j, e', hj⟩
      · exact Or.inr (Or.inr (e.trans e'))
      · rw [e'] at e; cases e
      · rw [e'] at e
        have := Option.some.inj e
        omega
  · rcases h'.2 with e | e | ⟨j, e, hj⟩
    · rcases h.2 with e' | e' | ⟨j, e', hj⟩
      · exact Or.inl (e.trans e')
      · exact Or.inr (Or.inl (e.trans e'))
      · exact Or.inr (Or.inr ⟨j, e.trans e', hj⟩)
    · exact Or.inr (Or.inl e)
    · exact Or.inr (Or.inr ⟨j, e, Nat.le_trans h.1.size hj⟩)
theorem Fr.moves {w w' : World} (h : Fr w w' (fun _ => False)) (g b : Nat) (v : Value) : Moves w w' g b v v := ⟨⟨h.os, h.tape, h.output, h.size, fun k hk hn => h.block k hk (fun e => e)⟩, Or.inl rfl⟩
theorem Fr.alloc (w : World) (o : Obj) : Fr w (w.alloc o) (fun _ => False) := ⟨rfl, rfl, rfl, by simp, fun k hk _ => Below.heap_alloc w o k hk⟩

/-- grow's memory: the boxes of the program, the choice, the queue; the choice's row; the queue. -/
structure GW (w00 w : World) (bp bl bq g b n : Nat) (A0 : Option Addr) (c0 : Nat) (l0 : List S48) (A1 : Option Addr) (c1 : Nat) (l1 : List Int) (vl : Value) (long : List Bool) (vq : Value) (xs : List Int) (S : Int → Bool) : Prop where
  below : Below w00.heap.size w00 w
  bp : w.heap[bp]? = some (.cells #[.slice A0 l0.length c0, .slice A1 l1.length c1] 25 (0, 0))
  bl : w.heap[bl]? = some (.cells #[vl] 26 (0, 0))
  bq : w.heap[bq]? = some (.cells #[.pointer (some ⟨g, 0, none⟩)] 65 (0, 0))
  rl : Kd.bool.R 4 w w00.heap.size (fun _ => True) vl long
  q : QSt w w00.heap.size g b n vq xs S
theorem R_bool_fr {w w' : World} {B : Nat} {v : Value} {xs : List Bool} {X : Nat → Prop} (h : Kd.bool.R 4 w B (fun _ => True) v xs) (hg : Fr w w' X) (h3 : ∀ k, v.ownBlock = some k → ¬ X k) : Kd.bool.R 4 w' B (fun _ => True) v xs :=
  Kd.R_mono (Kd.R_step (Kd.R_bound (ok := fun k => some k = v.ownBlock) ⟨fun k hk => hk.symm, h.2.choose, h.2.choose_spec.1, h.2.choose_spec.2⟩) (fun k hk hlt => hg.block k hlt (h3 k hk.1.symm))) (fun _ _ => trivial)
theorem R_own {w : World} {B : Nat} {v : Value} {xs : List Bool} (h : Kd.bool.R 4 w B (fun _ => True) v xs) {k : Nat} (hk : v.ownBlock = some k) : ∃ cells, w.heap[k]? = some (.cells cells 4 (0, 0)) := Kd.Q_typed (Kd.Q_of_R h) k hk
section
variable {w00 w w' : World} {bp bl bq g b n : Nat} {A0 : Option Addr} {c0 : Nat} {l0 : List S48} {A1 : Option Addr} {c1 : Nat} {l1 : List Int} {vl : Value} {long : List Bool} {vq : Value} {xs : List Int} {S : Int → Bool}
theorem typ_ne {w : World} {k k' : Nat} {cs cs' : Array Value} {t t' : TypeId} (h : w.heap[k]? = some (.cells cs t (0, 0))) (h' : w.heap[k']? = some (.cells cs' t' (0, 0))) (hne : t ≠ t') : k ≠ k' := blk_ne h h' hne
/-- The three boxes and the choice's row are none of what a queue's move touches. -/
theorem GW.apart (G : GW w00 w bp bl bq g b n A0 c0 l0 A1 c1 l1 vl long vq xs S) {k : Nat} {cs : Array Value} {t : TypeId} (hk : w.heap[k]? = some (.cells cs t (0, 0))) (h68 : t ≠ 68) (h3 : t ≠ 3) : ¬ (k = g ∨ k = b ∨ some k = vq.ownBlock) := by
  rintro (e | e | e)
  · exact typ_ne hk G.q.blk h68 e
  · obtain ⟨es, clock, hm⟩ := G.q.map.isMap
    rw [e, hm] at hk
    cases hk
  · obtain ⟨cells, hc⟩ := Kd.Q_typed G.q.row k e.symm
    rw [hc] at hk
    injection hk with hk
    injection hk with _ hk
    exact h3 hk.symm
theorem GW.base (G : GW w00 w bp bl bq g b n A0 c0 l0 A1 c1 l1 vl long vq xs S) : ∀ k, (k = g ∨ k = b ∨ some k = vq.ownBlock) → w00.heap.size ≤ k := by
  rintro k (e | e | e)
  · rw [e]; exact G.q.hb.2
  · rw [e]; exact G.q.hb.1
  · exact Kd.Q_base G.q.row k e.symm
/-- A queue's move, in grow's memory. -/
theorem GW.move (G : GW w00 w bp bl bq g b n A0 c0 l0 A1 c1 l1 vl long vq xs S) {n' : Nat} {vq' : Value} {xs' : List Int} {S' : Int → Bool} (hq : QSt w' w00.heap.size g b n' vq' xs' S') (hm : Moves w w' g b vq vq') :
    GW w00 w' bp bl bq g b n' A0 c0 l0 A1 c1 l1 vl long vq' xs' S' := by
  refine ⟨hm.1.below G.below G.below.size G.base, blk_fr G.bp hm.1 (G.apart G.bp (by decide) (by decide)), blk_fr G.bl hm.1 (G.apart G.bl (by decide) (by decide)), blk_fr G.bq hm.1 (G.apart G.bq (by decide) (by decide)), ?_, hq⟩
  refine R_bool_fr G.rl hm.1 (fun k hk => ?_)
  obtain ⟨cells, hc⟩ := R_own G.rl hk
  exact G.apart hc (by decide) (by decide)
theorem GW.alloc (G : GW w00 w bp bl bq g b n A0 c0 l0 A1 c1 l1 vl long vq xs S) (o : Obj) : GW w00 (w.alloc o) bp bl bq g b n A0 c0 l0 A1 c1 l1 vl long vq xs S :=
  G.move (G.q.kept (Fr.alloc w o) (fun e => e) (fun e => e) (fun _ _ e => e)) ((Fr.alloc w o).moves _ _ _)
theorem GW.more (G : GW w00 w bp bl bq g b n A0 c0 l0 A1 c1 l1 vl long vq xs S) {n' : Nat} (hn : n ≤ n') : GW w00 w bp bl bq g b n' A0 c0 l0 A1 c1 l1 vl long vq xs S :=
  ⟨G.below, G.bp, G.bl, G.bq, G.rl, ⟨G.q.blk, G.q.row, G.q.map.mono hn, G.q.hb⟩⟩
end

/-- A short jump. -/
def shortJ (l0 : List S48) (long : List Bool) (i : Nat) : Prop := 0 ≤ (l0.getD i z48).f2 ∧ long.getD i false = false
/-- What waits: each once, jumps all of them. -/
structure QOk (l0 : List S48) (xs : List Int) (S : Int → Bool) : Prop where
  nodup : xs.Nodup
  mem : ∀ y, S y = true ↔ y ∈ xs
  jump : ∀ y ∈ xs, ∃ i : Nat, y = (i : Int) ∧ i < l0.length ∧ 0 ≤ (l0.getD i z48).f2
theorem QOk.put {l0 : List S48} {xs : List Int} {S : Int → Bool} (h : QOk l0 xs S) {i : Nat} (hi : i < l0.length) (hj : 0 ≤ (l0.getD i z48).f2) : QOk l0 (if S (i : Int) = true then xs else xs ++ [(i : Int)]) (setS S i true) := by
  by_cases hs : S (i : Int) = true
  · rw [if_pos hs]
    refine ⟨h.nodup, fun y => ?_, h.jump⟩
    unfold setS
    by_cases e : y = (i : Int)
    · rw [if_pos e, e]; exact ⟨fun _ => (h.mem _).1 hs, fun _ => rfl⟩
    · rw [if_neg e]; exact h.mem y
  · rw [if_neg hs]
    have hn : (i : Int) ∉ xs := fun hm => hs ((h.mem _).2 hm)
    refine ⟨?_, fun y => ?_, fun y hy => ?_⟩
    · rw [List.nodup_append]
      refine ⟨h.nodup, by simp, fun a ha b hb e => ?_⟩
      rw [List.mem_singleton] at hb
      exact hn (by rw [← hb, ← e]; exact ha)
    · unfold setS
      rw [List.mem_append, List.mem_singleton]
      by_cases e : y = (i : Int)
      · rw [if_pos e]; exact ⟨fun _ => Or.inr e, fun _ => rfl⟩
      · rw [if_neg e, h.mem y]; exact ⟨Or.inl, fun h => h.resolve_right e⟩
    · rcases List.mem_append.1 hy with hy | hy
      · exact h.jump y hy
      · exact ⟨i, List.mem_singleton.1 hy, hi, hj⟩
theorem nodup_le : ∀ (xs ys : List Int), xs.Nodup → (∀ y ∈ xs, y ∈ ys) → xs.length ≤ ys.length
  | [], ys, _, _ => Nat.zero_le _
  | x :: xs, ys, hd, h => by
    rw [List.nodup_cons] at hd
    have hx := h x List.mem_cons_self
    have := nodup_le xs (ys.erase x) hd.2 (fun y hy => (List.mem_erase_of_ne (fun e => hd.1 (by rw [← e]; exact hy))).2 (h y (List.mem_cons_of_mem _ hy)))
    rw [List.length_erase_of_mem hx] at this
    have hp : 0 < ys.length := List.length_pos_of_mem hx
    rw [List.length_cons]
    omega
theorem nodup_length {m : Nat} {xs : List Int} (hd : xs.Nodup) (hx : ∀ y ∈ xs, ∃ i : Nat, y = (i : Int) ∧ i < m) : xs.length ≤ m := by
  have := nodup_le xs ((List.range m).map (fun i : Nat => (i : Int))) hd (fun y hy => by
    obtain ⟨i, rfl, hi⟩ := hx y hy
    exact List.mem_map.2 ⟨i, List.mem_range.2 hi, rfl⟩)
  simpa using this
theorem QOk.length {l0 : List S48} {xs : List Int} {S : Int → Bool} (h : QOk l0 xs S) : xs.length ≤ l0.length := nodup_length h.nodup (fun y hy => by obtain ⟨i, e, hi, _⟩ := h.jump y hy; exact ⟨i, e, hi⟩)
theorem setS_le {S : Int → Bool} {x y : Int} (h : S y = true) : setS S x true y = true := by
  unfold setS; split
  · rfl
  · exact h

/-- What the closure 'all' leaves. -/
def AllLeft (w00 w w' : World) (bp bl bq g b n : Nat) (A0 : Option Addr) (c0 : Nat) (l0 : List S48) (A1 : Option Addr) (c1 : Nat) (l1 : List Int) (vl : Value) (long : List Bool) (vq : Value) (xs : List Int) (S : Int → Bool) (m : Nat) : Prop :=
  ∃ vq' xs' S', GW w00 w' bp bl bq g b (n + m) A0 c0 l0 A1 c1 l1 vl long vq' xs' S' ∧ Moves w w' g b vq vq' ∧ QOk l0 xs' S' ∧ (∀ y, S y = true → S' y = true) ∧ ∀ j : Nat, j < m → shortJ l0 long j → S' (j : Int) = true

section
variable {w00 w w1 : World} {bp bl bq g b n : Nat} {A0 : Option Addr} {c0 : Nat} {l0 : List S48} {A1 : Option Addr} {c1 : Nat} {l1 : List Int} {vl : Value} {long : List Bool} {vq : Value} {xs : List Int} {S : Int → Bool} {i : Nat}
theorem AllLeft.skip (h : AllLeft w00 w w1 bp bl bq g b n A0 c0 l0 A1 c1 l1 vl long vq xs S i) (hs : ¬ shortJ l0 long i) (o : Obj) : AllLeft w00 w (w1.alloc o) bp bl bq g b n A0 c0 l0 A1 c1 l1 vl long vq xs S (i + 1) := by
  obtain ⟨vq', xs', S', G1, M1, K1, hS, hJ⟩ := h
  refine ⟨vq', xs', S', (G1.alloc o).more (by omega), M1.trans ((Fr.alloc w1 o).moves _ _ _), K1, hS, fun j hj h => ?_⟩
  by_cases e : j = i
  · rw [e] at h; exact absurd h hs
  · exact hJ j (by omega) h
theorem AllLeft.step {w2 : World} {vq' v2 : Value} {xs' : List Int} {S' : Int → Bool} {o : Obj} (G1 : GW w00 w1 bp bl bq g b (n + i) A0 c0 l0 A1 c1 l1 vl long vq' xs' S') (M1 : Moves w w1 g b vq vq') (K1 : QOk l0 xs' S') (hS : ∀ y, S y = true → S' y = true) (hJ : ∀ j : Nat, j < i → shortJ l0 long j → S' (j : Int) = true)
    (hi : i < l0.length) (hj : 0 ≤ (l0.getD i z48).f2) (hq : QSt w2 w00.heap.size g b (n + i + 1) v2 (if S' (i : Int) = true then xs' else xs' ++ [(i : Int)]) (setS S' i true)) (hf : Fr (w1.alloc o) w2 (fun k => k = g ∨ k = b ∨ some k = vq'.ownBlock))
    (ho : v2.ownBlock = vq'.ownBlock ∨ v2.ownBlock = none ∨ ∃ k, v2.ownBlock = some k ∧ (w1.alloc o).heap.size ≤ k) : AllLeft w00 w w2 bp bl bq g b n A0 c0 l0 A1 c1 l1 vl long vq xs S (i + 1) := by
  refine ⟨v2, _, _, (G1.alloc o).move hq ⟨hf, ho⟩, (M1.trans ((Fr.alloc w1 o).moves _ _ _)).trans ⟨hf, ho⟩, K1.put hi hj, fun y hy => setS_le (hS y hy), fun j hj' h => ?_⟩
  by_cases e : j = i
  · rw [e]; unfold setS; rw [if_pos rfl]
  · exact setS_le (hJ j (by omega) h)
end
set_option maxRecDepth 100000 in
set_option maxHeartbeats 4000000 in
theorem all_calls (w00 w : World) (bp bl bq g b n : Nat) (A0 : Option Addr) (c0 : Nat) (l0 : List S48) (A1 : Option Addr) (c1 : Nat) (l1 : List Int) (vl : Value) (long : List Bool) (vq : Value) (xs : List Int) (S : Int → Bool)
    (G : GW w00 w bp bl bq g b n A0 c0 l0 A1 c1 l1 vl long vq xs S) (K : QOk l0 xs S) (hr : k48.C w00 A0 l0.length l0) (hlen : long.length = l0.length) (hle : l0.length ≤ 500) (hn : n ≤ 400000) :
    Calls Try.prog 41 #[.pointer (some ⟨bp, 0, none⟩), .pointer (some ⟨bl, 0, none⟩), .pointer (some ⟨bq, 0, none⟩)] w fun e w' => e = .returned (.tuple #[]) ∧ AllLeft w00 w w' bp bl bq g b n A0 c0 l0 A1 c1 l1 vl long vq xs S l0.length := by
  obtain ⟨Al, cl, rfl, hcl, _⟩ := Kd.Q_reads (Kd.Q_of_R G.rl)
  have hp0 : w.cell? ⟨bp, 0, none⟩ = some (.slice A0 l0.length c0) := (blk_cell G.bp 0).trans rfl
  have HR := Aside0.mk hr
  have G0 : Aside0 (AllLeft w00 w w bp bl bq g b n A0 c0 l0 A1 c1 l1 (.slice Al long.length cl) long vq xs S 0) := ⟨vq, xs, S, G, Moves.refl _ _ _ _, K, fun _ h => h, fun j hj => absurd hj (by omega)⟩
  clear hr G K
  go_enter Try.func41, Try.ntmps41
  go_wp2
  go_loopw [8] (fun v wr => ∃ i : Nat, i ≤ l0.length ∧ v = .int .i64 i ∧ AllLeft w00 w wr bp bl bq g b n A0 c0 l0 A1 c1 l1 (.slice Al long.length cl) long vq xs S i) (fun v _ => l0.length - (intOf v).toNat)
  case atStart => exact ⟨0, Nat.zero_le _, rfl, G0.out⟩
  case round =>
    clear G0
    obtain ⟨i, hi, rfl, HA⟩ := hrel
    have HA := Aside0.mk HA
    by_cases hlt : i < l0.length
    · obtain ⟨vq', xs', S', G1, M1, K1, hS, hJ⟩ := HA.out
      have r0 := Kd.C_below HR.out G1.below
      obtain ⟨ad0, e0, hx0, hx1, hx2, hx3, hx4, hx5, hx6⟩ := at_T48 r0 (i : Int) (by omega) (by omega)
      obtain ⟨it, hit⟩ : ∃ s, s = rd_T48 l0 (i : Int) := ⟨_, rfl⟩
      rw [← hit] at hx0 hx1 hx2 hx3 hx4 hx5 hx6
      have HI : Aside0 (it = l0.getD i z48) := ⟨hit.trans (by simp [rd_T48])⟩
      clear hit r0
      cases e0
      obtain ⟨_, _, eA, _, rl⟩ := Kd.Q_reads (Kd.Q_of_R G1.rl)
      cases eA
      obtain ⟨ad1, e1, hb⟩ := Kd.at_bool rl (i : Int) (by omega) (by omega)
      cases e1
      clear rl
      obtain ⟨bb, hbb⟩ : ∃ b, b = long.getD i false := ⟨_, rfl⟩
      have hb' : wr.cell? (ad1.add (i : Int).toNat) = some (.bool bb) := by rw [hbb, hb]; simp [rdOf]
      have HB : Aside0 (bb = long.getD i false) := ⟨hbb⟩
      clear hbb hb
      have cbl : wr.cell? ⟨bl, 0, none⟩ = some (.slice (some ad1) long.length cl) := (blk_cell G1.bl 0).trans rfl
      have cbq : wr.cell? ⟨bq, 0, none⟩ = some (.pointer (some ⟨g, 0, none⟩)) := (blk_cell G1.bq 0).trans rfl
      have lt1 := blk_lt G1.bl
      have lt2 := blk_lt G1.bq
      simp only [Int.toNat_natCast] at hx0 hx1 hx2 hx3 hx4 hx5 hx6 hb'
      have lt3 := cell_lt hx0
      have lt4 := cell_lt hb'
      have hll : (i : Int) < (long.length : Int) := by omega
      have hli : (i : Int) < (l0.length : Int) := by omega
      have HG := Aside0.mk G1
      have HK := Aside0.mk K1
      have HM := Aside0.mk M1
      clear G1 K1 M1
      by_cases hj : it.f2 ≥ 0
      · cases bb with
        | true =>
          go_wp2
          go_roundw
          case rel => exact ⟨i + 1, by omega, by go_num, AllLeft.skip HA.out (fun h => by have h2 := h.2; rw [← HB.out] at h2; cases h2) _⟩
          case measure => simp [intOf]; omega
        | false =>
          go_wp2_with (first | (go_at_call 42; refine (put_calls w00.heap.size g b (n + i) vq' xs' S' _ (HG.out.alloc _).q (HG.out.alloc (.cells #[.int .i64 it.f0, .int .i64 it.f1, .int .i64 it.f2, .int .i64 it.f3, .int .i64 it.f4, .int .i64 it.f5, .int .i64 it.f6] 48)).below.size (i : Int) ⟨by omega, by omega⟩ (by omega) (by have := HK.out.length; omega)).mono ?_; rintro e w2 ⟨rfl, ⟨v2, hq, hf, ho⟩⟩))
          go_roundw
          case rel => exact ⟨i + 1, by omega, by go_num, AllLeft.step HG.out HM.out HK.out hS hJ hlt (by rw [← HI.out]; exact hj) hq hf ho⟩
          case measure => simp [intOf]; omega
      · go_wp2
        go_roundw
        case rel => exact ⟨i + 1, by omega, by go_num, AllLeft.skip HA.out (fun h => by have h1 := h.1; rw [← HI.out] at h1; exact hj h1) _⟩
        case measure => simp [intOf]; omega
    · obtain rfl : i = l0.length := by omega
      go_wp2
      refine bodyPost_end (results_none rfl _ _ _) rfl ?_
      exact ⟨rfl, HA.out⟩
